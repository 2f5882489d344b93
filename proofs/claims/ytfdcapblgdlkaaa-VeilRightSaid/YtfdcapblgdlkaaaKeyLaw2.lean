/- Keys: plain laws of renewing; the distance of hidden words. -/
import Derived.Test.YtfdcapblgdlkaaaKeyLaw
import Derived.Test.YtfdcapblgdlkaaaRow32
namespace Go.Proofs.Ytfdcapblgdlkaaa
open Go.RowKit

theorem comp_id {c : K} (hc : okK c = true) : compX ⟨c.bits, 0, 0#16⟩ c = c := by
  have h1 := ok_none hc
  obtain ⟨k2, e2, o2, d2⟩ := comp_law h1 hc rfl
  obtain ⟨pc, -, hc15, hf, -, -⟩ := ok_perm hc
  have hn : (K.mk c.bits 0 0#16).n = c.n := rfl
  rw [hn] at o2 d2
  have hp : (K.mk c.bits 0 0#16).p = 0 := rfl
  rw [hp, ord_none hc] at o2
  have lc : (ordN c.n c.p).length = c.n := ordN_len _ _
  refine key_eq k2 hc e2 ?_ ?_
  · rw [same_n e2, hn, o2]
    unfold compL
    apply List.ext_getElem?
    intro i
    rw [List.getElem?_map]
    rcases Nat.lt_or_ge i c.n with hi | hi
    · have hlt := getD_lt pc i hi
      rw [List.getD_eq_getElem?_getD, List.getElem?_eq_getElem (by omega)] at hlt
      rw [List.getElem?_eq_getElem (by omega)]
      simp only [Option.map_some, List.getD_eq_getElem?_getD]
      simp only [Option.getD_some] at hlt
      rw [List.getElem?_range hlt]; rfl
    · rw [List.getElem?_eq_none (by omega)]; rfl
  · rw [d2]
    have : perW (ordN c.n c.p) 0#16 = 0#16 := by
      apply BitVec.eq_of_getLsbD_eq
      intro i hi
      rw [perW_at _ _ _ hi]; simp
    show perW (ordN c.n c.p) 0#16 ^^^ c.pad = c.pad
    rw [this, BitVec.zero_xor]
/-- renewing twice is renewing once -/
theorem ren_twice {a b c : K} (ha : okK a = true) (hb : okK b = true) (hc : okK c = true) (hab : a.bits = b.bits) (hac : a.bits = c.bits) : compX (renX a b) (renX b c) = renX a c := by
  obtain ⟨ka, ea, -, -⟩ := inv_law ha
  obtain ⟨kb, eb, -, -⟩ := inv_law hb
  have hbc := hab.symm.trans hac
  obtain ⟨k1, e1, -, -⟩ := comp_law kb hc (eb.trans hbc)
  rw [ren_law ha hb hab, ren_law hb hc hbc, ren_law ha hc hac]
  rw [comp_assoc ka hb k1 (ea.trans hab) (by rw [e1, eb, ea, hab]), ← comp_assoc hb kb hc eb.symm hbc, comp_one hb]
  rw [show (⟨b.bits, 0, 0#16⟩ : K) = ⟨c.bits, 0, 0#16⟩ by rw [hbc], comp_id hc]
theorem ren_ok {a b : K} (ha : okK a = true) (hb : okK b = true) (hab : a.bits = b.bits) : okK (renX a b) = true ∧ (renX a b).bits = a.bits := by
  obtain ⟨ka, ea, -, -⟩ := inv_law ha
  obtain ⟨k1, e1, -, -⟩ := comp_law ka hb (ea.trans hab)
  rw [ren_law ha hb hab]
  exact ⟨k1, e1.trans ea⟩
/-- what an old key hides is turned into what a new one hides -/
theorem ren_hide {a b : K} (ha : okK a = true) (hb : okK b = true) (hab : a.bits = b.bits) {x : BitVec 16} (hx : fitB a.n x = true) : hideX (renX a b) (hideX a x) = hideX b x := by
  obtain ⟨ka, ea, -, -⟩ := inv_law ha
  obtain ⟨-, -, f1⟩ := hide_law ha hx
  rw [ren_law ha hb hab, ← comp_hide ka hb (ea.trans hab) (by rw [same_n ea]; exact f1), hide_back ha hx]
theorem sum_map (f : Nat → Int) : ∀ k, sumF f k = ((List.range k).map f).sum := by
  intro k
  induction k with
  | zero => rfl
  | succ k ih => rw [sumF, ih, List.range_succ, List.map_append, List.sum_append]; simp
theorem sum_perm {l l' : List Int} (h : l.Perm l') : l.sum = l'.sum := by
  induction h with
  | nil => rfl
  | cons x _ ih => simp only [List.sum_cons, ih]
  | swap x y l => simp only [List.sum_cons]; omega
  | trans _ _ h1 h2 => exact h1.trans h2
theorem sum_cut (f : Nat → Int) (n : Nat) (h : ∀ i, n ≤ i → f i = 0) : ∀ k, n ≤ k → sumF f k = sumF f n := by
  intro k
  induction k with
  | zero => intro hk; obtain rfl : n = 0 := by omega
            rfl
  | succ k ih =>
    intro hk
    rcases Nat.lt_or_ge k n with h1 | h1
    · obtain rfl : n = k + 1 := by omega
      rfl
    · rw [sumF, ih h1, h k h1]; omega
/-- the bits of a word that a permutation moves are as many -/
theorem far_perW {l : List Nat} {n : Nat} (hn : n ≤ 15) (hl : l.Perm (List.range n)) (z : BitVec 16) (hz : fitB n z = true) : sumF (bitI (perW l z)) 16 = sumF (bitI z) 16 := by
  have ll : l.length = n := by rw [hl.length_eq]; simp
  have h1 := (fit_iff n z).1 hz
  have h2 : ∀ i, n ≤ i → bitI z i = 0 := fun i hi => by unfold bitI; rw [h1 i hi]; rfl
  have h3 : ∀ i, n ≤ i → bitI (perW l z) i = 0 := fun i hi => by
    have hf := fit_perW l z
    rw [ll] at hf
    unfold bitI; rw [(fit_iff n _).1 hf i hi]; rfl
  rw [sum_cut _ n h3 16 (by omega), sum_cut _ n h2 16 (by omega), sum_map, sum_map]
  have h4 : (List.range n).map (bitI (perW l z)) = l.map (bitI z) := by
    have e := range_getD l
    rw [ll] at e
    have e2 : l.map (bitI z) = ((List.range n).map fun i => l.getD i 0).map (bitI z) := by rw [e]
    rw [e2, List.map_map]
    apply List.map_congr_left
    intro i hi
    have hi2 := List.mem_range.1 hi
    show bitI (perW l z) i = bitI z (l.getD i 0)
    unfold bitI
    rw [perW_at _ _ _ (by omega), ll, decide_eq_true hi2, Bool.true_and]
  rw [h4]
  exact sum_perm (hl.map _)
def far16 (x y : BitVec 16) : Int := sumF (bitI (x ^^^ y)) 16
theorem far16_in (x y : BitVec 16) : 0 ≤ far16 x y ∧ far16 x y ≤ 16 := sumF_in _ (fun i => bitI_in _ i) 16
theorem far_hide {a : K} (ha : okK a = true) {x y : BitVec 16} (hx : fitB a.n x = true) (hy : fitB a.n y = true) : far16 (hideX a x) (hideX a y) = far16 x y := by
  obtain ⟨-, q1, -⟩ := hide_law ha hx
  obtain ⟨-, q2, -⟩ := hide_law ha hy
  obtain ⟨pa, -, ha15, -, -, -⟩ := ok_perm ha
  have : hideX a x ^^^ hideX a y = perW (ordN a.n a.p) (x ^^^ y) := by
    rw [q1, q2, perW_xor]
    generalize perW (ordN a.n a.p) x = u
    generalize perW (ordN a.n a.p) y = v
    rw [BitVec.xor_comm v, BitVec.xor_assoc, ← BitVec.xor_assoc a.pad, BitVec.xor_self, BitVec.zero_xor]
  unfold far16
  rw [this]
  exact far_perW ha15 pa _ (fit_xor hx hy)
/-- words that are hidden as the same word are the same -/
theorem hide_inj {a : K} (ha : okK a = true) {x y : BitVec 16} (hx : fitB a.n x = true) (hy : fitB a.n y = true) : (hideX a x == hideX a y) = (x == y) := by
  rw [Bool.eq_iff_iff, beq_iff_eq, beq_iff_eq]
  constructor
  · intro h
    rw [← show_hide ha hx, h, show_hide ha hy]
  · intro h; rw [h]
/-- the words of 15 bits -/
theorem far_15 {x y : BitVec 16} (hx : fitB 15 x = true) (hy : fitB 15 y = true) : far16 x y = farS x y := by
  have h1 := (fit_iff 15 _).1 (fit_xor hx hy)
  unfold far16 farS
  rw [sum_cut (bitI (x ^^^ y)) 15 (fun i hi => by unfold bitI; rw [h1 i hi]; rfl) 16 (by omega)]
end Go.Proofs.Ytfdcapblgdlkaaa
