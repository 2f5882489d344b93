/- Keys: plain laws. -/
import Derived.Test.YtfdcapblgdlkaaaExp
import Derived.Test.YtfdcapblgdlkaaaRow32
namespace Go.Proofs.Ytfdcapblgdlkaaa
open Go.RowKit

theorem getD_lt {l : List Nat} {n : Nat} (h : l.Perm (List.range n)) (i : Nat) (hi : i < n) : l.getD i 0 < n := by
  have hl : l.length = n := by rw [h.length_eq]; simp
  have : l.getD i 0 ∈ l := by
    rw [List.getD_eq_getElem?_getD, List.getElem?_eq_getElem (by omega)]
    exact List.getElem_mem _
  exact List.mem_range.1 (h.subset this)
theorem compL_at (a b : List Nat) (i : Nat) (hi : i < b.length) : (compL a b).getD i 0 = a.getD (b.getD i 0) 0 := by
  unfold compL
  simp only [List.getD_eq_getElem?_getD, List.getElem?_map]
  rw [List.getElem?_eq_getElem hi]; rfl
theorem perW_comp {a b : List Nat} {n : Nat} (hn : n ≤ 15) (ha : a.Perm (List.range n)) (hb : b.Perm (List.range n)) (x : BitVec 16) : perW b (perW a x) = perW (compL a b) x := by
  have la : a.length = n := by rw [ha.length_eq]; simp
  have lb : b.length = n := by rw [hb.length_eq]; simp
  apply BitVec.eq_of_getLsbD_eq
  intro i hi
  rw [perW_at _ _ _ hi, perW_at _ _ _ hi, compL_len, lb]
  by_cases h : i < n
  · have h1 := getD_lt hb i h
    rw [perW_at _ _ _ (by omega), la, compL_at _ _ _ (by omega), decide_eq_true h1, decide_eq_true h, Bool.true_and]
  · simp [h]
theorem compL_assoc {a b c : List Nat} {n : Nat} (hb : b.Perm (List.range n)) (hc : c.Perm (List.range n)) : compL (compL a b) c = compL a (compL b c) := by
  have lb : b.length = n := by rw [hb.length_eq]; simp
  have lc : c.length = n := by rw [hc.length_eq]; simp
  unfold compL
  rw [List.map_map]
  apply List.map_congr_left
  intro i hi
  have hi2 := List.mem_range.1 (hc.subset hi)
  have := compL_at a b i (by omega)
  unfold compL at this
  exact this
theorem inv_at {l : List Nat} {n : Nat} (h : l.Perm (List.range n)) (i : Nat) (hi : i < n) : (inv l).getD i 0 = l.idxOf i := by
  have hl : l.length = n := by rw [h.length_eq]; simp
  unfold inv
  rw [List.getD_eq_getElem?_getD, List.getElem?_map, hl, List.getElem?_range hi]; rfl
theorem comp_inv {l : List Nat} {n : Nat} (h : l.Perm (List.range n)) : compL l (inv l) = List.range n := by
  have hl : l.length = n := by rw [h.length_eq]; simp
  apply List.ext_getElem?
  intro i
  rcases Nat.lt_or_ge i n with hi | hi
  · have h1 := compL_at l (inv l) i (by rw [inv_len]; omega)
    rw [inv_at h i hi] at h1
    have hm : i ∈ l := h.symm.subset (List.mem_range.2 hi)
    have hx : l.idxOf i < l.length := List.idxOf_lt_length_iff.2 hm
    rw [List.getElem?_range hi, List.getElem?_eq_getElem (by rw [compL_len, inv_len]; omega)]
    rw [List.getD_eq_getElem?_getD, List.getElem?_eq_getElem (by rw [compL_len, inv_len]; omega), List.getD_eq_getElem?_getD, List.getElem?_eq_getElem hx] at h1
    simp only [Option.getD_some] at h1
    rw [h1, List.getElem_idxOf]
  · rw [List.getElem?_eq_none (by rw [compL_len, inv_len]; omega), List.getElem?_eq_none (by simpa using hi)]
theorem inv_comp {l : List Nat} {n : Nat} (h : l.Perm (List.range n)) : compL (inv l) l = List.range n := by
  have hl : l.length = n := by rw [h.length_eq]; simp
  have hd : l.Nodup := h.symm.nodup List.nodup_range
  apply List.ext_getElem?
  intro i
  rcases Nat.lt_or_ge i n with hi | hi
  · have h1 := compL_at (inv l) l i (by omega)
    rw [inv_at h _ (getD_lt h i hi), idxOf_at hd i (by omega)] at h1
    rw [List.getElem?_range hi, List.getElem?_eq_getElem (by rw [compL_len]; omega)]
    rw [List.getD_eq_getElem?_getD, List.getElem?_eq_getElem (by rw [compL_len]; omega)] at h1
    simp only [Option.getD_some] at h1
    rw [h1]
  · rw [List.getElem?_eq_none (by rw [compL_len]; omega), List.getElem?_eq_none (by simpa using hi)]
theorem perW_range (n : Nat) (x : BitVec 16) (hx : fitB n x = true) : perW (List.range n) x = x := by
  apply BitVec.eq_of_getLsbD_eq
  intro i hi
  rw [perW_at _ _ _ hi, List.length_range]
  by_cases h : i < n
  · rw [List.getD_eq_getElem?_getD, List.getElem?_range h]; simp [h]
  · have := (fit_iff n x).1 hx i (by omega)
    simp [h, this]
theorem num_range (n : Nat) : num (List.range n) = 0 := by
  have h0 : 0 < factN n := fact_pos n
  have : ∀ (l : List Nat), l.Pairwise (· < ·) → num l = 0 := by
    intro l
    induction l with
    | nil => intro _; rfl
    | cons a r ih =>
      intro h
      obtain ⟨h1, h2⟩ := List.pairwise_cons.1 h
      have hc : r.countP (· < a) = 0 := by
        rw [List.countP_eq_zero]
        intro b hb
        have := h1 b hb
        simp; omega
      rw [num, ih h2, hc]; simp
  exact this _ List.pairwise_lt_range
/-- all that a valid key is -/
theorem comp_law {a b : K} (ha : okK a = true) (hb : okK b = true) (h : a.bits = b.bits) :
    okK (compX a b) = true ∧ (compX a b).bits = a.bits ∧ ordN a.n (compX a b).p = compL (ordN a.n a.p) (ordN a.n b.p) ∧ (compX a b).pad = perW (ordN a.n b.p) a.pad ^^^ b.pad := by
  obtain ⟨n, p, pad, rfl, hn, hp, hf⟩ := ok_split ha
  obtain ⟨n', p', pad', rfl, hn', hp', hf'⟩ := ok_split hb
  simp only at h
  obtain rfl : n = n' := by omega
  have h0 := both_ok ha hb rfl
  have hX : compX ⟨n, p, pad⟩ ⟨n, p', pad'⟩ = comK n p pad p' pad' := by unfold compX; rw [if_pos h0]; rfl
  rw [hX]
  refine ⟨ok_com hn hp hp' hf', rfl, ?_, rfl⟩
  exact ord_num (compL_perm (ordN_perm hp) (ordN_perm hp'))
theorem inv_law {a : K} (ha : okK a = true) :
    okK (invX a) = true ∧ (invX a).bits = a.bits ∧ ordN a.n (invX a).p = inv (ordN a.n a.p) ∧ (invX a).pad = perW (inv (ordN a.n a.p)) a.pad := by
  obtain ⟨n, p, pad, rfl, hn, hp, hf⟩ := ok_split ha
  have hX : invX ⟨n, p, pad⟩ = invK n p pad := by unfold invX; rw [if_pos ha]; rfl
  rw [hX]
  exact ⟨ok_inv hn hp, rfl, ord_num (inv_perm (ordN_len n p) (ordN_perm hp)), rfl⟩
theorem ok_perm {a : K} (ha : okK a = true) : (ordN a.n a.p).Perm (List.range a.n) ∧ 1 ≤ a.n ∧ a.n ≤ 15 ∧ fitB a.n a.pad = true ∧ a.bits = (a.n : Int) ∧ a.perm = (a.p : Int) := by
  obtain ⟨n, p, pad, rfl, hn, hp, hf⟩ := ok_split ha
  exact ⟨ordN_perm hp, hn.1, hn.2, hf, rfl, rfl⟩
theorem num_ord {a : K} (ha : okK a = true) : num (ordN a.n a.p) = a.p := by
  obtain ⟨n, p, pad, rfl, hn, hp, hf⟩ := ok_split ha
  exact num_dec n (List.range n) p (by simp) List.pairwise_lt_range hp
/-- keys with the same order and pad are equal -/
theorem key_eq {a b : K} (ha : okK a = true) (hb : okK b = true) (h : a.bits = b.bits) (ho : ordN a.n a.p = ordN b.n b.p) (hp : a.pad = b.pad) : a = b := by
  have h1 := num_ord ha
  have h2 := num_ord hb
  rw [ho, h2] at h1
  obtain ⟨-, -, -, -, -, e1⟩ := ok_perm ha
  obtain ⟨-, -, -, -, -, e2⟩ := ok_perm hb
  obtain ⟨ab, ap, ad⟩ := a
  obtain ⟨bb, bp, bd⟩ := b
  simp only at h hp e1 e2
  subst h hp
  rw [e1, e2, h1]
theorem hide_law {a : K} (ha : okK a = true) {x : BitVec 16} (hx : fitB a.n x = true) : askV a x = 0 ∧ hideX a x = perW (ordN a.n a.p) x ^^^ a.pad ∧ fitB a.n (hideX a x) = true := by
  have h0 := ask_fit ha hx
  have h1 : hideX a x = perW (ordN a.n a.p) x ^^^ a.pad := by unfold hideX; rw [if_pos h0]; rfl
  obtain ⟨-, -, -, hf, -, -⟩ := ok_perm ha
  refine ⟨h0, h1, ?_⟩
  rw [h1]
  exact fit_hidW hf
theorem show_law {a : K} (ha : okK a = true) {x : BitVec 16} (hx : fitB a.n x = true) : showX a x = perW (inv (ordN a.n a.p)) (x ^^^ a.pad) := by
  have h0 := ask_fit ha hx
  unfold showX; rw [if_pos h0]
theorem xor_back (a b : BitVec 16) : a ^^^ b ^^^ b = a := by rw [BitVec.xor_assoc, BitVec.xor_self, BitVec.xor_zero]
theorem same_n {a b : K} (h : a.bits = b.bits) : a.n = b.n := by unfold K.n; rw [h]
/-- composing is associative -/
theorem comp_assoc {a b c : K} (ha : okK a = true) (hb : okK b = true) (hc : okK c = true) (hab : a.bits = b.bits) (hac : a.bits = c.bits) : compX (compX a b) c = compX a (compX b c) := by
  obtain ⟨k1, e1, o1, d1⟩ := comp_law ha hb hab
  obtain ⟨k2, e2, o2, d2⟩ := comp_law hb hc (hab.symm.trans hac)
  obtain ⟨k3, e3, o3, d3⟩ := comp_law k1 hc (e1.trans hac)
  obtain ⟨k4, e4, o4, d4⟩ := comp_law ha k2 (hab.trans e2.symm)
  have n1 := same_n e1
  have nb := same_n hab
  have nc := same_n hac
  obtain ⟨pa, -, ha15, -, -, -⟩ := ok_perm ha
  obtain ⟨pb, -, -, -, -, -⟩ := ok_perm hb
  obtain ⟨pc, -, -, -, -, -⟩ := ok_perm hc
  rw [← nb] at o2 d2 pb
  rw [← nc] at pc
  rw [n1] at o3 d3
  refine key_eq k3 k4 (by rw [e3, e4, e1]) ?_ ?_
  · rw [same_n (e3.trans e1), same_n e4, o3, o4, o1, o2, compL_assoc pb pc]
  · rw [d3, d4, o2, d2, d1, perW_xor, perW_comp ha15 pb pc, BitVec.xor_assoc]
/-- a key and its inverse compose to the key that changes nothing -/
theorem ok_none {a : K} (ha : okK a = true) : okK ⟨a.bits, 0, 0#16⟩ = true := by
  obtain ⟨n, p, pad, rfl, hn, hp, hf⟩ := ok_split ha
  have := fact_pos n
  simp only [okK, Int.toNat_natCast, inB, Bool.and_eq_true, decide_eq_true_eq, fitB]
  refine ⟨⟨by omega, by omega⟩, ?_⟩
  have : 0 < 2 ^ n := Nat.two_pow_pos n
  simpa using this
theorem ord_none {a : K} (_ : okK a = true) : ordN a.n 0 = List.range a.n := by
  have := ord_num (n := a.n) (List.Perm.refl (List.range a.n))
  rwa [num_range] at this
theorem comp_one {a : K} (ha : okK a = true) : compX a (invX a) = ⟨a.bits, 0, 0#16⟩ := by
  obtain ⟨k1, e1, o1, d1⟩ := inv_law ha
  obtain ⟨k2, e2, o2, d2⟩ := comp_law ha k1 e1.symm
  obtain ⟨pa, -, ha15, -, -, -⟩ := ok_perm ha
  refine key_eq k2 (ok_none ha) e2 ?_ ?_
  · rw [same_n e2, o2, o1, comp_inv pa]
    exact (ord_none ha).symm
  · rw [d2, o1, d1, BitVec.xor_self]
theorem comp_two {a : K} (ha : okK a = true) : compX (invX a) a = ⟨a.bits, 0, 0#16⟩ := by
  obtain ⟨k1, e1, o1, d1⟩ := inv_law ha
  obtain ⟨k2, e2, o2, d2⟩ := comp_law k1 ha e1
  obtain ⟨pa, -, ha15, hf, -, -⟩ := ok_perm ha
  have n1 := same_n e1
  rw [n1] at o2 d2
  have pi := inv_perm (by rw [pa.length_eq]; simp) pa
  refine key_eq k2 (ok_none ha) (e2.trans e1) ?_ ?_
  · rw [same_n (e2.trans e1), o2, o1, inv_comp pa]
    exact (ord_none ha).symm
  · rw [d2, d1, perW_comp ha15 pi pa, inv_comp pa, perW_range _ _ hf, BitVec.xor_self]
/-- composing hides one after the other -/
theorem comp_hide {a b : K} (ha : okK a = true) (hb : okK b = true) (h : a.bits = b.bits) {x : BitVec 16} (hx : fitB a.n x = true) : hideX b (hideX a x) = hideX (compX a b) x := by
  obtain ⟨k1, e1, o1, d1⟩ := comp_law ha hb h
  obtain ⟨-, q1, f1⟩ := hide_law ha hx
  have nb := same_n h
  obtain ⟨-, q2, -⟩ := hide_law hb (x := hideX a x) (by rw [← nb]; exact f1)
  obtain ⟨-, q3, -⟩ := hide_law k1 (x := x) (by rw [same_n e1]; exact hx)
  obtain ⟨pa, -, ha15, -, -, -⟩ := ok_perm ha
  obtain ⟨pb, -, -, -, -, -⟩ := ok_perm hb
  rw [← nb] at pb q2
  rw [q2, q3, q1, same_n e1, o1, d1, perW_xor, perW_comp ha15 pa pb, BitVec.xor_assoc]
theorem show_hide {a : K} (ha : okK a = true) {x : BitVec 16} (hx : fitB a.n x = true) : showX a (hideX a x) = x := by
  obtain ⟨-, q1, f1⟩ := hide_law ha hx
  obtain ⟨pa, -, ha15, -, -, -⟩ := ok_perm ha
  have pi := inv_perm (by rw [pa.length_eq]; simp) pa
  rw [show_law ha f1, q1, xor_back, perW_comp ha15 pa pi, comp_inv pa, perW_range _ _ hx]
theorem hide_back {a : K} (ha : okK a = true) {x : BitVec 16} (hx : fitB a.n x = true) : hideX (invX a) (hideX a x) = x := by
  obtain ⟨k1, e1, o1, d1⟩ := inv_law ha
  obtain ⟨-, q1, f1⟩ := hide_law ha hx
  have nb := same_n e1
  obtain ⟨-, q2, -⟩ := hide_law k1 (x := hideX a x) (by rw [nb]; exact f1)
  obtain ⟨pa, -, ha15, -, -, -⟩ := ok_perm ha
  have pi := inv_perm (by rw [pa.length_eq]; simp) pa
  rw [q2, q1, nb, o1, d1, perW_xor, perW_comp ha15 pa pi, comp_inv pa, perW_range _ _ hx, xor_back]
/-- renewing is composing with the inverse -/
theorem ren_law {a b : K} (ha : okK a = true) (hb : okK b = true) (h : a.bits = b.bits) : renX a b = compX (invX a) b := by
  obtain ⟨k1, e1, -, -⟩ := inv_law ha
  have h0 := both_ok ha hb h
  have h1 := both_ok k1 hb (e1.trans h)
  unfold renX compX
  rw [if_pos h0, if_pos h1]
  obtain ⟨n, p, pad, rfl, hn, hp, hf⟩ := ok_split ha
  have hX : invX ⟨n, p, pad⟩ = invK n p pad := by unfold invX; rw [if_pos ha]; rfl
  rw [hX]
  rfl
end Go.Proofs.Ytfdcapblgdlkaaa
/- Keys: plain laws of renewing; the distance of hidden words. -/
namespace Go.Proofs.Ytfdcapblgdlkaaa
open Go.RowKit

theorem comp_id {c : K} (hc : okK c = true) : compX ⟨c.bits, 0, 0#16⟩ c = c := by
  have h1 := ok_none hc
  obtain ⟨k2, e2, o2, d2⟩ := comp_law h1 hc rfl
  obtain ⟨pc, -, hc15, hf, -, -⟩ := ok_perm hc
  have hn : (K.mk c.bits 0 0#16).n = c.n := rfl
  rw [hn] at o2 d2
  have hp : (K.mk c.bits 0 0#16).p = 0 := rfl
  rw [hp, ord_none hc] at o2
  have lc : (ordN c.n c.p).length = c.n := ordN_len _ _
  refine key_eq k2 hc e2 ?_ ?_
  · rw [same_n e2, hn, o2]
    unfold compL
    apply List.ext_getElem?
    intro i
    rw [List.getElem?_map]
    rcases Nat.lt_or_ge i c.n with hi | hi
    · have hlt := getD_lt pc i hi
      rw [List.getD_eq_getElem?_getD, List.getElem?_eq_getElem (by omega)] at hlt
      rw [List.getElem?_eq_getElem (by omega)]
      simp only [Option.map_some, List.getD_eq_getElem?_getD]
      simp only [Option.getD_some] at hlt
      rw [List.getElem?_range hlt]; rfl
    · rw [List.getElem?_eq_none (by omega)]; rfl
  · rw [d2]
    have : perW (ordN c.n c.p) 0#16 = 0#16 := by
      apply BitVec.eq_of_getLsbD_eq
      intro i hi
      rw [perW_at _ _ _ hi]; simp
    show perW (ordN c.n c.p) 0#16 ^^^ c.pad = c.pad
    rw [this, BitVec.zero_xor]
/-- renewing twice is renewing once -/
theorem ren_twice {a b c : K} (ha : okK a = true) (hb : okK b = true) (hc : okK c = true) (hab : a.bits = b.bits) (hac : a.bits = c.bits) : compX (renX a b) (renX b c) = renX a c := by
  obtain ⟨ka, ea, -, -⟩ := inv_law ha
  obtain ⟨kb, eb, -, -⟩ := inv_law hb
  have hbc := hab.symm.trans hac
  obtain ⟨k1, e1, -, -⟩ := comp_law kb hc (eb.trans hbc)
  rw [ren_law ha hb hab, ren_law hb hc hbc, ren_law ha hc hac]
  rw [comp_assoc ka hb k1 (ea.trans hab) (by rw [e1, eb, ea, hab]), ← comp_assoc hb kb hc eb.symm hbc, comp_one hb]
  rw [show (⟨b.bits, 0, 0#16⟩ : K) = ⟨c.bits, 0, 0#16⟩ by rw [hbc], comp_id hc]
theorem ren_ok {a b : K} (ha : okK a = true) (hb : okK b = true) (hab : a.bits = b.bits) : okK (renX a b) = true ∧ (renX a b).bits = a.bits := by
  obtain ⟨ka, ea, -, -⟩ := inv_law ha
  obtain ⟨k1, e1, -, -⟩ := comp_law ka hb (ea.trans hab)
  rw [ren_law ha hb hab]
  exact ⟨k1, e1.trans ea⟩
/-- what an old key hides is turned into what a new one hides -/
theorem ren_hide {a b : K} (ha : okK a = true) (hb : okK b = true) (hab : a.bits = b.bits) {x : BitVec 16} (hx : fitB a.n x = true) : hideX (renX a b) (hideX a x) = hideX b x := by
  obtain ⟨ka, ea, -, -⟩ := inv_law ha
  obtain ⟨-, -, f1⟩ := hide_law ha hx
  rw [ren_law ha hb hab, ← comp_hide ka hb (ea.trans hab) (by rw [same_n ea]; exact f1), hide_back ha hx]
theorem sum_map (f : Nat → Int) : ∀ k, sumF f k = ((List.range k).map f).sum := by
  intro k
  induction k with
  | zero => rfl
  | succ k ih => rw [sumF, ih, List.range_succ, List.map_append, List.sum_append]; simp
theorem sum_perm {l l' : List Int} (h : l.Perm l') : l.sum = l'.sum := by
  induction h with
  | nil => rfl
  | cons x _ ih => simp only [List.sum_cons, ih]
  | swap x y l => simp only [List.sum_cons]; omega
  | trans _ _ h1 h2 => exact h1.trans h2
theorem sum_cut (f : Nat → Int) (n : Nat) (h : ∀ i, n ≤ i → f i = 0) : ∀ k, n ≤ k → sumF f k = sumF f n := by
  intro k
  induction k with
  | zero => intro hk; obtain rfl : n = 0 := by omega
            rfl
  | succ k ih =>
    intro hk
    rcases Nat.lt_or_ge k n with h1 | h1
    · obtain rfl : n = k + 1 := by omega
      rfl
    · rw [sumF, ih h1, h k h1]; omega
/-- the bits of a word that a permutation moves are as many -/
theorem far_perW {l : List Nat} {n : Nat} (hn : n ≤ 15) (hl : l.Perm (List.range n)) (z : BitVec 16) (hz : fitB n z = true) : sumF (bitI (perW l z)) 16 = sumF (bitI z) 16 := by
  have ll : l.length = n := by rw [hl.length_eq]; simp
  have h1 := (fit_iff n z).1 hz
  have h2 : ∀ i, n ≤ i → bitI z i = 0 := fun i hi => by unfold bitI; rw [h1 i hi]; rfl
  have h3 : ∀ i, n ≤ i → bitI (perW l z) i = 0 := fun i hi => by
    have hf := fit_perW l z
    rw [ll] at hf
    unfold bitI; rw [(fit_iff n _).1 hf i hi]; rfl
  rw [sum_cut _ n h3 16 (by omega), sum_cut _ n h2 16 (by omega), sum_map, sum_map]
  have h4 : (List.range n).map (bitI (perW l z)) = l.map (bitI z) := by
    have e := range_getD l
    rw [ll] at e
    have e2 : l.map (bitI z) = ((List.range n).map fun i => l.getD i 0).map (bitI z) := by rw [e]
    rw [e2, List.map_map]
    apply List.map_congr_left
    intro i hi
    have hi2 := List.mem_range.1 hi
    show bitI (perW l z) i = bitI z (l.getD i 0)
    unfold bitI
    rw [perW_at _ _ _ (by omega), ll, decide_eq_true hi2, Bool.true_and]
  rw [h4]
  exact sum_perm (hl.map _)
def far16 (x y : BitVec 16) : Int := sumF (bitI (x ^^^ y)) 16
theorem far16_in (x y : BitVec 16) : 0 ≤ far16 x y ∧ far16 x y ≤ 16 := sumF_in _ (fun i => bitI_in _ i) 16
theorem far_hide {a : K} (ha : okK a = true) {x y : BitVec 16} (hx : fitB a.n x = true) (hy : fitB a.n y = true) : far16 (hideX a x) (hideX a y) = far16 x y := by
  obtain ⟨-, q1, -⟩ := hide_law ha hx
  obtain ⟨-, q2, -⟩ := hide_law ha hy
  obtain ⟨pa, -, ha15, -, -, -⟩ := ok_perm ha
  have : hideX a x ^^^ hideX a y = perW (ordN a.n a.p) (x ^^^ y) := by
    rw [q1, q2, perW_xor]
    generalize perW (ordN a.n a.p) x = u
    generalize perW (ordN a.n a.p) y = v
    rw [BitVec.xor_comm v, BitVec.xor_assoc, ← BitVec.xor_assoc a.pad, BitVec.xor_self, BitVec.zero_xor]
  unfold far16
  rw [this]
  exact far_perW ha15 pa _ (fit_xor hx hy)
/-- words that are hidden as the same word are the same -/
theorem hide_inj {a : K} (ha : okK a = true) {x y : BitVec 16} (hx : fitB a.n x = true) (hy : fitB a.n y = true) : (hideX a x == hideX a y) = (x == y) := by
  rw [Bool.eq_iff_iff, beq_iff_eq, beq_iff_eq]
  constructor
  · intro h
    rw [← show_hide ha hx, h, show_hide ha hy]
  · intro h; rw [h]
/-- the words of 15 bits -/
theorem far_15 {x y : BitVec 16} (hx : fitB 15 x = true) (hy : fitB 15 y = true) : far16 x y = farS x y := by
  have h1 := (fit_iff 15 _).1 (fit_xor hx hy)
  unfold far16 farS
  rw [sum_cut (bitI (x ^^^ y)) 15 (fun i hi => by unfold bitI; rw [h1 i hi]; rfl) 16 (by omega)]
end Go.Proofs.Ytfdcapblgdlkaaa
