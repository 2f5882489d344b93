/- The reference's search for another partner (augment, 86): it is an Aug. -/
import Derived.Test.YthejomcibobieaaPrint
import Derived.Test.YthejomcibobieaaMm
namespace Go.Proofs.Ythejomcibobieaa
open Go.RowKit

def bl (s : Nat → Bool) (n : Nat) : Array Value := ((List.range n).map fun j => Value.bool (s j)).toArray
def il (o : Nat → Int) (n : Nat) : Array Value := ((List.range n).map fun j => Value.int .i64 (o j)).toArray
theorem bl_at (s : Nat → Bool) {n j : Nat} (h : j < n) : (bl s n)[j]? = some (.bool (s j)) := by simp [bl, h]
theorem il_at (o : Nat → Int) {n j : Nat} (h : j < n) : (il o n)[j]? = some (.int .i64 (o j)) := by simp [il, h]
theorem bl_set (s : Nat → Bool) (n j : Nat) (v : Bool) : (bl s n).setIfInBounds j (.bool v) = bl (upd s j v) n := by
  apply Array.ext_getElem?
  intro k
  rcases Nat.lt_or_ge k n with hk | hk
  · by_cases e : j = k
    · subst e
      rw [Array.getElem?_setIfInBounds_self_of_lt (by simpa [bl] using hk), bl_at _ hk, upd_at]
    · rw [Array.getElem?_setIfInBounds_ne e, bl_at _ hk, bl_at _ hk, upd_ne _ _ _ _ (fun e' => e e'.symm)]
  · rw [Array.getElem?_eq_none (by simpa [bl] using hk), Array.getElem?_eq_none (by simpa [bl] using hk)]
theorem il_set (o : Nat → Int) (n j : Nat) (v : Int) : (il o n).setIfInBounds j (.int .i64 v) = il (upd o j v) n := by
  apply Array.ext_getElem?
  intro k
  rcases Nat.lt_or_ge k n with hk | hk
  · by_cases e : j = k
    · subst e
      rw [Array.getElem?_setIfInBounds_self_of_lt (by simpa [il] using hk), il_at _ hk, upd_at]
    · rw [Array.getElem?_setIfInBounds_ne e, il_at _ hk, il_at _ hk, upd_ne _ _ _ _ (fun e' => e e'.symm)]
  · rw [Array.getElem?_eq_none (by simpa [il] using hk), Array.getElem?_eq_none (by simpa [il] using hk)]
/-- the partners from k on -/
def restL (n : Nat) (may : Nat → Nat → Bool) (i k : Nat) : List Nat := (List.range' k (n - k)).filter (may i)
def nbF (n : Nat) (may : Nat → Nat → Bool) (i : Nat) : List Nat := restL n may i 0
theorem restL_end (n : Nat) (may : Nat → Nat → Bool) (i : Nat) : restL n may i n = [] := by simp [restL]
theorem restL_yes {n : Nat} {may : Nat → Nat → Bool} {i k : Nat} (hk : k < n) (h : may i k = true) : restL n may i k = k :: restL n may i (k + 1) := by
  unfold restL
  rw [show n - k = (n - (k + 1)) + 1 by omega, List.range'_succ, List.filter_cons, if_pos h]
theorem restL_no {n : Nat} {may : Nat → Nat → Bool} {i k : Nat} (hk : k < n) (h : may i k = false) : restL n may i k = restL n may i (k + 1) := by
  unfold restL
  rw [show n - k = (n - (k + 1)) + 1 by omega, List.range'_succ, List.filter_cons, if_neg (by rw [h]; decide)]
theorem nbF_lt {n : Nat} {may : Nat → Nat → Bool} {i j : Nat} (h : j ∈ nbF n may i) : j < n ∧ may i j = true := by
  unfold nbF restL at h
  obtain ⟨h1, h2⟩ := List.mem_filter.1 h
  rw [List.mem_range'_1] at h1
  exact ⟨by omega, h2⟩
def unseen (n : Nat) (s : Nat → Bool) : Nat := (List.range n).countP fun j => !s j
theorem unseen_mono {n : Nat} {s s' : Nat → Bool} (h : ∀ j, s j = true → s' j = true) : unseen n s' ≤ unseen n s := by
  unfold unseen
  refine List.countP_mono_left fun j _ hj => ?_
  cases hs : s j with
  | false => rfl
  | true => rw [h j hs] at hj; cases hj
theorem unseen_upd {n : Nat} {s : Nat → Bool} {j : Nat} (hj : j < n) (h : s j = false) : unseen n (upd s j true) < unseen n s := by
  unfold unseen
  induction n with
  | zero => omega
  | succ n ih =>
    rw [List.range_succ, List.countP_append, List.countP_append, List.countP_singleton, List.countP_singleton]
    by_cases e : j = n
    · subst e
      have h1 : (List.range j).countP (fun k => !upd s j true k) = (List.range j).countP (fun k => !s k) := by
        refine List.countP_congr fun k hk => ?_
        rw [upd_ne _ _ _ _ (by have := List.mem_range.1 hk; omega)]
      rw [h1, upd_at, h]
      simp
    · have := ih (by omega)
      rw [upd_ne _ _ _ _ (fun e' => e e'.symm)]
      omega
/-- the table of what may be paired, in blocks below B -/
structure MayOk (w : World) (B gO np n : Nat) (may : Nat → Nat → Bool) : Prop where
  out : gO < B
  rows : ∀ i, i < np → ∃ g, g < B ∧ w.cell? ⟨gO, i, none⟩ = some (.slice (some ⟨g, 0, none⟩) n n) ∧ ∀ j, j < n → w.cell? ⟨g, j, none⟩ = some (.bool (may i j))
theorem MayOk.below {w w' : World} {B gO np n : Nat} {may : Nat → Nat → Bool} (h : MayOk w B gO np n may) (hb : Below B w w') : MayOk w' B gO np n may := by
  refine ⟨h.out, fun i hi => ?_⟩
  obtain ⟨g, h1, h2, h3⟩ := h.rows i hi
  exact ⟨g, h1, by rw [hb.cell (by exact h.out)]; exact h2, fun j hj => by rw [hb.cell (by exact h1)]; exact h3 j hj⟩
/-- what a search returns -/
structure AugRet (nb : Nat → List Nat) (np n B gs gw ts tw i : Nat) (js : List Nat) (s : Nat → Bool) (o : Nat → Int) (w : World) (r : Bool) (s' : Nat → Bool) (o' : Nat → Int) (w' : World) : Prop where
  aug : Aug nb i js s o r s' o'
  rng : ∀ j, j < n → -1 ≤ o' j ∧ o' j < np
  seen : Blk w' gs ts (bl s' n)
  own : Blk w' gw tw (il o' n)
  below : Below B w w'
theorem Calls.aug {P : Program} {f : FuncId} {args : Array Value} {w : World} {X : Bool → (Nat → Bool) → (Nat → Int) → World → Prop} {R : Ending → World → Prop}
    (h : Calls P f args w fun e w' => ∃ r s' o', e = .returned (.bool r) ∧ X r s' o' w') (hR : ∀ r s' o' w', X r s' o' w' → R (.returned (.bool r)) w') : Calls P f args w R :=
  h.mono fun _ w' ⟨r, s', o', he, hx⟩ => by subst he; exact hR r s' o' w' hx
theorem upd_rng {np n : Nat} {o : Nat → Int} (h : ∀ j, j < n → -1 ≤ o j ∧ o j < np) {i : Nat} (hi : i < np) (k : Nat) : ∀ j, j < n → -1 ≤ upd o k (i : Int) j ∧ upd o k (i : Int) j < np := by
  intro j hj
  unfold upd
  split
  · omega
  · exact h j hj
set_option maxRecDepth 100000 in
set_option maxHeartbeats 4000000 in
theorem augment_any (np n B gO cO gs gw ts tw : Nat) (may : Nat → Nat → Bool) (hs : B ≤ gs) (hw : B ≤ gw) (hsw : gs ≠ gw) (hnn : n ≤ 1000) : ∀ (m : Nat) (s : Nat → Bool) (o : Nat → Int) (i : Nat) (w : World), unseen n s = m → i < np →
    (∀ j, j < n → -1 ≤ o j ∧ o j < np) → MayOk w B gO np n may → Blk w gs ts (bl s n) → Blk w gw tw (il o n) →
    Calls Try.prog 86 #[.slice (some ⟨gO, 0, none⟩) np cO, .int .i64 i, .slice (some ⟨gs, 0, none⟩) n n, .slice (some ⟨gw, 0, none⟩) n n] w fun e w' => ∃ r s' o', e = .returned (.bool r) ∧ AugRet (nbF n may) np n B gs gw ts tw i (nbF n may i) s o w r s' o' w' := by
  intro m
  induction m using Nat.strongRecOn with
  | ind m ih =>
  intro s o i w hm hi ho hmay hS hO
  have IH := Lib.hid ih
  have HO := Lib.hid ho
  have HM := Lib.hid hmay
  have HS := Lib.hid hS
  have HW := Lib.hid hO
  clear ih ho hmay hS hO
  go_enter Try.func86, Try.ntmps86
  go_wp2_with fail
  go_loopw [9] (fun j wr => ∃ (k : Nat) (s1 : Nat → Bool) (o1 : Nat → Int), k ≤ n ∧ j = .int .i64 k ∧ Blk wr gs ts (bl s1 n) ∧ Blk wr gw tw (il o1 n) ∧ Below B w wr ∧ (∀ j, j < n → -1 ≤ o1 j ∧ o1 j < np) ∧ unseen n s1 ≤ m ∧
      (∀ r s' o', Aug (nbF n may) i (restL n may i k) s1 o1 r s' o' → Aug (nbF n may) i (nbF n may i) s o r s' o')) (fun j _ => n - (intOf j).toNat)
  case atStart => exact ⟨0, s, o, Nat.zero_le _, rfl, HS.out, HW.out, Below.refl _ _, HO.out, by omega, fun _ _ _ h => h⟩
  case round =>
    obtain ⟨k, s1, o1, hk, rfl, h1, h2, h3, h4, h5, h6⟩ := hrel
    have G1 := Lib.hid h1
    have G2 := Lib.hid h2
    have G3 := Lib.hid h3
    have G4 := Lib.hid h4
    have G6 := Lib.hid h6
    clear HS HW HO
    by_cases hkn : k < n
    · have hki : (k : Int) < n := by omega
      have hii : (i : Int) < np := by omega
      obtain ⟨g, hg, c1, c2⟩ := (HM.out.below h3).rows i hi
      have c3 := c2 k hkn
      have c4 : wr.cell? ⟨gs, k, none⟩ = some (.bool (s1 k)) := by rw [h1.cell]; exact bl_at _ hkn
      have c5 : wr.cell? ⟨gw, k, none⟩ = some (.int .i64 (o1 k)) := by rw [h2.cell]; exact il_at _ hkn
      have f1 := h1.frozen k
      have f2 := h2.frozen k
      have hok := h4 k hkn
      clear h1 h2 h3 h4 h6 c2
      cases hmk : may i k
      · rw [hmk] at c3
        go_wp2_with fail
        refine ⟨⟨k + 1, s1, o1, by omega, by go_num, G1.out, G2.out, G3.out, G4.out, h5, fun r s' o' h => G6.out r s' o' (by rw [restL_no hkn hmk]; exact h)⟩, by simp [intOf]; omega⟩
      rw [hmk] at c3
      cases hsk : s1 k
      rotate_left
      · rw [hsk] at c4
        go_wp2_with fail
        refine ⟨⟨k + 1, s1, o1, by omega, by go_num, G1.out, G2.out, G3.out, G4.out, h5, fun r s' o' h => G6.out r s' o' (by rw [restL_yes hkn hmk]; exact .skip hsk h)⟩, by simp [intOf]; omega⟩
      rw [hsk] at c4
      have HS1 := Lib.hid (bl_set s1 n k true)
      have HO1 := Lib.hid (fun (o : Nat → Int) => il_set o n k i)
      have hne : gs ≠ gw := hsw
      have hne2 : gw ≠ gs := fun e => hsw e.symm
      by_cases hneg : o1 k < 0
      · have b1 : decide (o1 k < 0) = true := by simpa using hneg
        go_wp2_with fail
        go_ret
        refine ⟨true, upd s1 k true, upd o1 k i, rfl, G6.out _ _ _ (by rw [restL_yes hkn hmk]; exact .free hsk hneg), upd_rng G4.out hi k, ?_, ?_, (G3.out.setCell hs _).setCell hw _⟩
        · rw [← HS1.out]
          exact (G1.out.set_ k _).far hne _
        · rw [← HO1.out]
          exact (G2.out.far hne2 _).set_ k _
      · have b1 : decide (o1 k < 0) = false := by simpa using hneg
        go_wp2_with fail
        have hoc : ((o1 k).toNat : Int) = o1 k := by omega
        have hw1 : Below B w (wr.setCell ⟨gs, k, none⟩ (.bool true)) := G3.out.setCell hs _
        have hs1 : Blk (wr.setCell ⟨gs, k, none⟩ (.bool true)) gs ts (bl (upd s1 k true) n) := by rw [← HS1.out]; exact G1.out.set_ k _
        have ho1 : Blk (wr.setCell ⟨gs, k, none⟩ (.bool true)) gw tw (il o1 n) := G2.out.far hne2 _
        have hlt : unseen n (upd s1 k true) < m := Nat.lt_of_lt_of_le (unseen_upd hkn hsk) h5
        have C := IH.out _ hlt (upd s1 k true) o1 (o1 k).toNat _ rfl (by omega) G4.out (HM.out.below hw1) hs1 ho1
        rw [hoc] at C
        refine Calls.aug C fun r s2 o2 w2 X => ?_
        have K1 := Lib.hid X.seen
        have K2 := Lib.hid X.own
        have K3 := Lib.hid (hw1.trans X.below)
        have K4 := Lib.hid X.rng
        have K5 := Lib.hid X.aug
        have e1 := X.aug
        clear X C hw1 hs1 ho1 c1 c3 c4 c5 f1 f2 hlt
        have f2 := K2.out.frozen k
        have c5 : ∃ v, w2.cell? ⟨gw, k, none⟩ = some v := ⟨_, by rw [K2.out.cell]; exact il_at _ hkn⟩
        obtain ⟨v5, c5⟩ := c5
        cases r
        · have K6 := Lib.hid (unseen_mono (n := n) (fun j => aug_seen e1 j))
          have hsu := unseen_upd hkn hsk
          go_wp2_with fail
          refine ⟨⟨k + 1, s2, o2, by omega, by go_num, K1.out, K2.out, K3.out, K4.out, by have := K6.out; omega, fun r s' o' h => G6.out r s' o' (by rw [restL_yes hkn hmk]; exact .pass hsk (by omega) K5.out h)⟩, by simp [intOf]; omega⟩
        · go_wp2_with fail
          go_ret
          refine ⟨true, s2, upd o2 k i, rfl, G6.out _ _ _ (by rw [restL_yes hkn hmk]; exact .take hsk (by omega) K5.out), upd_rng K4.out hi k, K1.out.far hne _, ?_, K3.out.setCell hw _⟩
          rw [← HO1.out]
          exact K2.out.set_ k _
    · obtain rfl : k = n := by omega
      go_wp2_with fail
      go_ret
      exact ⟨false, s1, o1, rfl, G6.out false s1 o1 (by rw [restL_end]; exact .nil), G4.out, G1.out, G2.out, G3.out⟩
end Go.Proofs.Ythejomcibobieaa
