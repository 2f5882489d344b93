/- The reference's greatest number of pairs (matched, 75). -/
import Derived.Test.YthejomcibobieaaAug
import Derived.Test.YthejomcibobieaaSlices
namespace Go.Proofs.Ythejomcibobieaa
open Go.RowKit

theorem zInfoI : ZInfo Try.prog 107 3 (.int .i64 0) := zInfo (bytes := 8) Try.underlying107 (by kernel_rfl) (by omega) rfl
theorem zInfoB : ZInfo Try.prog 122 4 (.bool false) := zInfo (bytes := 1) Try.underlying122 (by kernel_rfl) (by omega) rfl
/-- the first k owners are cleared -/
def clr (k : Nat) : Nat → Int := fun j => if j < k then -1 else 0
theorem clr_zero (n : Nat) : il (clr 0) n = Array.replicate n (.int .i64 0) := by
  apply Array.ext_getElem?
  intro j
  rcases Nat.lt_or_ge j n with h | h
  · rw [il_at _ h]; simp [clr, h]
  · rw [Array.getElem?_eq_none (by simpa [il] using h), Array.getElem?_eq_none (by simpa using h)]
theorem clr_set (k n : Nat) : (il (clr k) n).setIfInBounds k (.int .i64 (-1)) = il (clr (k + 1)) n := by
  rw [il_set]
  congr 1
  funext j
  unfold upd clr
  by_cases e : j = k
  · rw [if_pos e, if_pos (by omega)]
  · rw [if_neg e]
    by_cases h : j < k
    · rw [if_pos h, if_pos (by omega)]
    · rw [if_neg h, if_neg (by omega)]
theorem clr_all (n : Nat) : il (clr n) n = il (fun _ => -1) n := by
  apply Array.ext_getElem?
  intro j
  rcases Nat.lt_or_ge j n with h | h
  · rw [il_at _ h, il_at _ h]; simp [clr, h]
  · rw [Array.getElem?_eq_none (by simpa [il] using h), Array.getElem?_eq_none (by simpa [il] using h)]
theorem seen_none (n : Nat) : Array.replicate n (.bool false) = bl (fun _ => false) n := by
  apply Array.ext_getElem?
  intro j
  rcases Nat.lt_or_ge j n with h | h
  · rw [bl_at _ h]; simp [h]
  · rw [Array.getElem?_eq_none (by simpa using h), Array.getElem?_eq_none (by simpa [bl] using h)]
set_option maxRecDepth 100000 in
set_option maxHeartbeats 4000000 in
theorem matched_any (np n gO cO : Nat) (A : Option Addr) (may : Nat → Nat → Bool) (hA : 0 < np → A = some ⟨gO, 0, none⟩) (hn : n ≤ 1000) (hnp : np ≤ 1000) (w : World) (hmay : 0 < np → MayOk w w.heap.size gO np n may) :
    Calls Try.prog 75 #[.slice A np cO, .int .i64 n] w fun e w' => e = .returned (.int .i64 (mmk (nbF n may) np [])) ∧ Ext w w' := by
  have HM := Lib.hid hmay
  have HA := Lib.hid hA
  clear hmay hA
  go_enter Try.func75, Try.ntmps75
  go_wp2_with (at_make; refine wpList_make_blk _ rfl (.tmp 9) (.tmp 9) 107 rfl 3 (.int .i64 0) zInfoI n (by omega) rfl rfl ?_; intro z0 hB0)
  have HB := Lib.hid (show Blk (ext w z0) w.heap.size 3 (il (clr 0) n) from by rw [clr_zero]; exact hB0)
  have HE := Lib.hid ((Ext.refl w).ext z0)
  clear hB0
  generalize ext w z0 = V at *
  go_loopw [6] (fun j wr => ∃ k : Nat, k ≤ n ∧ j = .int .i64 k ∧ Blk wr w.heap.size 3 (il (clr k) n) ∧ Ext w wr) (fun j _ => n - (intOf j).toNat)
  case atStart => exact ⟨0, Nat.zero_le _, rfl, HB.out, HE.out⟩
  case round =>
    obtain ⟨k, hk, rfl, hB, hE⟩ := hrel
    have HB2 := Lib.hid hB
    have HE2 := Lib.hid hE
    clear HB HE
    by_cases hkn : k < n
    · have hki : (k : Int) < n := by omega
      have c1 : wr.cell? ⟨w.heap.size, k, none⟩ = some (.int .i64 (clr k k)) := by rw [hB.cell]; exact il_at _ hkn
      have f1 := hB.frozen k
      clear hB hE
      go_wp2_with fail
      refine ⟨⟨k + 1, by omega, by go_num, ?_, HE2.out.setCell (by show w.heap.size ≤ w.heap.size; omega) _⟩, by simp [intOf]; omega⟩
      rw [← clr_set]
      exact HB2.out.set_ k _
    · obtain rfl : k = n := by omega
      clear hB hE
      have HB3 := Lib.hid (clr_all k ▸ HB2.out)
      clear HB2
      go_wp2_with fail
      go_loopw [7, 8] (fun t j wr => ∃ (i m : Nat) (o : Nat → Int), i ≤ np ∧ j = .int .i64 i ∧ t = .int .i64 m ∧ m ≤ i ∧ Run (nbF k may) i m o ∧ (∀ j, j < k → -1 ≤ o j ∧ o j < np) ∧ Blk wr w.heap.size 3 (il o k) ∧ Ext w wr) (fun _ j _ => np - (intOf j).toNat)
      case atStart => exact ⟨0, 0, fun _ => -1, Nat.zero_le _, rfl, rfl, Nat.le_refl _, .zero, fun j _ => by show (-1 : Int) ≤ -1 ∧ (-1 : Int) < np; omega, HB3.out, HE2.out⟩
      case round =>
        clear HB3 HE2
        obtain ⟨i, m, o, hi, rfl, rfl, hmi, hr, ho, hB, hE⟩ := hrel
        have HR := Lib.hid hr
        have HO := Lib.hid ho
        have HB4 := Lib.hid hB
        have HE4 := Lib.hid hE
        clear hr ho hB hE
        by_cases hin : i < np
        · have hii : (i : Int) < np := by omega
          have hAA := HA.out (by omega)
          have hMM := HM.out (by omega)
          subst hAA
          have HMM := Lib.hid hMM
          clear HM HA hMM
          go_wp2_with (at_make; refine wpList_make_blk _ rfl (.tmp 27) (.tmp 27) 122 rfl 4 (.bool false) zInfoB k (by omega) rfl rfl ?_; intro z1 hB1)
          have hlt := HB4.out.lt
          have hs1 : Blk (ext wr z1) wr.heap.size 4 (bl (fun _ => false) k) := by rw [← seen_none]; exact hB1
          have C := augment_any np k w.heap.size gO cO wr.heap.size w.heap.size 4 3 may HE4.out.size (Nat.le_refl _) (by omega) hn _ (fun _ => false) o i (ext wr z1) rfl hin HO.out (HMM.out.below (HE4.out.ext z1)) hs1 (HB4.out.ext z1)
          clear hB1 hs1 hlt
          refine Calls.aug C fun r s2 o2 w2 X => ?_
          have K2 := Lib.hid X.own
          have K3 := Lib.hid (show Ext w w2 from Below.trans (HE4.out.ext z1) X.below)
          have K4 := Lib.hid X.rng
          have K5 := Lib.hid X.aug
          clear X C
          cases r
          · go_wp2_with fail
            exact ⟨⟨i + 1, m, o2, by omega, by go_num, rfl, by omega, .miss HR.out K5.out, K4.out, K2.out, K3.out⟩, by simp [intOf]; omega⟩
          · go_wp2_with fail
            exact ⟨⟨i + 1, m + 1, o2, by omega, by go_num, by go_num, by omega, .hit HR.out K5.out, K4.out, K2.out, K3.out⟩, by simp [intOf]; omega⟩
        · obtain rfl : i = np := by omega
          have HF := Lib.hid (isMax_eq (run_max (n := k) (fun i j h => (nbF_lt h).1) HR.out).1)
          go_wp2_with fail
          go_ret
          exact ⟨ret_of (by rw [HF.out]; rfl), HE4.out⟩
end Go.Proofs.Ythejomcibobieaa
