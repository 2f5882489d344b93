/- Numbers in ranges, absolute values, quotients rounded down. -/
import Derived.Test.YthejomcibobieaaCommon
import Derived.RegionTactic
import Derived.Test.YthejomcibobieaaChecked
namespace Go.Proofs.Ythejomcibobieaa
open Go.RowKit

def inB (n lo hi : Int) : Bool := decide (lo ≤ n) && decide (n ≤ hi)
theorem inB_iff {n lo hi : Int} : inB n lo hi = true ↔ lo ≤ n ∧ n ≤ hi := by simp [inB]
theorem inB_no {n lo hi : Int} : inB n lo hi = false ↔ n < lo ∨ hi < n := by
  rw [Bool.eq_false_iff, Ne, inB_iff]; omega
theorem within_any (n lo hi : Int) (w : World) : Calls Try.prog 68 #[.int .i64 n, .int .i64 lo, .int .i64 hi] w fun e w' => e = .returned (.bool (inB n lo hi)) ∧ w = w' := by
  have HV := Lib.hid (show inB n lo hi = (decide (lo ≤ n) && decide (n ≤ hi)) from rfl)
  generalize inB n lo hi = v at *
  go_enter Try.func68, Try.ntmps68
  cases h : decide (lo ≤ n)
  · rw [h] at HV
    go_wp2_with fail
    go_ret
    exact ⟨ret_of (by rw [HV.out]; simp), rfl⟩
  · rw [h] at HV
    go_wp2_with fail
    go_ret
    exact ⟨ret_of (by rw [HV.out]; simp), rfl⟩
/-- all of n numbers lie in a range -/
def allB (lo hi : Int) (n : Nat) (f : Nat → Int) : Bool := (List.range n).all fun j => inB (f j) lo hi
theorem all_yes {lo hi : Int} {n : Nat} {f : Nat → Int} (h : ∀ j, j < n → inB (f j) lo hi = true) : allB lo hi n f = true := by
  unfold allB; rw [List.all_eq_true]; intro j hj; exact h j (List.mem_range.1 hj)
theorem all_no {lo hi : Int} {n : Nat} {f : Nat → Int} (k : Nat) (hk : k < n) (h : inB (f k) lo hi = false) : allB lo hi n f = false := by
  cases hb : allB lo hi n f
  · rfl
  · have := List.all_eq_true.1 hb k (List.mem_range.2 hk)
    rw [h] at this; cases this
set_option maxRecDepth 100000 in
set_option maxHeartbeats 1000000 in
theorem withinAll_any (lo hi : Int) (n : Nat) (hn : n ≤ 100) (f : Nat → Int) (b off c : Nat) (w : World) (hc : ∀ j, j < n → w.cell? ⟨b, off + j, none⟩ = some (.int .i64 (f j))) :
    Calls Try.prog 51 #[.int .i64 lo, .int .i64 hi, .slice (some ⟨b, off, none⟩) n c] w fun e w' => e = .returned (.bool (allB lo hi n f)) ∧ w = w' := by
  have HC := Lib.hid hc
  clear hc
  go_enter Try.func51, Try.ntmps51
  go_wp2_with fail
  go_loopw [8, 11] (fun _ i wr => ∃ k : Nat, k ≤ n ∧ i = .int .i64 k ∧ wr = w ∧ ∀ j, j < k → inB (f j) lo hi = true) (fun _ i _ => n - (intOf i).toNat)
  case atStart => exact ⟨0, by omega, rfl, rfl, fun j h => absurd h (by omega)⟩
  case round =>
    obtain ⟨k, hk, rfl, rfl, hall⟩ := hrel
    have HA := Lib.hid hall
    clear hall
    by_cases hkn : k < n
    · have hk2 : (k : Int) < n := by omega
      have c1 := HC.out k hkn
      cases hb : inB (f k) lo hi
      · have HF := Lib.hid (all_no (n := n) k hkn hb)
        rw [inB_no] at hb
        generalize f k = v at *
        by_cases h1 : v < lo
        · have b1 : decide (v < lo) = true := by simpa using h1
          clear hb
          go_wp2_with fail
          go_ret
          exact ⟨ret_of (by rw [HF.out]; rfl), rfl⟩
        · have b1 : decide (v < lo) = false := by simpa using h1
          have b2 : decide (hi < v) = true := by simp; omega
          clear hb
          go_wp2_with fail
          go_ret
          exact ⟨ret_of (by rw [HF.out]; rfl), rfl⟩
      · have HS := Lib.hid (show ∀ j, j < k + 1 → inB (f j) lo hi = true from fun j hj => by
          rcases Nat.lt_or_ge j k with h | h
          · exact HA.out j h
          · obtain rfl : j = k := by omega
            exact hb)
        rw [inB_iff] at hb
        generalize f k = v at *
        have b1 : decide (v < lo) = false := by simp; omega
        have b2 : decide (hi < v) = false := by simp; omega
        clear hb
        go_wp2_with fail
        refine ⟨⟨k + 1, by omega, by go_num, trivial, HS.out⟩, by simp [intOf]; omega⟩
    · obtain rfl : k = n := by omega
      have HF := Lib.hid (all_yes HA.out)
      go_wp2_with fail
      go_ret
      exact ⟨ret_of (by rw [HF.out]; rfl), rfl⟩
theorem abs_any (n : Int) (h : -1000000 ≤ n ∧ n ≤ 1000000) (w : World) : Calls Try.prog 70 #[.int .i64 n] w fun e w' => e = .returned (.int .i64 (max n (-n))) ∧ w = w' := by
  by_cases h0 : n < -n
  · have HV := Lib.hid (show max n (-n) = -n by omega)
    go_enter Try.func70, Try.ntmps70
    have b0 : decide (n < -n) = true := by simpa using h0
    go_wp2_with fail
    go_ret
    exact ⟨ret_of (by rw [HV.out]; rfl), rfl⟩
  · have HV := Lib.hid (show max n (-n) = n by omega)
    go_enter Try.func70, Try.ntmps70
    have b0 : decide (n < -n) = false := by simpa using h0
    go_wp2_with fail
    go_ret
    exact ⟨ret_of (by rw [HV.out]; rfl), rfl⟩
theorem tdiv64 (n : Int) : n.tdiv 64 = if n < 0 ∧ n % 64 ≠ 0 then n / 64 + 1 else n / 64 := by
  rw [Int.tdiv_eq_ediv]
  have : (Int.sign 64 : Int) = 1 := rfl
  rw [this]
  split <;> split <;> omega
theorem tmod64 (n : Int) (_ : n < 0) : (n.tmod 64 != 0) = (n % 64 != 0) := by
  have := tdiv64 n
  have h2 := Int.tmod_add_mul_tdiv n 64
  rw [Bool.eq_iff_iff]
  simp only [bne_iff_ne, ne_eq]
  split at this <;> omega
theorem down_any (n : Int) (h : -1000000 ≤ n ∧ n ≤ 1000000) (w : World) : Calls Try.prog 71 #[.int .i64 n] w fun e w' => e = .returned (.int .i64 (n / 64)) ∧ w = w' := by
  by_cases h0 : n < 0
  · have HM := Lib.hid (tmod64 n h0)
    have HD := Lib.hid (tdiv64 n)
    by_cases hm : n % 64 = 0
    · have hb : (n.tmod 64 != 0) = false := by rw [HM.out]; simpa using hm
      have b0 : decide (n < 0) = true := by simpa using h0
      have hd : n.tdiv 64 = n / 64 := by rw [HD.out, if_neg (by omega)]
      have HH := Lib.hid hd
      clear hd hm h0
      go_enter Try.func71, Try.ntmps71
      go_wp2_with fail
      go_ret
      exact ⟨ret_of (by rw [← HH.out]; rfl), rfl⟩
    · have hb : (n.tmod 64 != 0) = true := by rw [HM.out]; simpa using hm
      have b0 : decide (n < 0) = true := by simpa using h0
      have hd : n.tdiv 64 = n / 64 + 1 := by rw [HD.out, if_pos ⟨h0, hm⟩]
      have HW := Lib.hid (show wrap64 (n.tdiv 64 - 1) = n / 64 by rw [hd, show n / 64 + 1 - 1 = n / 64 by omega]; exact IntWalk.wrap64_in (n / 64) (by omega))
      clear hd hm h0
      go_enter Try.func71, Try.ntmps71
      go_wp2_with fail
      go_ret
      exact ⟨ret_of (by rw [← HW.out]; rfl), rfl⟩
  · have b0 : decide (n < 0) = false := by simpa using h0
    have hd : n.tdiv 64 = n / 64 := by rw [tdiv64, if_neg (by omega)]
    have HH := Lib.hid hd
    clear hd h0
    go_enter Try.func71, Try.ntmps71
    go_wp2_with fail
    go_ret
    exact ⟨ret_of (by rw [← HH.out]; rfl), rfl⟩
end Go.Proofs.Ythejomcibobieaa
