/- Keys: factorials, validity. -/
import Derived.Test.YtfdcapblgdlkaaaPerm
import Derived.RegionTactic
import Derived.Test.YtfdcapblgdlkaaaChecked
namespace Go.Proofs.Ytfdcapblgdlkaaa
open Go.RowKit

/-- words of 16 bits -/
def uv (x : BitVec 16) : Int := (x.toNat : Int)
theorem uv_lt (x : BitVec 16) : 0 ≤ uv x ∧ uv x < 65536 := ⟨by unfold uv; omega, by unfold uv; have := x.isLt; omega⟩
structure K where
  bits : Int
  perm : Int
  pad : BitVec 16
abbrev K.val (k : K) : Value := .agg #[.int .i64 k.bits, .int .i64 k.perm, .int .u16 (uv k.pad)]
theorem fact_le : ∀ n, n < 16 → 1 ≤ factN n ∧ factN n ≤ 1307674368000 := by decide
set_option maxRecDepth 100000 in
set_option maxHeartbeats 1000000 in
theorem fact_any (n : Nat) (hn : n ≤ 15) (w : World) : Calls Try.prog 54 #[.int .i64 n] w fun e w' => e = .returned (.int .i64 (factN n)) ∧ w = w' := by
  have hn2 : (n : Int) ≤ 15 := by omega
  go_enter Try.func54, Try.ntmps54
  go_wp2_with fail
  go_loopw [3, 6] (fun o i wr => ∃ j : Nat, j ≤ n ∧ i = .int .i64 j ∧ o = .int .i64 (factN j) ∧ wr = w) (fun _ i _ => n - (intOf i).toNat)
  case atStart => exact ⟨0, Nat.zero_le _, rfl, rfl, rfl⟩
  case round =>
    obtain ⟨j, hj, rfl, rfl, rfl⟩ := hrel
    by_cases hlj : j < n
    · have hs := Lib.hid (show factN (j + 1) = factN j * (j + 1) from rfl)
      have h1 := fact_le j (by omega)
      have h2 := fact_le (j + 1) (by omega)
      have hlj2 : (j : Int) < (n : Int) := by omega
      have hm : IntKind.i64.wrap ((factN j : Int) * ((j : Int) + 1)) = (factN j : Int) * ((j : Int) + 1) := by
        have e : (factN j : Int) * ((j : Int) + 1) = ((factN (j + 1) : Nat) : Int) := by rw [hs.out]; push_cast; rfl
        rw [e]; exact IntWalk.i64_in _ (by omega)
      have hm2 : wrap64 ((factN j : Int) * ((j : Int) + 1)) = (factN j : Int) * ((j : Int) + 1) := by rwa [IntWalk.i64_left] at hm
      generalize factN j = f at *
      go_wp2_with fail
      go_roundw
      case rel => exact ⟨j + 1, by omega, by go_num, by rw [hs.out]; push_cast; rfl, trivial⟩
      case measure => simp [intOf]; omega
    · obtain rfl : j = n := by omega
      go_wp2_with fail
      go_ret
      exact ⟨rfl, rfl⟩
def inB (n lo hi : Int) : Bool := decide (lo ≤ n) && decide (n ≤ hi)
theorem within_any (n lo hi : Int) (w : World) : Calls Try.prog 56 #[.int .i64 n, .int .i64 lo, .int .i64 hi] w fun e w' => e = .returned (.bool (inB n lo hi)) ∧ w = w' := by
  go_enter Try.func56, Try.ntmps56
  go_wp2
  all_goals (go_ret; refine ⟨ret_of ?_, rfl⟩; simp_all [inB])
  omega

set_option maxRecDepth 100000 in
set_option maxHeartbeats 1000000 in
theorem refFact_any (n : Nat) (hn : n ≤ 15) (w : World) : Calls Try.prog 45 #[.int .i64 n] w fun e w' => e = .returned (.int .i64 (factN n)) ∧ w = w' := by
  have hn2 : (n : Int) ≤ 15 := by omega
  go_enter Try.func45, Try.ntmps45
  go_wp2_with fail
  go_loopw [3, 4] (fun o i wr => ∃ j : Nat, (j ≤ n ∨ j = 1) ∧ 1 ≤ j ∧ i = .int .i64 ((j : Int) + 1) ∧ o = .int .i64 (factN j) ∧ wr = w) (fun _ i _ => n + 1 - (intOf i).toNat)
  case atStart => exact ⟨1, .inr rfl, Nat.le_refl _, rfl, rfl, rfl⟩
  case round =>
    obtain ⟨j, hj, hj1, rfl, rfl, rfl⟩ := hrel
    by_cases hlj : j < n
    · have hs := Lib.hid (show factN (j + 1) = factN j * (j + 1) from rfl)
      have h1 := fact_le j (by omega)
      have h2 := fact_le (j + 1) (by omega)
      have hlj2 : (j : Int) + 1 ≤ (n : Int) := by omega
      have hlj3 : (j : Int) < (n : Int) := by omega
      have hm : IntKind.i64.wrap ((factN j : Int) * ((j : Int) + 1)) = (factN j : Int) * ((j : Int) + 1) := by
        have e : (factN j : Int) * ((j : Int) + 1) = ((factN (j + 1) : Nat) : Int) := by rw [hs.out]; push_cast; rfl
        rw [e]; exact IntWalk.i64_in _ (by omega)
      have hm2 : wrap64 ((factN j : Int) * ((j : Int) + 1)) = (factN j : Int) * ((j : Int) + 1) := by rwa [IntWalk.i64_left] at hm
      generalize factN j = f at *
      go_wp2_with fail
      go_roundw
      case rel => exact ⟨j + 1, .inl (by omega), by omega, by go_num, by rw [hs.out]; push_cast; rfl, trivial⟩
      case measure => simp [intOf]; omega
    · have hf : factN j = factN n := by
        rcases hj with h | h
        · have : j = n := by omega
          rw [this]
        · subst h
          have : n = 0 ∨ n = 1 := by omega
          rcases this with rfl | rfl <;> rfl
      have hlj2 : (n : Int) < (j : Int) + 1 := by omega
      have HF := Lib.hid hf
      clear hf
      go_wp2_with fail
      go_ret
      exact ⟨ret_of (by rw [← HF.out]; rfl), rfl⟩
theorem shl_i64 (n : Nat) (hn : n ≤ 15) : IntKind.i64.wrap (2 ^ n) = ((2 ^ n : Nat) : Int) := by
  have h : 2 ^ n ≤ 2 ^ 15 := Nat.pow_le_pow_right (by omega) hn
  have e : (2 : Int) ^ n = ((2 ^ n : Nat) : Int) := by push_cast; rfl
  rw [e]
  generalize 2 ^ n = N at h
  exact IntWalk.i64_in _ (by omega)
def fitB (n : Nat) (x : BitVec 16) : Bool := decide (x.toNat < 2 ^ n)
set_option maxRecDepth 100000 in
theorem fits_any (n : Nat) (hn : n ≤ 15) (x : BitVec 16) (w : World) : Calls Try.prog 44 #[.int .i64 n, .int .u16 (uv x)] w fun e w' => e = .returned (.bool (fitB n x)) ∧ w = w' := by
  have hs := shl_i64 n hn
  have hp : 2 ^ n ≤ 2 ^ 15 := Nat.pow_le_pow_right (by omega) hn
  have hx := uv_lt x
  have hf : decide (uv x < ((2 ^ n : Nat) : Int)) = fitB n x := by unfold fitB uv; simp only [Int.ofNat_lt]
  generalize 2 ^ n = N at *
  generalize fitB n x = v at *
  generalize uv x = y at *
  have HF := Lib.hid hf
  clear hf
  have hn2 : (n : Int) < 64 := by omega
  go_enter Try.func44, Try.ntmps44
  go_wp2_with fail
  go_ret
  exact ⟨ret_of (by rw [← HF.out]; rfl), rfl⟩
end Go.Proofs.Ytfdcapblgdlkaaa
