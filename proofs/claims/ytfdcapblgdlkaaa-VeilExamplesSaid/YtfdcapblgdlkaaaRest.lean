/- Numbers modulo 31; bits of words. -/
import Derived.Test.YtfdcapblgdlkaaaLeaf
namespace Go.Proofs.Ytfdcapblgdlkaaa
open Go.RowKit

theorem mod31 (n : Int) (h : -1000000 ≤ n ∧ n ≤ 1000000) : (n.tmod 31 + 31).tmod 31 = n % 31 ∧ -31 < n.tmod 31 ∧ n.tmod 31 < 31 := by
  have h1 : n.tmod 31 = n % 31 ∨ n.tmod 31 = n % 31 - 31 := by
    rcases Int.le_total 0 n with h0 | h0
    · exact .inl (Int.tmod_eq_emod_of_nonneg h0)
    · have e : n.tmod 31 = -((-n).tmod 31) := by rw [Int.neg_tmod, Int.neg_neg]
      rw [e, Int.tmod_eq_emod_of_nonneg (by omega)]
      omega
  have h2 : 0 ≤ n % 31 ∧ n % 31 < 31 := by omega
  have h3 : -31 < n.tmod 31 := by
    rcases Int.le_total 0 n with h0 | h0
    · rw [Int.tmod_eq_emod_of_nonneg h0]; omega
    · have e : n.tmod 31 = -((-n).tmod 31) := by rw [Int.neg_tmod, Int.neg_neg]
      rw [e, Int.tmod_eq_emod_of_nonneg (by omega)]
      omega
  refine ⟨?_, h3, by omega⟩
  rw [Int.tmod_eq_emod_of_nonneg (by omega)]
  omega
theorem of_any (n : Int) (h : -1000000 ≤ n ∧ n ≤ 1000000) (w : World) : Calls Try.prog 91 #[.int .i64 n] w fun e w' => e = .returned (.int .i64 (n % 31)) ∧ w = w' := by
  obtain ⟨h1, h2, h3⟩ := mod31 n h
  generalize hm : n % 31 = r at *
  have HM := Lib.hid hm
  clear hm
  generalize hq : n.tmod 31 = q at *
  have w1 : IntKind.i64.wrap q = q := IntWalk.i64_in _ (by omega)
  have w2 : IntKind.i64.wrap (q + 31) = q + 31 := IntWalk.i64_in _ (by omega)
  go_enter Try.func91, Try.ntmps91
  go_wp2_with fail
  go_ret
  simp_all
theorem rest_any (n : Int) (h : -1000000 ≤ n ∧ n ≤ 1000000) (w : World) : Calls Try.prog 66 #[.int .i64 n] w fun e w' => e = .returned (.int .i64 (n % 31)) ∧ w = w' := by
  obtain ⟨h1, h2, h3⟩ := mod31 n h
  generalize hm : n % 31 = r at *
  have HM := Lib.hid hm
  clear hm
  generalize hq : n.tmod 31 = q at *
  have w1 : IntKind.i64.wrap q = q := IntWalk.i64_in _ (by omega)
  have w2 : IntKind.i64.wrap (q + 31) = q + 31 := IntWalk.i64_in _ (by omega)
  go_enter Try.func66, Try.ntmps66
  go_wp2_with fail
  go_ret
  simp_all
theorem plus_any (a b : Int) (ha : -1000 ≤ a ∧ a ≤ 1000) (hb : -1000 ≤ b ∧ b ≤ 1000) (w : World) : Calls Try.prog 64 #[.int .i64 a, .int .i64 b] w fun e w' => e = .returned (.int .i64 ((a + b) % 31)) ∧ w = w' := by
  have C := Lib.hid (of_any (a + b) (by omega))
  go_enter Try.func64, Try.ntmps64
  go_wp2_with (go_at_call 91; refine Calls.same (C.out _) ?_)
  go_ret
  exact ⟨rfl, rfl⟩
theorem minus_any (a b : Int) (ha : -1000 ≤ a ∧ a ≤ 1000) (hb : -1000 ≤ b ∧ b ≤ 1000) (w : World) : Calls Try.prog 61 #[.int .i64 a, .int .i64 b] w fun e w' => e = .returned (.int .i64 ((a - b) % 31)) ∧ w = w' := by
  have C := Lib.hid (of_any (a - b) (by omega))
  go_enter Try.func61, Try.ntmps61
  go_wp2_with (go_at_call 91; refine Calls.same (C.out _) ?_)
  go_ret
  exact ⟨rfl, rfl⟩
theorem mul_in (a b : Int) (ha : 0 ≤ a ∧ a ≤ 255) (hb : 0 ≤ b ∧ b ≤ 255) : 0 ≤ a * b ∧ a * b ≤ 65025 := by
  constructor
  · exact Int.mul_nonneg ha.1 hb.1
  · have h1 : a * b ≤ 255 * b := Int.mul_le_mul_of_nonneg_right ha.2 hb.1
    omega
theorem times_any (a b : Int) (ha : 0 ≤ a ∧ a ≤ 255) (hb : 0 ≤ b ∧ b ≤ 255) (w : World) : Calls Try.prog 63 #[.int .i64 a, .int .i64 b] w fun e w' => e = .returned (.int .i64 ((a * b) % 31)) ∧ w = w' := by
  obtain ⟨h1, h2⟩ := mul_in a b ha hb
  have C := Lib.hid (of_any (a * b) (by omega))
  generalize hm : a * b = m at *
  have w1 : IntKind.i64.wrap m = m := IntWalk.i64_in _ (by omega)
  go_enter Try.func63, Try.ntmps63
  go_wp2_with (go_at_call 91; refine Calls.same (C.out _) ?_)
  go_ret
  exact ⟨rfl, rfl⟩
def bitI (x : BitVec 16) (i : Nat) : Int := if x.getLsbD i then 1 else 0
end Go.Proofs.Ytfdcapblgdlkaaa
