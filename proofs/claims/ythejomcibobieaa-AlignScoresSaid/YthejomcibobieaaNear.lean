/- The program: whether a number, moved, comes near to another one (span.near, 84). -/
import Derived.Test.YthejomcibobieaaAlike
namespace Go.Proofs.Ythejomcibobieaa
open Go.RowKit

def nearN (lo hi fr to reach : Int) : Bool := decide (fr + lo ≤ to + reach) && decide (to - reach ≤ fr + hi)
set_option maxRecDepth 100000 in
set_option maxHeartbeats 1000000 in
theorem near_any (lo hi fr to reach : Int) (h1 : -10000 ≤ lo ∧ lo ≤ 10000) (h2 : -10000 ≤ hi ∧ hi ≤ 10000) (h3 : -10000 ≤ fr ∧ fr ≤ 10000) (h4 : -10000 ≤ to ∧ to ≤ 10000) (h5 : -10000 ≤ reach ∧ reach ≤ 10000) (w : World) :
    Calls Try.prog 84 #[.agg #[.int .i64 lo, .int .i64 hi], .int .i64 fr, .int .i64 to, .int .i64 reach] w fun e w' => e = .returned (.bool (nearN lo hi fr to reach)) ∧ Ext w w' := by
  have HV := Lib.hid (show nearN lo hi fr to reach = (decide (fr + lo ≤ to + reach) && decide (to - reach ≤ fr + hi)) from rfl)
  cases e1 : decide (fr + lo ≤ to + reach)
  · have HV1 := Lib.hid (show nearN lo hi fr to reach = false from HV.out.trans (by rw [e1]; simp))
    go_enter Try.func84, Try.ntmps84
    go_wp2_with fail
    go_ret
    exact ⟨ret_of (congrArg Value.bool HV1.out.symm), (Ext.refl w).alloc _⟩
  · have HV1 := Lib.hid (show nearN lo hi fr to reach = decide (to - reach ≤ fr + hi) from HV.out.trans (by rw [e1]; simp))
    go_enter Try.func84, Try.ntmps84
    go_wp2_with fail
    go_ret
    exact ⟨ret_of (congrArg Value.bool HV1.out.symm), (Ext.refl w).alloc _⟩
end Go.Proofs.Ythejomcibobieaa
