import Derived.Test.YthejomcibobieaaAsked
namespace Go.Proofs.Ythejomcibobieaa
open Go.RowKit
set_option maxRecDepth 100000 in
set_option maxHeartbeats 2000000 in
theorem askedL_any (c : Cl) (lp lq : List Mi) (hnp : lp.length ≤ 100) (hnq : lq.length ≤ 100) (Ap Aq : Option Addr) (cp cq : Nat) (w : World) (hP : Pts w Ap lp) (hQ : Pts w Aq lq) :
    Calls Try.prog 38 #[.slice Ap lp.length cp, .slice Aq lq.length cq, c.val] w fun e w' => e = .returned (.bool (okP lp && okP lq && okC c)) ∧ Ext w w' := by
  have CP := Lib.hid (fun w h => valid_any Ap cp lp w h hnp)
  have CQ := Lib.hid (fun w h => valid_any Aq cq lq w h hnq)
  have CC := Lib.hid (fun w => classR_any c w)
  have hE0 := ((Ext.refl w).alloc (.cells #[.int .i64 c.turns, .int .i64 c.shift, .int .i64 c.elastic, .int .i64 c.reach, .int .i64 c.spread] 38))
  cases h1 : okP lp
  · rw [h1] at CP
    clear h1
    go_enter Try.func38, Try.ntmps38
    go_wp2_with fail
    refine Calls.ext (CP.out _ (hP.grow hE0)) fun z1 => ?_
    go_wp2_with fail
    go_ret
    exact ⟨by simp, hE0.ext z1⟩
  · rw [h1] at CP
    cases h2 : okP lq
    · rw [h2] at CQ
      clear h1 h2
      go_enter Try.func38, Try.ntmps38
      go_wp2_with fail
      refine Calls.ext (CP.out _ (hP.grow hE0)) fun z1 => ?_
      go_wp2_with fail
      refine Calls.ext (CQ.out _ (hQ.grow (hE0.ext z1))) fun z2 => ?_
      go_wp2_with fail
      go_ret
      exact ⟨by simp, (hE0.ext z1).ext z2⟩
    · rw [h2] at CQ
      clear h1 h2
      go_enter Try.func38, Try.ntmps38
      go_wp2_with fail
      refine Calls.ext (CP.out _ (hP.grow hE0)) fun z1 => ?_
      go_wp2_with fail
      refine Calls.ext (CQ.out _ (hQ.grow (hE0.ext z1))) fun z2 => ?_
      go_wp2_with fail
      refine Calls.ext (CC.out _) fun z3 => ?_
      go_wp2_with fail
      go_ret
      exact ⟨by simp, ((hE0.ext z1).ext z2).ext z3⟩
theorem asked_ok {c : Cl} {lp lq : List Mi} (h : (okP lp && okP lq && okC c) = true) : askE c lp lq = 0 := by
  simp only [Bool.and_eq_true] at h
  unfold askE
  rw [h.1.1, h.1.2, h.2]; rfl
end Go.Proofs.Ythejomcibobieaa
