/- Proved: for every reason r and every number x, the call of whorllaw11.AuditReasons(r, x) returns true and leaves its arguments as they were. No conditions. -/
import Derived.Test.YtkhmjkhgmggjcaaReasonRef
import Derived.Test.YtkhmjkhgmggjcaaOpen
namespace Go.Proofs.Ytkhmjkhgmggjcaa
open Go.Joins Go.ChangeShapes Go.WideShapes Go.RowKit Go.Deep Go.ChangeAt

set_option maxHeartbeats 1000000 in
theorem auditReasons_walk (r : R) (x : Int) (w : World) (hx0 : 0 ≤ x) (hx1 : x < 18446744073709551616) :
    Calls Try.prog 3 #[r.val, .int .u64 x] w fun e w' => e = .returned (.bool true) ∧ Ext w w' := by
  obtain ⟨p0, p1, hp⟩ : ∃ a b, packV r = .tuple #[.int .u64 a, .int .i64 b] := by unfold packV; split <;> exact ⟨_, _, rfl⟩
  obtain ⟨f0, f1, hf⟩ : ∃ a b, follV r = .tuple #[.bool a, .int .i64 b] := by unfold follV; split <;> exact ⟨_, _, rfl⟩
  obtain ⟨u0, u1, hu⟩ : ∃ a b, unpV x = .tuple #[R.val a, .int .i64 b] := by unfold unpV; split <;> exact ⟨_, _, rfl⟩
  have c1 : ∀ w, Calls Try.prog 16 #[r.val] w fun e w' => e = .returned (.tuple #[.int .u64 p0, .int .i64 p1]) ∧ Ext w w' := fun w => hp ▸ pack_any r w
  have c2 : ∀ w, Calls Try.prog 17 #[r.val] w fun e w' => e = .returned (.tuple #[.int .u64 p0, .int .i64 p1]) ∧ Ext w w' := fun w => hp ▸ refPack_any r w
  have c3 : ∀ w, Calls Try.prog 18 #[.int .u64 x] w fun e w' => e = .returned (.tuple #[R.val u0, .int .i64 u1]) ∧ Ext w w' := fun w => hu ▸ unpack_any x w hx0 hx1
  have c4 : ∀ w, Calls Try.prog 19 #[.int .u64 x] w fun e w' => e = .returned (.tuple #[R.val u0, .int .i64 u1]) ∧ Ext w w' := fun w => hu ▸ refUnpack_any x w hx0 hx1
  have c5 : ∀ w, Calls Try.prog 20 #[r.val] w fun e w' => e = .returned (.tuple #[.bool f0, .int .i64 f1]) ∧ Ext w w' := fun w => hf ▸ follows_any r w
  have c6 : ∀ w, Calls Try.prog 21 #[r.val] w fun e w' => e = .returned (.tuple #[.bool f0, .int .i64 f1]) ∧ Ext w w' := fun w => hf ▸ refFollows_any r w
  have C1 := Lib.hid c1
  have C2 := Lib.hid c2
  have C3 := Lib.hid c3
  have C4 := Lib.hid c4
  have C5 := Lib.hid c5
  have C6 := Lib.hid c6
  clear c1 c2 c3 c4 c5 c6 hp hf hu
  go_enter Try.func3, Try.ntmps3
  go_wp2_with fail
  refine Calls.ext (C1.out _) fun z1 => ?_
  go_wp2_with fail
  refine Calls.ext (C2.out _) fun z2 => ?_
  go_wp2_with fail
  refine Calls.ext (C3.out _) fun z3 => ?_
  go_wp2_with fail
  refine Calls.ext (C4.out _) fun z4 => ?_
  go_wp2_with fail
  refine Calls.ext (C5.out _) fun z5 => ?_
  go_wp2_with fail
  refine Calls.ext (C6.out _) fun z6 => ?_
  go_wp2_with fail
  go_ret
  refine ⟨rfl, ?_⟩
  repeat' (first | with_reducible exact Ext.refl _ | with_reducible refine Ext.alloc ?_ _ | with_reducible refine Ext.ext ?_ _ | with_reducible refine Ext.setCell ?_ (by simp) _)

theorem own : ownKnob Try.prog.godebug = none := by kernel_rfl
theorem laidOut : laidOutB Try.prog = true := by kernel_rfl

set_option maxRecDepth 100000 in
theorem auditReasons_lifted (os : Os) (started : os.Started) (H : Type) (enc : TypeId × Value → H) :
    ReturnsInHanded {} Try.checked os 3 .any (Rows.auditReasonsSpec.pre6 enc Try.prog Try.f3 Rows.auditReasonsRow.domain false) (Rows.auditReasonsSpec.post enc Try.prog Try.f3 false true false false) := by
  refine returnsInHanded_of_change (C := Try.checked) own started (by kernel_rfl) Try.func3
    (ChangeSpec.witness6 (enc := enc) (C := Try.checked) false ⟨#[], #[.agg #[.int .u8 0, .int .i64 0, .int .i64 0, .int .i64 0, .int .i64 0, .int .i64 0], .int .u64 0], []⟩ 8 (by kernel_rfl) (by kernel_rfl) (by kernel_rfl) (by kernel_rfl)) ?_
  intro W base args ds gs before hval0 hW hcnd _
  have hval : ∀ (j : Nat) t v, Try.f3.params[j]? = some t → args[j]? = some v → Value.okWide Try.prog W .any base t v := hval0
  have hW' := hW
  obtain ⟨p, q, hA0, hV, rfl, hfz, hnd⟩ := hW
  have hA : DataW.TrodAll enc Try.prog W 0 (fun _ => true) true Try.f3.params.toList args.toList ds p := hA0
  rw [Try.params3] at hA hval
  obtain ⟨v0, vs0, d0, ds0, p0, q0, hargs, rfl, rfl, h0, r0⟩ := trodAll_cons hA
  obtain ⟨v1, vs1, d1, ds1, p1, q1, rfl, rfl, rfl, h1, r1⟩ := trodAll_cons r0
  obtain ⟨rfl, rfl, rfl⟩ := trodAll_nil r1
  obtain rfl : args = #[v0, v1] := by cases args; simp_all
  obtain ⟨rfl, rfl⟩ := trodVars_none hV
  have k0 := h0
  have lt0 : ∀ x ∈ p0, x.block < W.heap.size := by obtain ⟨m, hm⟩ := k0; exact DataW.trod_lt m _ _ _ hm
  have k1 := h1
  have lt1 : ∀ x ∈ p1, x.block < W.heap.size := by obtain ⟨m, hm⟩ := k1; exact DataW.trod_lt m _ _ _ hm
  obtain ⟨ns0, hl0, hv0, wf0⟩ := open_nums (ks := [.u8, .i64, .i64, .i64, .i64, .i64]) Try.underlying23 (by kernel_rfl) (by kernel_rfl) (kindsOf_of (by kernel_rfl)) (hval 0 23 v0 rfl rfl) h0
  match ns0, hl0 with
  | [m0, m1, m2, m3, m4, m5], _ =>
  obtain rfl : v0 = R.val ⟨m0, m1, m2, m3, m4, m5⟩ := hv0
  obtain ⟨a1, rfl, _, _, w1⟩ := open_int Try.underlying24 (hval 1 24 v1 rfl rfl) h1
  clear hA0 hval0
  have hx := wf_u64 w1
  refine (auditReasons_walk ⟨m0, m1, m2, m3, m4, m5⟩ a1 W hx.1 hx.2).mono fun e W' ⟨he, bel⟩ => ?_
  subst he
  exact ⟨_, rfl, _, _, _, [], _, [], hW', trodAll_mk1 (shut_bool Try.underlying4 _), (trodAll_cons_mk (Below.trod laidOut (by kernel_rfl) (of_decide_eq_true (by kernel_rfl)) k0 bel lt0) (trodAll_cons_mk (Below.trod laidOut (by kernel_rfl) (of_decide_eq_true (by kernel_rfl)) k1 bel lt1) trodAll_mk0)), rfl, Below.frame bel _, fun h => by cases h⟩

theorem auditReasons_holds : Rows.AuditReasonsSaid :=
  OpenClaim.holds_of_wide 3 Try.f3 rfl rfl rfl rfl rfl rfl rfl ⟨rfl, rfl, rfl, rfl, rfl⟩ rfl rfl rfl rfl rfl (by kernel_rfl) Try.func3 (by kernel_rfl)
    (of_decide_eq_true (by kernel_rfl)) (by unfold Func.isWrapper; first | (rw [if_pos (by decide +kernel)]; kernel_rfl) | (rw [if_neg (by decide +kernel)]; exact ⟨rfl, rfl⟩))
    (fun os started H enc _ => auditReasons_lifted os started H enc)
end Go.Proofs.Ytkhmjkhgmggjcaa
