/- Proved: for all codes a and b, numbers t and turns, and limits, the call of whorllaw03.IrisCounts returns true and leaves its arguments as they were. No conditions. -/
import Derived.Test.YtcacbolbedhcoaaRefMatch
import Derived.Test.YtcacbolbedhcoaaArgs
namespace Go.Proofs.Ytcacbolbedhcoaa
open Go.Joins Go.ChangeShapes Go.WideShapes Go.RowKit Go.Deep Go.ChangeAt

theorem cmpV_is (a b : Ir) (t : Int) : ∃ x y e : Int, cmpV a b t = .tuple #[.int .i64 x, .int .i64 y, .int .i64 e] := by
  unfold cmpV; split
  · split <;> exact ⟨_, _, _, rfl⟩
  · exact ⟨_, _, _, rfl⟩
theorem distV_is (a b : Ir) (t : Int) : ∃ x y z e : Int, distV a b t = .tuple #[.int .i64 x, .int .i64 y, .int .i64 z, .int .i64 e] := by
  unfold distV; split
  · split
    · split <;> exact ⟨_, _, _, _, rfl⟩
    · exact ⟨_, _, _, _, rfl⟩
  · exact ⟨_, _, _, _, rfl⟩
theorem matchV_is (a b : Ir) (t n d : Int) : ∃ (x : Bool) (e : Int), matchV a b t n d = .tuple #[.bool x, .int .i64 e] := by
  unfold matchV; split
  · split <;> exact ⟨_, _, rfl⟩
  · exact ⟨_, _, rfl⟩

set_option maxRecDepth 100000 in
set_option maxHeartbeats 2000000 in
theorem irisCounts_walk (a b : Ir) (t u n d : Int) (w : World) : Calls Try.prog 5 #[a.val, b.val, .int .i64 t, .int .i64 u, .agg #[.int .i64 n, .int .i64 d]] w fun e w' => e = .returned (.bool true) ∧ Ext w w' := by
  obtain ⟨x1, y1, e1, h1⟩ := cmpV_is a b t
  obtain ⟨x2, y2, z2, e2, h2⟩ := distV_is a b u
  obtain ⟨x3, e3, h3⟩ := matchV_is a b u n d
  have C1 := Lib.hid (fun w => h1 ▸ Compare_any a b t w)
  have C2 := Lib.hid (fun w => h1 ▸ refCompare_any a b t w)
  have C3 := Lib.hid (fun w => h2 ▸ Distance_any a b u w)
  have C4 := Lib.hid (fun w => h2 ▸ refDistance_any a b u w)
  have C5 := Lib.hid (fun w => h3 ▸ Match_any a b u n d w)
  have C6 := Lib.hid (fun w => h3 ▸ refMatch_any a b u n d w)
  clear h1 h2 h3
  go_enter Try.func5, Try.ntmps5
  go_wp2_with (first | (go_at_call 27; refine Calls.ext (C1.out _) fun z => ?_) | (go_at_call 28; refine Calls.ext (C2.out _) fun z => ?_) | (go_at_call 29; refine Calls.ext (C3.out _) fun z => ?_) | (go_at_call 30; refine Calls.ext (C4.out _) fun z => ?_) | (go_at_call 31; refine Calls.ext (C5.out _) fun z => ?_) | (go_at_call 32; refine Calls.ext (C6.out _) fun z => ?_))
  go_ret
  refine ⟨rfl, ?_⟩
  repeat' (first | with_reducible exact Ext.refl _ | with_reducible refine Ext.drew ?_ | with_reducible refine Ext.alloc ?_ _ | with_reducible refine Ext.ext ?_ _ | with_reducible refine Ext.setCell ?_ (by simp) _)

set_option maxRecDepth 100000 in
theorem irisCounts_lifted (os : Os) (started : os.Started) (H : Type) (enc : TypeId × Value → H) :
    ReturnsInHanded {} Try.checked os 5 .any (Rows.irisCountsSpec.pre6 enc Try.prog Try.f5 Rows.irisCountsRow.domain false) (Rows.irisCountsSpec.post enc Try.prog Try.f5 false true false false) := by
  refine returnsInHanded_of_change (C := Try.checked) own started (by kernel_rfl) Try.func5
    (ChangeSpec.witness6 (enc := enc) (C := Try.checked) false ⟨#[], #[.agg #[.int .u64 0, .int .u64 0], .agg #[.int .u64 0, .int .u64 0], .int .i64 0, .int .i64 0, .agg #[.int .i64 0, .int .i64 0]], []⟩ 8 (by kernel_rfl) (by kernel_rfl) (by kernel_rfl) (by kernel_rfl)) ?_
  intro W base args ds gs before hval0 hW hcnd _
  have hval : ∀ (j : Nat) t v, Try.f5.params[j]? = some t → args[j]? = some v → Value.okWide Try.prog W .any base t v := hval0
  have hW' := hW
  obtain ⟨p, q, hA0, hV, rfl, hfz, hnd⟩ := hW
  have hA : DataW.TrodAll enc Try.prog W 0 (fun _ => true) true Try.f5.params.toList args.toList ds p := hA0
  rw [Try.params5] at hA hval
  obtain ⟨v0, vs0, d0, ds0, p0, q0, hargs, rfl, rfl, h0, r0⟩ := trodAll_cons hA
  obtain ⟨v1, vs1, d1, ds1, p1, q1, rfl, rfl, rfl, h1, r1⟩ := trodAll_cons r0
  obtain ⟨v2, vs2, d2, ds2, p2, q2, rfl, rfl, rfl, h2, r2⟩ := trodAll_cons r1
  obtain ⟨v3, vs3, d3, ds3, p3, q3, rfl, rfl, rfl, h3, r3⟩ := trodAll_cons r2
  obtain ⟨v4, vs4, d4, ds4, p4, q4, rfl, rfl, rfl, h4, r4⟩ := trodAll_cons r3
  obtain ⟨rfl, rfl, rfl⟩ := trodAll_nil r4
  obtain rfl : args = #[v0, v1, v2, v3, v4] := by cases args; simp_all
  obtain ⟨rfl, rfl⟩ := trodVars_none hV
  have k0 := h0
  have lt0 : ∀ x ∈ p0, x.block < W.heap.size := by obtain ⟨m, hm⟩ := k0; exact DataW.trod_lt m _ _ _ hm
  obtain ⟨ns0, hl0, hv0, wf0⟩ := open_nums (ks := [.u64, .u64]) Try.underlying27 (by kernel_rfl) (by kernel_rfl) (kindsOf_of (by kernel_rfl)) (hval 0 27 v0 rfl rfl) h0
  have k1 := h1
  have lt1 : ∀ x ∈ p1, x.block < W.heap.size := by obtain ⟨m, hm⟩ := k1; exact DataW.trod_lt m _ _ _ hm
  obtain ⟨ns1, hl1, hv1, wf1⟩ := open_nums (ks := [.u64, .u64]) Try.underlying27 (by kernel_rfl) (by kernel_rfl) (kindsOf_of (by kernel_rfl)) (hval 1 27 v1 rfl rfl) h1
  have k2 := h2
  have lt2 : ∀ x ∈ p2, x.block < W.heap.size := by obtain ⟨m, hm⟩ := k2; exact DataW.trod_lt m _ _ _ hm
  obtain ⟨a2, rfl, _, _, w2⟩ := open_int Try.underlying3 (hval 2 3 v2 rfl rfl) h2
  have k3 := h3
  have lt3 : ∀ x ∈ p3, x.block < W.heap.size := by obtain ⟨m, hm⟩ := k3; exact DataW.trod_lt m _ _ _ hm
  obtain ⟨a3, rfl, _, _, w3⟩ := open_int Try.underlying3 (hval 3 3 v3 rfl rfl) h3
  have k4 := h4
  have lt4 : ∀ x ∈ p4, x.block < W.heap.size := by obtain ⟨m, hm⟩ := k4; exact DataW.trod_lt m _ _ _ hm
  obtain ⟨ns4, hl4, hv4, wf4⟩ := open_nums (ks := [.i64, .i64]) Try.underlying44 (by kernel_rfl) (by kernel_rfl) (kindsOf_of (by kernel_rfl)) (hval 4 44 v4 rfl rfl) h4
  clear hA0 hval0
  rw [ir_of hl0 wf0] at hv0
  rw [ir_of hl1 wf1] at hv1
  obtain ⟨n, d, rfl⟩ := two_of hl4
  replace hv4 : v4 = .agg #[.int .i64 n, .int .i64 d] := hv4
  subst hv0 hv1 hv4
  refine (irisCounts_walk (toIr ns0) (toIr ns1) a2 a3 n d W).mono fun e W' ⟨he, bel⟩ => ?_
  subst he
  exact ⟨_, rfl, _, _, _, [], _, [], hW', trodAll_mk1 (shut_bool Try.underlying4 _), (trodAll_cons_mk (Below.trod laidOut (by kernel_rfl) (of_decide_eq_true (by kernel_rfl)) k0 bel lt0) (trodAll_cons_mk (Below.trod laidOut (by kernel_rfl) (of_decide_eq_true (by kernel_rfl)) k1 bel lt1) (trodAll_cons_mk (Below.trod laidOut (by kernel_rfl) (of_decide_eq_true (by kernel_rfl)) k2 bel lt2) (trodAll_cons_mk (Below.trod laidOut (by kernel_rfl) (of_decide_eq_true (by kernel_rfl)) k3 bel lt3) (trodAll_cons_mk (Below.trod laidOut (by kernel_rfl) (of_decide_eq_true (by kernel_rfl)) k4 bel lt4) trodAll_mk0))))), rfl, Below.frame bel _, fun h => by cases h⟩

theorem irisCounts_holds : Rows.IrisCountsSaid :=
  OpenClaim.holds_of_wide 5 Try.f5 rfl rfl rfl rfl rfl rfl rfl ⟨rfl, rfl, rfl, rfl, rfl⟩ rfl rfl rfl rfl rfl (by kernel_rfl) Try.func5 (by kernel_rfl)
    (of_decide_eq_true (by kernel_rfl)) (by unfold Func.isWrapper; first | (rw [if_pos (by decide +kernel)]; kernel_rfl) | (rw [if_neg (by decide +kernel)]; exact ⟨rfl, rfl⟩))
    (fun os started H enc _ => irisCounts_lifted os started H enc)
end Go.Proofs.Ytcacbolbedhcoaa
