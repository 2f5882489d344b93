/- Proved: for all words a, b, c and turns t, u, the call of whorllaw03.IrisMetric returns true and leaves its arguments as they were. No conditions. -/
import Derived.Test.YtcacbolbedhcoaaAlive
import Derived.Test.YtcacbolbedhcoaaPure
import Derived.Test.YtcacbolbedhcoaaArgs
namespace Go.Proofs.Ytcacbolbedhcoaa
open Go.Joins Go.ChangeShapes Go.WideShapes Go.RowKit Go.Deep Go.ChangeAt

def fullI (x : BitVec 64) : Ir := ⟨x, 18446744073709551615#64⟩
set_option maxRecDepth 100000 in
theorem full_any (x : BitVec 64) (w : World) : Calls Try.prog 42 #[.int .u64 (uw x)] w fun e w' => e = .returned (fullI x).val ∧ Ext w w' := by
  go_enter Try.func42, Try.ntmps42
  go_wp2_with fail
  refine bodyPost_ret (v := (fullI x).val) (by simp [results, Try.results42, go_sem, fullI, uw]) rfl ⟨rfl, ?_⟩
  repeat' (first | with_reducible exact Ext.refl _ | with_reducible refine Ext.alloc ?_ _ | with_reducible refine Ext.ext ?_ _ | with_reducible refine Ext.setCell ?_ (by simp) _)
theorem okI_full (x : BitVec 64) : okI (fullI x) = true := by
  rw [okI_and]
  simp only [fullI]
  rw [show ~~~(18446744073709551615#64) = 0#64 from rfl]
  simp
def farI (a b : BitVec 64) (t : Int) : Int := (cpop (turnW a t ^^^ b) : Int)
theorem far_in (a b : BitVec 64) (t : Int) : 0 ≤ farI a b t ∧ farI a b t ≤ 64 := by
  unfold farI
  have := cpop_le (turnW a t ^^^ b)
  omega
theorem cmp_full (a b : BitVec 64) (t : Int) (ht : -7 ≤ t ∧ t ≤ 7) : cmpV (fullI a) (fullI b) t = .tuple #[.int .i64 (farI a b t), .int .i64 64, .int .i64 0] := by
  unfold cmpV
  rw [okI_full, okI_full]
  have hb : inB t (-7) 7 = true := by simp [inB, ht]
  rw [hb]
  have e1 : (18446744073709551615#64 &&& 18446744073709551615#64) = 18446744073709551615#64 := rfl
  have e2 : ∀ x : BitVec 64, x &&& 18446744073709551615#64 = x := fun x => BitVec.and_allOnes (x := x)
  have e3 : cpop 18446744073709551615#64 = 64 := by decide
  simp only [if_true, Bool.and_self, ctr, cdn, turnI', fullI, turn_ones, e1, e2, e3, farI]
  rfl
theorem far_back (a b : BitVec 64) (t : Int) : farI b a (-t) = farI a b t := by
  unfold farI
  have h : turnW (turnW a t ^^^ b) (-t) = turnW b (-t) ^^^ a := by rw [turn_xor, turn_back, BitVec.xor_comm]
  rw [← h, cpop_turn]
theorem far_tri (a b c : BitVec 64) (t u : Int) : farI a c (t + u) ≤ farI a b t + farI b c u := by
  unfold farI
  have h : turnW (turnW a t ^^^ b) u = turnW a (t + u) ^^^ turnW b u := by rw [turn_xor, turn_turn]
  have h2 := cpop_turn (turnW a t ^^^ b) u
  rw [h] at h2
  have h3 := cpop_tri (turnW a (t + u)) (turnW b u) c
  omega
theorem far_zero (a b : BitVec 64) : (farI a b 0 == 0) = (a == b) := by
  unfold farI
  rw [turn_zero]
  apply Bool.eq_iff_iff.2
  simp only [beq_iff_eq]
  constructor
  · intro h
    have h2 := (cpop_zero _).1 (by omega : cpop (a ^^^ b) = 0)
    exact BitVec.xor_eq_zero_iff.1 h2
  · rintro rfl
    simp [cpop_none]
theorem mfar (a b : BitVec 64) (t : Int) (ht : -7 ≤ t ∧ t ≤ 7) (w : World) : Calls Try.prog 27 #[(fullI a).val, (fullI b).val, .int .i64 t] w fun e w' => e = .returned (.tuple #[.int .i64 (farI a b t), .int .i64 64, .int .i64 0]) ∧ Ext w w' := cmp_full a b t ht ▸ Compare_any (fullI a) (fullI b) t w

set_option maxRecDepth 100000 in
set_option maxHeartbeats 2000000 in
theorem irisMetric_out (a b c : BitVec 64) (t u : Int) (w : World) (h : ¬ (-7 ≤ t ∧ t ≤ 7 ∧ -7 ≤ u ∧ u ≤ 7 ∧ -7 ≤ t + u ∧ t + u ≤ 7)) : Calls Try.prog 12 #[.int .u64 (uw a), .int .u64 (uw b), .int .u64 (uw c), .int .i64 t, .int .i64 u] w fun e w' => e = .returned (.bool true) ∧ Ext w w' := by
  by_cases h1 : t < -7
  · clear h
    go_enter Try.func12, Try.ntmps12
    go_wp2_with (go_at_call 38; refine Calls.ext (alive_any _) fun z => ?_)
    all_goals (go_ret; exact ⟨rfl, (Ext.refl w).ext z⟩)
  by_cases h2 : 7 < t
  · clear h
    go_enter Try.func12, Try.ntmps12
    go_wp2_with (go_at_call 38; refine Calls.ext (alive_any _) fun z => ?_)
    all_goals (go_ret; exact ⟨rfl, (Ext.refl w).ext z⟩)
  by_cases h3 : u < -7
  · clear h
    go_enter Try.func12, Try.ntmps12
    go_wp2_with (go_at_call 38; refine Calls.ext (alive_any _) fun z => ?_)
    all_goals (go_ret; exact ⟨rfl, (Ext.refl w).ext z⟩)
  by_cases h4 : 7 < u
  · clear h
    go_enter Try.func12, Try.ntmps12
    go_wp2_with (go_at_call 38; refine Calls.ext (alive_any _) fun z => ?_)
    all_goals (go_ret; exact ⟨rfl, (Ext.refl w).ext z⟩)
  by_cases h5 : t + u < -7
  · clear h
    go_enter Try.func12, Try.ntmps12
    go_wp2_with (go_at_call 38; refine Calls.ext (alive_any _) fun z => ?_)
    all_goals (go_ret; exact ⟨rfl, (Ext.refl w).ext z⟩)
  · have h6 : 7 < t + u := by omega
    clear h
    go_enter Try.func12, Try.ntmps12
    go_wp2_with (go_at_call 38; refine Calls.ext (alive_any _) fun z => ?_)
    all_goals (go_ret; exact ⟨rfl, (Ext.refl w).ext z⟩)
set_option maxRecDepth 100000 in
set_option maxHeartbeats 2000000 in
theorem irisMetric_walk (a b c : BitVec 64) (t u : Int) (w : World) : Calls Try.prog 12 #[.int .u64 (uw a), .int .u64 (uw b), .int .u64 (uw c), .int .i64 t, .int .i64 u] w fun e w' => e = .returned (.bool true) ∧ Ext w w' := by
  by_cases h : -7 ≤ t ∧ t ≤ 7 ∧ -7 ≤ u ∧ u ≤ 7 ∧ -7 ≤ t + u ∧ t + u ≤ 7
  rotate_left
  · exact irisMetric_out a b c t u w h
  obtain ⟨t1, t2, u1, u2, s1, s2⟩ := h
  have C1 := Lib.hid (mfar a b t ⟨t1, t2⟩)
  have C2 := Lib.hid (far_back a b t ▸ mfar b a (-t) (by omega))
  have C3 := Lib.hid (mfar b c u ⟨u1, u2⟩)
  have C4 := Lib.hid (mfar a c (t + u) ⟨s1, s2⟩)
  have C5 := Lib.hid (mfar a b 0 (by omega))
  have L1 := far_in a b t
  have L2 := far_in b c u
  have L3 := far_in a c (t + u)
  have L4 := far_in a b 0
  have Ht := far_tri a b c t u
  have Hz := far_zero a b
  have hne : farI a b 0 = 0 ↔ a = b := by
    constructor
    · intro h; rw [h] at Hz; exact eq_of_beq Hz.symm
    · intro h; subst h; simpa using Hz
  generalize farI a b t = d1 at *
  generalize farI b c u = d2 at *
  generalize farI a c (t + u) = d3 at *
  generalize farI a b 0 = d4 at *
  go_enter Try.func12, Try.ntmps12
  go_wp2_with (first | (go_at_call 38; refine Calls.ext (alive_any _) fun z => ?_) | (go_at_call 42; refine Calls.ext (full_any _ _) fun z => ?_))
  refine Calls.ext (C1.out _) fun y1 => ?_
  go_wp2_with (go_at_call 42; refine Calls.ext (full_any _ _) fun z => ?_)
  refine Calls.ext (C2.out _) fun y2 => ?_
  go_wp2_with (go_at_call 42; refine Calls.ext (full_any _ _) fun z => ?_)
  refine Calls.ext (C3.out _) fun y3 => ?_
  go_wp2_with (go_at_call 42; refine Calls.ext (full_any _ _) fun z => ?_)
  refine Calls.ext (C4.out _) fun y4 => ?_
  go_wp2_with (go_at_call 42; refine Calls.ext (full_any _ _) fun z => ?_)
  refine Calls.ext (C5.out _) fun y5 => ?_
  go_wp2_with (go_at_call 42; refine Calls.ext (full_any _ _) fun z => ?_)
  go_ret
  refine ⟨rfl, ?_⟩
  repeat' (first | with_reducible exact Ext.refl _ | with_reducible refine Ext.ext ?_ _)
set_option maxRecDepth 100000 in
theorem irisMetric_lifted (os : Os) (started : os.Started) (H : Type) (enc : TypeId × Value → H) :
    ReturnsInHanded {} Try.checked os 12 .any (Rows.irisMetricSpec.pre6 enc Try.prog Try.f12 Rows.irisMetricRow.domain false) (Rows.irisMetricSpec.post enc Try.prog Try.f12 false true false false) := by
  refine returnsInHanded_of_change (C := Try.checked) own started (by kernel_rfl) Try.func12
    (ChangeSpec.witness6 (enc := enc) (C := Try.checked) false ⟨#[], #[.int .u64 0, .int .u64 0, .int .u64 0, .int .i64 0, .int .i64 0], []⟩ 8 (by kernel_rfl) (by kernel_rfl) (by kernel_rfl) (by kernel_rfl)) ?_
  intro W base args ds gs before hval0 hW hcnd _
  have hval : ∀ (j : Nat) t v, Try.f12.params[j]? = some t → args[j]? = some v → Value.okWide Try.prog W .any base t v := hval0
  have hW' := hW
  obtain ⟨p, q, hA0, hV, rfl, hfz, hnd⟩ := hW
  have hA : DataW.TrodAll enc Try.prog W 0 (fun _ => true) true Try.f12.params.toList args.toList ds p := hA0
  rw [Try.params12] at hA hval
  obtain ⟨v0, vs0, d0, ds0, p0, q0, hargs, rfl, rfl, h0, r0⟩ := trodAll_cons hA
  obtain ⟨v1, vs1, d1, ds1, p1, q1, rfl, rfl, rfl, h1, r1⟩ := trodAll_cons r0
  obtain ⟨v2, vs2, d2, ds2, p2, q2, rfl, rfl, rfl, h2, r2⟩ := trodAll_cons r1
  obtain ⟨v3, vs3, d3, ds3, p3, q3, rfl, rfl, rfl, h3, r3⟩ := trodAll_cons r2
  obtain ⟨v4, vs4, d4, ds4, p4, q4, rfl, rfl, rfl, h4, r4⟩ := trodAll_cons r3
  obtain ⟨rfl, rfl, rfl⟩ := trodAll_nil r4
  obtain rfl : args = #[v0, v1, v2, v3, v4] := by cases args; simp_all
  obtain ⟨rfl, rfl⟩ := trodVars_none hV
  have k0 := h0
  have lt0 : ∀ x ∈ p0, x.block < W.heap.size := by obtain ⟨m, hm⟩ := k0; exact DataW.trod_lt m _ _ _ hm
  obtain ⟨a0, rfl, _, _, w0⟩ := open_int Try.underlying25 (hval 0 25 v0 rfl rfl) h0
  have k1 := h1
  have lt1 : ∀ x ∈ p1, x.block < W.heap.size := by obtain ⟨m, hm⟩ := k1; exact DataW.trod_lt m _ _ _ hm
  obtain ⟨a1, rfl, _, _, w1⟩ := open_int Try.underlying25 (hval 1 25 v1 rfl rfl) h1
  have k2 := h2
  have lt2 : ∀ x ∈ p2, x.block < W.heap.size := by obtain ⟨m, hm⟩ := k2; exact DataW.trod_lt m _ _ _ hm
  obtain ⟨a2, rfl, _, _, w2⟩ := open_int Try.underlying25 (hval 2 25 v2 rfl rfl) h2
  have k3 := h3
  have lt3 : ∀ x ∈ p3, x.block < W.heap.size := by obtain ⟨m, hm⟩ := k3; exact DataW.trod_lt m _ _ _ hm
  obtain ⟨a3, rfl, _, _, w3⟩ := open_int Try.underlying3 (hval 3 3 v3 rfl rfl) h3
  have k4 := h4
  have lt4 : ∀ x ∈ p4, x.block < W.heap.size := by obtain ⟨m, hm⟩ := k4; exact DataW.trod_lt m _ _ _ hm
  obtain ⟨a4, rfl, _, _, w4⟩ := open_int Try.underlying3 (hval 4 3 v4 rfl rfl) h4
  clear hA0 hval0
  have e0 := uw_of w0
  generalize BitVec.ofNat 64 a0.toNat = x0 at e0
  subst e0
  have e1 := uw_of w1
  generalize BitVec.ofNat 64 a1.toNat = x1 at e1
  subst e1
  have e2 := uw_of w2
  generalize BitVec.ofNat 64 a2.toNat = x2 at e2
  subst e2
  refine (irisMetric_walk x0 x1 x2 a3 a4 W).mono fun e W' ⟨he, bel⟩ => ?_
  subst he
  exact ⟨_, rfl, _, _, _, [], _, [], hW', trodAll_mk1 (shut_bool Try.underlying4 _), (trodAll_cons_mk (Below.trod laidOut (by kernel_rfl) (of_decide_eq_true (by kernel_rfl)) k0 bel lt0) (trodAll_cons_mk (Below.trod laidOut (by kernel_rfl) (of_decide_eq_true (by kernel_rfl)) k1 bel lt1) (trodAll_cons_mk (Below.trod laidOut (by kernel_rfl) (of_decide_eq_true (by kernel_rfl)) k2 bel lt2) (trodAll_cons_mk (Below.trod laidOut (by kernel_rfl) (of_decide_eq_true (by kernel_rfl)) k3 bel lt3) (trodAll_cons_mk (Below.trod laidOut (by kernel_rfl) (of_decide_eq_true (by kernel_rfl)) k4 bel lt4) trodAll_mk0))))), rfl, Below.frame bel _, fun h => by cases h⟩

theorem irisMetric_holds : Rows.IrisMetricSaid :=
  OpenClaim.holds_of_wide 12 Try.f12 rfl rfl rfl rfl rfl rfl rfl ⟨rfl, rfl, rfl, rfl, rfl⟩ rfl rfl rfl rfl rfl (by kernel_rfl) Try.func12 (by kernel_rfl)
    (of_decide_eq_true (by kernel_rfl)) (by unfold Func.isWrapper; first | (rw [if_pos (by decide +kernel)]; kernel_rfl) | (rw [if_neg (by decide +kernel)]; exact ⟨rfl, rfl⟩))
    (fun os started H enc _ => irisMetric_lifted os started H enc)
end Go.Proofs.Ytcacbolbedhcoaa
