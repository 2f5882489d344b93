/- Proved: for all points, point, move and bend, the call of whorllaw02.AlignPlaces returns true and leaves its arguments as they were. No conditions. -/
import Derived.Test.YthejomcibobieaaArgs
namespace Go.Proofs.Ythejomcibobieaa
open Go.Joins Go.ChangeShapes Go.WideShapes Go.RowKit Go.Deep Go.ChangeAt

theorem place_four (m : Mi) (v : Mv) (b : Nat → Int) : ∃ x y d e : Int, placeT m v b = .tuple #[.int .i64 x, .int .i64 y, .int .i64 d, .int .i64 e] := by
  unfold placeT
  split
  · exact ⟨_, _, _, _, rfl⟩
  · exact ⟨_, _, _, _, rfl⟩
set_option maxRecDepth 100000 in
theorem refCheck_any (A : Option Addr) (c : Nat) (l : List Mi) (w : World) (hl : Pts w A l) (hn : l.length ≤ 100) :
    Calls Try.prog 20 #[.slice A l.length c] w fun e w' => e = .returned (.int .i64 (chkI l)) ∧ Ext w w' := by
  have C := Lib.hid (valid_any A c l w hl hn)
  cases h : okP l
  · have HV := Lib.hid (show chkI l = 20 by unfold chkI; rw [h]; rfl)
    rw [h] at C
    go_enter Try.func20, Try.ntmps20
    go_wp2_with fail
    refine Calls.ext C.out fun z => ?_
    go_wp2_with fail
    go_ret
    exact ⟨ret_of (by rw [HV.out]; rfl), (Ext.refl w).ext z⟩
  · have HV := Lib.hid (show chkI l = 0 by unfold chkI; rw [h]; rfl)
    rw [h] at C
    go_enter Try.func20, Try.ntmps20
    go_wp2_with fail
    refine Calls.ext C.out fun z => ?_
    go_wp2_with fail
    go_ret
    exact ⟨ret_of (by rw [HV.out]; rfl), (Ext.refl w).ext z⟩
set_option maxRecDepth 100000 in
set_option maxHeartbeats 4000000 in
theorem alignPlaces_walk (A : Option Addr) (c : Nat) (l : List Mi) (m : Mi) (v : Mv) (b : Nat → Int) (w : World) (hl : Pts w A l) (hd : 0 ≤ m.dir) : Calls Try.prog 3 #[.slice A l.length c, m.val, v.val, bendV b] w fun e w' => e = .returned (.bool true) ∧ Ext w w' := by
  by_cases hn : l.length ≤ 100
  · have C1 := Lib.hid (fun w => Place_any m v b hd w)
    have C2 := Lib.hid (fun w => refPlace_any m v b hd w)
    obtain ⟨x, y, d, e, he⟩ := place_four m v b
    rw [he] at C1 C2
    have C3 := Lib.hid (fun w' (h : Ext w w') => check_any A c l w' (hl.grow h) hn)
    have C4 := Lib.hid (fun w' (h : Ext w w') => refCheck_any A c l w' (hl.grow h) hn)
    generalize chkI l = ck at *
    clear he
    have hn2 : ((l.length : Nat) : Int) ≤ 100 := by omega
    go_enter Try.func3, Try.ntmps3
    go_wp2_with fail
    refine Calls.ext (C1.out _) fun z1 => ?_
    go_wp2_with fail
    refine Calls.ext (C2.out _) fun z2 => ?_
    go_wp2_with fail
    refine Calls.ext (C3.out _ ?_) fun z3 => ?_
    · repeat' (first | with_reducible exact Ext.refl _ | with_reducible refine Ext.alloc ?_ _ | with_reducible refine Ext.ext ?_ _)
    go_wp2_with fail
    refine Calls.ext (C4.out _ ?_) fun z4 => ?_
    · repeat' (first | with_reducible exact Ext.refl _ | with_reducible refine Ext.alloc ?_ _ | with_reducible refine Ext.ext ?_ _)
    go_wp2_with fail
    go_ret
    refine ⟨rfl, ?_⟩
    repeat' (first | with_reducible exact Ext.refl _ | with_reducible refine Ext.alloc ?_ _ | with_reducible refine Ext.ext ?_ _)
  · have hn2 : (100 : Int) < ((l.length : Nat) : Int) := by omega
    go_enter Try.func3, Try.ntmps3
    go_wp2_with fail
    go_ret
    refine ⟨rfl, ?_⟩
    repeat' (first | with_reducible exact Ext.refl _ | with_reducible refine Ext.alloc ?_ _ | with_reducible refine Ext.ext ?_ _)
set_option maxRecDepth 100000 in
theorem alignPlaces_lifted (os : Os) (started : os.Started) (H : Type) (enc : TypeId × Value → H) :
    ReturnsInHanded {} Try.checked os 3 .any (Rows.alignPlacesSpec.pre6 enc Try.prog Try.f3 Rows.alignPlacesRow.domain false) (Rows.alignPlacesSpec.post enc Try.prog Try.f3 false true false false) := by
  refine returnsInHanded_of_change (C := Try.checked) own started (by kernel_rfl) Try.func3
    (ChangeSpec.witness6 (enc := enc) (C := Try.checked) false ⟨#[], #[.slice none 0 0, .agg #[.int .i64 0, .int .i64 0, .int .u8 0, .int .u8 0], .agg #[.int .i64 0, .int .i64 0, .int .i64 0], .agg (Array.replicate 4 (.int .i64 0))], []⟩ 8 (by kernel_rfl) (by kernel_rfl) (by kernel_rfl) (by kernel_rfl)) ?_
  intro W base args ds gs before hval0 hW hcnd _
  have hval : ∀ (j : Nat) t v, Try.f3.params[j]? = some t → args[j]? = some v → Value.okWide Try.prog W .any base t v := hval0
  have hW' := hW
  obtain ⟨p, q, hA0, hV, rfl, hfz, hnd⟩ := hW
  have hA : DataW.TrodAll enc Try.prog W 0 (fun _ => true) true Try.f3.params.toList args.toList ds p := hA0
  rw [Try.params3] at hA hval
  obtain ⟨v0, vs0, d0, ds0, p0, q0, hargs, rfl, rfl, h0, r0⟩ := trodAll_cons hA
  obtain ⟨v1, vs1, d1, ds1, p1, q1, rfl, rfl, rfl, h1, r1⟩ := trodAll_cons r0
  obtain ⟨v2, vs2, d2, ds2, p2, q2, rfl, rfl, rfl, h2, r2⟩ := trodAll_cons r1
  obtain ⟨v3, vs3, d3, ds3, p3, q3, rfl, rfl, rfl, h3, r3⟩ := trodAll_cons r2
  obtain ⟨rfl, rfl, rfl⟩ := trodAll_nil r3
  obtain rfl : args = #[v0, v1, v2, v3] := by cases args; simp_all
  obtain ⟨rfl, rfl⟩ := trodVars_none hV
  have k0 := h0
  have lt0 : ∀ x ∈ p0, x.block < W.heap.size := by obtain ⟨m, hm⟩ := k0; exact DataW.trod_lt m _ _ _ hm
  obtain ⟨A0, rows0, cap0, rfl, hlc0, hcm0, hwf0, hrow0⟩ := open_rows (ks := [.i64, .i64, .u8, .u8]) Try.underlying22 Try.underlying24 (by kernel_rfl) (by kernel_rfl) (kindsOf_of (by kernel_rfl)) (by decide) (hval 0 22 v0 rfl rfl) h0
  have k1 := h1
  have lt1 : ∀ x ∈ p1, x.block < W.heap.size := by obtain ⟨m, hm⟩ := k1; exact DataW.trod_lt m _ _ _ hm
  obtain ⟨ns1, hl1, hv1, wf1⟩ := open_nums (ks := [.i64, .i64, .u8, .u8]) Try.underlying24 (by kernel_rfl) (by kernel_rfl) (kindsOf_of (by kernel_rfl)) (hval 1 24 v1 rfl rfl) h1
  have k2 := h2
  have lt2 : ∀ x ∈ p2, x.block < W.heap.size := by obtain ⟨m, hm⟩ := k2; exact DataW.trod_lt m _ _ _ hm
  obtain ⟨ns2, hl2, hv2, wf2⟩ := open_nums (ks := [.i64, .i64, .i64]) Try.underlying26 (by kernel_rfl) (by kernel_rfl) (kindsOf_of (by kernel_rfl)) (hval 2 26 v2 rfl rfl) h2
  have k3 := h3
  have lt3 : ∀ x ∈ p3, x.block < W.heap.size := by obtain ⟨m, hm⟩ := k3; exact DataW.trod_lt m _ _ _ hm
  obtain ⟨ns3, hl3, hv3, wf3⟩ := open_flat (ks := (List.replicate 4 .i64)) (by kernel_rfl) (hval 3 28 v3 rfl rfl)
  clear hA0 hval0
  obtain ⟨l0, hr0, hp0, hk0, hc0⟩ := pts_of_rows hwf0 hrow0 hlc0
  obtain ⟨mi1, hmi1, dd1⟩ := mi_of hl1 wf1
  rw [hmi1] at hv1
  subst hv1
  obtain ⟨mv2, hmv2⟩ := mv_of hl2
  rw [hmv2] at hv2
  subst hv2
  obtain ⟨bd3, hbd3⟩ := bend_of hl3
  rw [hbd3] at hv3
  subst hv3
  refine (hr0 ▸ alignPlaces_walk A0 cap0 l0 mi1 mv2 bd3 W hp0 dd1).mono fun e W' ⟨he, bel⟩ => ?_
  subst he
  exact ⟨_, rfl, _, _, _, [], _, [], hW', trodAll_mk1 (shut_bool Try.underlying4 _), (trodAll_cons_mk (Below.trod laidOut (by kernel_rfl) (of_decide_eq_true (by kernel_rfl)) k0 bel lt0) (trodAll_cons_mk (Below.trod laidOut (by kernel_rfl) (of_decide_eq_true (by kernel_rfl)) k1 bel lt1) (trodAll_cons_mk (Below.trod laidOut (by kernel_rfl) (of_decide_eq_true (by kernel_rfl)) k2 bel lt2) (trodAll_cons_mk (Below.trod laidOut (by kernel_rfl) (of_decide_eq_true (by kernel_rfl)) k3 bel lt3) trodAll_mk0)))), rfl, Below.frame bel _, fun h => by cases h⟩

theorem alignPlaces_holds : Rows.AlignPlacesSaid :=
  OpenClaim.holds_of_wide 3 Try.f3 rfl rfl rfl rfl rfl rfl rfl ⟨rfl, rfl, rfl, rfl, rfl⟩ rfl rfl rfl rfl rfl (by kernel_rfl) Try.func3 (by kernel_rfl)
    (of_decide_eq_true (by kernel_rfl)) (by unfold Func.isWrapper; first | (rw [if_pos (by decide +kernel)]; kernel_rfl) | (rw [if_neg (by decide +kernel)]; exact ⟨rfl, rfl⟩))
    (fun os started H enc _ => alignPlaces_lifted os started H enc)
end Go.Proofs.Ythejomcibobieaa
