/- Proved: for all codes a, turns t and numbers of turns, the call of whorllaw03.IrisSelf returns true and leaves its arguments as they were. No conditions. -/
import Derived.Test.YtcacbolbedhcoaaAlive
import Derived.Test.YtcacbolbedhcoaaVals
import Derived.Test.YtcacbolbedhcoaaArgs
namespace Go.Proofs.Ytcacbolbedhcoaa
open Go.Joins Go.ChangeShapes Go.WideShapes Go.RowKit Go.Deep Go.ChangeAt

set_option maxRecDepth 100000 in
set_option maxHeartbeats 2000000 in
theorem irisSelf_walk (a : Ir) (t turns : Int) (w : World) : Calls Try.prog 15 #[a.val, .int .i64 t, .int .i64 turns] w fun e w' => e = .returned (.bool true) ∧ Ext w w' := by
  by_cases h : okI a = true ∧ -7 ≤ t ∧ t ≤ 7
  rotate_left
  · obtain ⟨e, he, hv⟩ := turn_out h
    have C1 := Lib.hid (fun w => hv ▸ Turn_any a t w)
    have hz : (e == 0) = false := by simpa using he
    clear hv h
    go_enter Try.func15, Try.ntmps15
    go_wp2_with (first | (go_at_call 38; refine Calls.ext (alive_any _) fun z => ?_) | (go_at_call 23; refine Calls.ext (C1.out _) fun z => ?_))
    go_ret
    refine ⟨rfl, ?_⟩
    repeat' (first | with_reducible exact Ext.refl _ | with_reducible refine Ext.alloc ?_ _ | with_reducible refine Ext.ext ?_ _)
  obtain ⟨ha, ht⟩ := h
  have hb : okI (turnI' a t) = true := okI_turn a t ha
  have hab : (okI a && okI (turnI' a t)) = true := by rw [ha, hb]; rfl
  have C1 := Lib.hid (fun w => turn_in ha ht ▸ Turn_any a t w)
  obtain ⟨t1, t2⟩ := ht
  by_cases hm : max t (-t) ≤ turns
  rotate_left
  · have hm2 : turns < max t (-t) := by omega
    clear hm hab
    generalize turnI' a t = b at *
    go_enter Try.func15, Try.ntmps15
    go_wp2_with (first | (go_at_call 38; refine Calls.ext (alive_any _) fun z => ?_) | (go_at_call 23; refine Calls.ext (C1.out _) fun z => ?_))
    all_goals
      go_ret
      refine ⟨rfl, ?_⟩
      repeat' (first | with_reducible exact Ext.refl _ | with_reducible refine Ext.alloc ?_ _ | with_reducible refine Ext.ext ?_ _)
  by_cases h7 : turns ≤ 7
  rotate_left
  · have h7b : 7 < turns := by omega
    clear h7 hab
    generalize turnI' a t = b at *
    go_enter Try.func15, Try.ntmps15
    go_wp2_with (first | (go_at_call 38; refine Calls.ext (alive_any _) fun z => ?_) | (go_at_call 23; refine Calls.ext (C1.out _) fun z => ?_))
    all_goals
      go_ret
      refine ⟨rfl, ?_⟩
      repeat' (first | with_reducible exact Ext.refl _ | with_reducible refine Ext.alloc ?_ _ | with_reducible refine Ext.ext ?_ _)
  have hr : 0 ≤ turns ∧ turns ≤ 7 := by omega
  by_cases hk : 16 ≤ (cpop a.mask : Int)
  · obtain ⟨d, k, hbest, hd⟩ := self_best a t turns (by omega) h7 hk
    have C2 := Lib.hid (fun w => dist_ok hab hr hbest hd ▸ Distance_any a (turnI' a t) turns w)
    have hmat : matB (best7 a (turnI' a t) turns) 0 1 = true := by rw [hbest]; simp [matB, hd]
    have C3 := Lib.hid (fun w => hmat ▸ match_in hab hr (show limB 0 1 = true by decide) ▸ Match_any a (turnI' a t) turns 0 1 w)
    have Co := Lib.hid (fun w => ones_any a.mask w)
    clear hmat hbest hab hb ha
    generalize turnI' a t = b at *
    generalize (cpop a.mask : Int) = n at *
    go_enter Try.func15, Try.ntmps15
    go_wp2_with (first | (go_at_call 38; refine Calls.ext (alive_any _) fun z => ?_) | (go_at_call 23; refine Calls.ext (C1.out _) fun z => ?_) | (go_at_call 29; refine Calls.ext (C2.out _) fun z => ?_) | (go_at_call 41; refine Calls.same (Co.out _) ?_) | (go_at_call 31; refine Calls.ext (C3.out _) fun z => ?_))
    all_goals
      go_ret
      refine ⟨rfl, ?_⟩
      repeat' (first | with_reducible exact Ext.refl _ | with_reducible refine Ext.alloc ?_ _ | with_reducible refine Ext.ext ?_ _)
  · obtain ⟨x, y, z0, e0, hv⟩ := distV_is a (turnI' a t) turns
    have C2 := Lib.hid (fun w => hv ▸ Distance_any a (turnI' a t) turns w)
    have C4 := Lib.hid (fun w => cdn_self a t ▸ ctr_self (turnI' a t) ▸ cmp_in hab ⟨t1, t2⟩ ▸ Compare_any a (turnI' a t) t w)
    have Co := Lib.hid (fun w => ones_any a.mask w)
    have hk2 : (cpop a.mask : Int) < 16 := by omega
    clear hv hab hb ha hk
    generalize turnI' a t = b at *
    generalize (cpop a.mask : Int) = n at *
    go_enter Try.func15, Try.ntmps15
    go_wp2_with (first | (go_at_call 38; refine Calls.ext (alive_any _) fun z => ?_) | (go_at_call 23; refine Calls.ext (C1.out _) fun z => ?_) | (go_at_call 29; refine Calls.ext (C2.out _) fun z => ?_) | (go_at_call 41; refine Calls.same (Co.out _) ?_) | (go_at_call 27; refine Calls.ext (C4.out _) fun z => ?_))
    all_goals
      go_ret
      refine ⟨rfl, ?_⟩
      repeat' (first | with_reducible exact Ext.refl _ | with_reducible refine Ext.alloc ?_ _ | with_reducible refine Ext.ext ?_ _)
set_option maxRecDepth 100000 in
theorem irisSelf_lifted (os : Os) (started : os.Started) (H : Type) (enc : TypeId × Value → H) :
    ReturnsInHanded {} Try.checked os 15 .any (Rows.irisSelfSpec.pre6 enc Try.prog Try.f15 Rows.irisSelfRow.domain false) (Rows.irisSelfSpec.post enc Try.prog Try.f15 false true false false) := by
  refine returnsInHanded_of_change (C := Try.checked) own started (by kernel_rfl) Try.func15
    (ChangeSpec.witness6 (enc := enc) (C := Try.checked) false ⟨#[], #[.agg #[.int .u64 0, .int .u64 0], .int .i64 0, .int .i64 0], []⟩ 8 (by kernel_rfl) (by kernel_rfl) (by kernel_rfl) (by kernel_rfl)) ?_
  intro W base args ds gs before hval0 hW hcnd _
  have hval : ∀ (j : Nat) t v, Try.f15.params[j]? = some t → args[j]? = some v → Value.okWide Try.prog W .any base t v := hval0
  have hW' := hW
  obtain ⟨p, q, hA0, hV, rfl, hfz, hnd⟩ := hW
  have hA : DataW.TrodAll enc Try.prog W 0 (fun _ => true) true Try.f15.params.toList args.toList ds p := hA0
  rw [Try.params15] at hA hval
  obtain ⟨v0, vs0, d0, ds0, p0, q0, hargs, rfl, rfl, h0, r0⟩ := trodAll_cons hA
  obtain ⟨v1, vs1, d1, ds1, p1, q1, rfl, rfl, rfl, h1, r1⟩ := trodAll_cons r0
  obtain ⟨v2, vs2, d2, ds2, p2, q2, rfl, rfl, rfl, h2, r2⟩ := trodAll_cons r1
  obtain ⟨rfl, rfl, rfl⟩ := trodAll_nil r2
  obtain rfl : args = #[v0, v1, v2] := by cases args; simp_all
  obtain ⟨rfl, rfl⟩ := trodVars_none hV
  have k0 := h0
  have lt0 : ∀ x ∈ p0, x.block < W.heap.size := by obtain ⟨m, hm⟩ := k0; exact DataW.trod_lt m _ _ _ hm
  obtain ⟨ns0, hl0, hv0, wf0⟩ := open_nums (ks := [.u64, .u64]) Try.underlying27 (by kernel_rfl) (by kernel_rfl) (kindsOf_of (by kernel_rfl)) (hval 0 27 v0 rfl rfl) h0
  have k1 := h1
  have lt1 : ∀ x ∈ p1, x.block < W.heap.size := by obtain ⟨m, hm⟩ := k1; exact DataW.trod_lt m _ _ _ hm
  obtain ⟨a1, rfl, _, _, w1⟩ := open_int Try.underlying3 (hval 1 3 v1 rfl rfl) h1
  have k2 := h2
  have lt2 : ∀ x ∈ p2, x.block < W.heap.size := by obtain ⟨m, hm⟩ := k2; exact DataW.trod_lt m _ _ _ hm
  obtain ⟨a2, rfl, _, _, w2⟩ := open_int Try.underlying3 (hval 2 3 v2 rfl rfl) h2
  clear hA0 hval0
  rw [ir_of hl0 wf0] at hv0
  subst hv0
  refine (irisSelf_walk (toIr ns0) a1 a2 W).mono fun e W' ⟨he, bel⟩ => ?_
  subst he
  exact ⟨_, rfl, _, _, _, [], _, [], hW', trodAll_mk1 (shut_bool Try.underlying4 _), (trodAll_cons_mk (Below.trod laidOut (by kernel_rfl) (of_decide_eq_true (by kernel_rfl)) k0 bel lt0) (trodAll_cons_mk (Below.trod laidOut (by kernel_rfl) (of_decide_eq_true (by kernel_rfl)) k1 bel lt1) (trodAll_cons_mk (Below.trod laidOut (by kernel_rfl) (of_decide_eq_true (by kernel_rfl)) k2 bel lt2) trodAll_mk0))), rfl, Below.frame bel _, fun h => by cases h⟩

theorem irisSelf_holds : Rows.IrisSelfSaid :=
  OpenClaim.holds_of_wide 15 Try.f15 rfl rfl rfl rfl rfl rfl rfl ⟨rfl, rfl, rfl, rfl, rfl⟩ rfl rfl rfl rfl rfl (by kernel_rfl) Try.func15 (by kernel_rfl)
    (of_decide_eq_true (by kernel_rfl)) (by unfold Func.isWrapper; first | (rw [if_pos (by decide +kernel)]; kernel_rfl) | (rw [if_neg (by decide +kernel)]; exact ⟨rfl, rfl⟩))
    (fun os started H enc _ => irisSelf_lifted os started H enc)
end Go.Proofs.Ytcacbolbedhcoaa
