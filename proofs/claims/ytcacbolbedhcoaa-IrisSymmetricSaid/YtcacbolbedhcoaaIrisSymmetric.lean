/- Proved: for all codes a, b and numbers of turns, the call of whorllaw03.IrisSymmetric returns true and leaves its arguments as they were. No conditions. -/
import Derived.Test.YtcacbolbedhcoaaAlive
import Derived.Test.YtcacbolbedhcoaaBest
import Derived.Test.YtcacbolbedhcoaaArgs
namespace Go.Proofs.Ytcacbolbedhcoaa
open Go.Joins Go.ChangeShapes Go.WideShapes Go.RowKit Go.Deep Go.ChangeAt

theorem dist_out {a b : Ir} {t : Int} (h : ¬ ((okI a && okI b) = true ∧ 0 ≤ t ∧ t ≤ 7)) : ∃ e : Int, e ≠ 0 ∧ distV a b t = .tuple #[.int .i64 0, .int .i64 0, .int .i64 0, .int .i64 e] ∧ distV b a t = .tuple #[.int .i64 0, .int .i64 0, .int .i64 0, .int .i64 e] := by
  unfold distV
  rw [Bool.and_comm (okI b)]
  cases ho : (okI a && okI b)
  · exact ⟨30, by decide, by simp⟩
  · cases hi : inB t 0 7
    · exact ⟨2, by decide, by simp⟩
    · exfalso; apply h; simp [inB] at hi; exact ⟨ho, by omega⟩

set_option maxRecDepth 100000 in
set_option maxHeartbeats 4000000 in
theorem irisSymmetric_walk (a b : Ir) (t m : Int) (w : World) : Calls Try.prog 8 #[a.val, b.val, .int .i64 t, .int .i64 m] w fun e w' => e = .returned (.bool true) ∧ Ext w w' := by
  by_cases h : (okI a && okI b) = true ∧ 0 ≤ t ∧ t ≤ 7
  rotate_left
  · obtain ⟨e, he, hv1, hv2⟩ := dist_out h
    have C1 := Lib.hid (fun w => hv1 ▸ Distance_any a b t w)
    have C2 := Lib.hid (fun w => hv2 ▸ Distance_any b a t w)
    have hz : (e == 0) = false := by simpa using he
    clear hv1 hv2 h
    go_enter Try.func8, Try.ntmps8
    go_wp2_with (go_at_call 38; refine Calls.ext (alive_any _) fun z => ?_)
    refine Calls.ext (C1.out _) fun z => ?_
    go_wp2_with fail
    refine Calls.ext (C2.out _) fun z => ?_
    go_wp2_with fail
    all_goals
      go_ret
      refine ⟨rfl, ?_⟩
      repeat' (first | with_reducible exact Ext.refl _ | with_reducible refine Ext.alloc ?_ _ | with_reducible refine Ext.ext ?_ _)
  obtain ⟨hab, ht⟩ := h
  have hba : (okI b && okI a) = true := by rw [Bool.and_comm]; exact hab
  obtain ⟨p, hp⟩ : ∃ p, best7 a b t = p := ⟨_, rfl⟩
  obtain ⟨q, hq⟩ : ∃ q, best7 b a t = q := ⟨_, rfl⟩
  have fp := best_fits ht hp
  have fq := best_fits ht hq
  by_cases hd : p.den = 0
  · have C1 := Lib.hid (fun w => dist_none hab ht hp hd ▸ Distance_any a b t w)
    have C2 := Lib.hid (fun w => dist_none hba ht hq (best_sym0 ht hp hq hd) ▸ Distance_any b a t w)
    clear hab hba hp hq hd
    go_enter Try.func8, Try.ntmps8
    go_wp2_with (go_at_call 38; refine Calls.ext (alive_any _) fun z => ?_)
    refine Calls.ext (C1.out _) fun z => ?_
    go_wp2_with fail
    refine Calls.ext (C2.out _) fun z => ?_
    go_wp2_with fail
    all_goals
      go_ret
      refine ⟨rfl, ?_⟩
      repeat' (first | with_reducible exact Ext.refl _ | with_reducible refine Ext.alloc ?_ _ | with_reducible refine Ext.ext ?_ _)
  have hp0 : 0 < p.den := by omega
  obtain ⟨hq0, heq⟩ := best_sym ht hp hq hp0
  have C1 := Lib.hid (fun w => dist_ok hab ht hp hp0 ▸ Distance_any a b t w)
  have C2 := Lib.hid (fun w => dist_ok hba ht hq hq0 ▸ Distance_any b a t w)
  have hm1 := mul_le p.num q.den (by omega) (by omega) (by omega) (by omega)
  by_cases hm : t ≤ m ∧ m ≤ 7
  · obtain ⟨r, hr⟩ : ∃ r, best7 a b m = r := ⟨_, rfl⟩
    have hmr : 0 ≤ m ∧ m ≤ 7 := by omega
    have fr := best_fits hmr hr
    obtain ⟨hr0, hle⟩ := best_more ht hm hp hr hp0
    have C3 := Lib.hid (fun w => dist_ok hab hmr hr hr0 ▸ Distance_any a b m w)
    have hless : lessB p.num p.den r.num r.den = false := by
      unfold lessB
      rw [decide_eq_false_iff_not]
      omega
    have C4 := Lib.hid (fun w => hless ▸ lessW_any p.num p.den r.num r.den w (by omega) (by omega) (by omega) (by omega))
    clear hab hba hp hq hd hless hle hr
    generalize p.num = n1 at *
    generalize p.den = n2 at *
    generalize p.turn = n3 at *
    generalize q.num = m1 at *
    generalize q.den = m2 at *
    generalize q.turn = m3 at *
    generalize r.num = r1 at *
    generalize r.den = r2 at *
    generalize r.turn = r3 at *
    obtain ⟨mm1, mm2⟩ := hm
    rw [heq] at hm1
    go_enter Try.func8, Try.ntmps8
    go_wp2_with (go_at_call 38; refine Calls.ext (alive_any _) fun z => ?_)
    refine Calls.ext (C1.out _) fun z => ?_
    go_wp2_with fail
    refine Calls.ext (C2.out _) fun z => ?_
    go_wp2_with fail
    refine Calls.ext (C3.out _) fun z => ?_
    go_wp2_with (go_at_call 40; refine Calls.same (C4.out _) ?_)
    all_goals
      go_ret
      refine ⟨rfl, ?_⟩
      repeat' (first | with_reducible exact Ext.refl _ | with_reducible refine Ext.alloc ?_ _ | with_reducible refine Ext.ext ?_ _)
  · clear hab hba hp hq hd
    generalize p.num = n1 at *
    generalize p.den = n2 at *
    generalize p.turn = n3 at *
    generalize q.num = m1 at *
    generalize q.den = m2 at *
    generalize q.turn = m3 at *
    rw [heq] at hm1
    by_cases h1 : m < t
    · clear hm
      go_enter Try.func8, Try.ntmps8
      go_wp2_with (go_at_call 38; refine Calls.ext (alive_any _) fun z => ?_)
      refine Calls.ext (C1.out _) fun z => ?_
      go_wp2_with fail
      refine Calls.ext (C2.out _) fun z => ?_
      go_wp2_with fail
      go_ret
      refine ⟨rfl, ?_⟩
      repeat' (first | with_reducible exact Ext.refl _ | with_reducible refine Ext.alloc ?_ _ | with_reducible refine Ext.ext ?_ _)
    · have h2 : 7 < m := by omega
      clear hm
      go_enter Try.func8, Try.ntmps8
      go_wp2_with (go_at_call 38; refine Calls.ext (alive_any _) fun z => ?_)
      refine Calls.ext (C1.out _) fun z => ?_
      go_wp2_with fail
      refine Calls.ext (C2.out _) fun z => ?_
      go_wp2_with fail
      go_ret
      refine ⟨rfl, ?_⟩
      repeat' (first | with_reducible exact Ext.refl _ | with_reducible refine Ext.alloc ?_ _ | with_reducible refine Ext.ext ?_ _)
set_option maxRecDepth 100000 in
theorem irisSymmetric_lifted (os : Os) (started : os.Started) (H : Type) (enc : TypeId × Value → H) :
    ReturnsInHanded {} Try.checked os 8 .any (Rows.irisSymmetricSpec.pre6 enc Try.prog Try.f8 Rows.irisSymmetricRow.domain false) (Rows.irisSymmetricSpec.post enc Try.prog Try.f8 false true false false) := by
  refine returnsInHanded_of_change (C := Try.checked) own started (by kernel_rfl) Try.func8
    (ChangeSpec.witness6 (enc := enc) (C := Try.checked) false ⟨#[], #[.agg #[.int .u64 0, .int .u64 0], .agg #[.int .u64 0, .int .u64 0], .int .i64 0, .int .i64 0], []⟩ 8 (by kernel_rfl) (by kernel_rfl) (by kernel_rfl) (by kernel_rfl)) ?_
  intro W base args ds gs before hval0 hW hcnd _
  have hval : ∀ (j : Nat) t v, Try.f8.params[j]? = some t → args[j]? = some v → Value.okWide Try.prog W .any base t v := hval0
  have hW' := hW
  obtain ⟨p, q, hA0, hV, rfl, hfz, hnd⟩ := hW
  have hA : DataW.TrodAll enc Try.prog W 0 (fun _ => true) true Try.f8.params.toList args.toList ds p := hA0
  rw [Try.params8] at hA hval
  obtain ⟨v0, vs0, d0, ds0, p0, q0, hargs, rfl, rfl, h0, r0⟩ := trodAll_cons hA
  obtain ⟨v1, vs1, d1, ds1, p1, q1, rfl, rfl, rfl, h1, r1⟩ := trodAll_cons r0
  obtain ⟨v2, vs2, d2, ds2, p2, q2, rfl, rfl, rfl, h2, r2⟩ := trodAll_cons r1
  obtain ⟨v3, vs3, d3, ds3, p3, q3, rfl, rfl, rfl, h3, r3⟩ := trodAll_cons r2
  obtain ⟨rfl, rfl, rfl⟩ := trodAll_nil r3
  obtain rfl : args = #[v0, v1, v2, v3] := by cases args; simp_all
  obtain ⟨rfl, rfl⟩ := trodVars_none hV
  have k0 := h0
  have lt0 : ∀ x ∈ p0, x.block < W.heap.size := by obtain ⟨m, hm⟩ := k0; exact DataW.trod_lt m _ _ _ hm
  obtain ⟨ns0, hl0, hv0, wf0⟩ := open_nums (ks := [.u64, .u64]) Try.underlying27 (by kernel_rfl) (by kernel_rfl) (kindsOf_of (by kernel_rfl)) (hval 0 27 v0 rfl rfl) h0
  have k1 := h1
  have lt1 : ∀ x ∈ p1, x.block < W.heap.size := by obtain ⟨m, hm⟩ := k1; exact DataW.trod_lt m _ _ _ hm
  obtain ⟨ns1, hl1, hv1, wf1⟩ := open_nums (ks := [.u64, .u64]) Try.underlying27 (by kernel_rfl) (by kernel_rfl) (kindsOf_of (by kernel_rfl)) (hval 1 27 v1 rfl rfl) h1
  have k2 := h2
  have lt2 : ∀ x ∈ p2, x.block < W.heap.size := by obtain ⟨m, hm⟩ := k2; exact DataW.trod_lt m _ _ _ hm
  obtain ⟨a2, rfl, _, _, w2⟩ := open_int Try.underlying3 (hval 2 3 v2 rfl rfl) h2
  have k3 := h3
  have lt3 : ∀ x ∈ p3, x.block < W.heap.size := by obtain ⟨m, hm⟩ := k3; exact DataW.trod_lt m _ _ _ hm
  obtain ⟨a3, rfl, _, _, w3⟩ := open_int Try.underlying3 (hval 3 3 v3 rfl rfl) h3
  clear hA0 hval0
  rw [ir_of hl0 wf0] at hv0
  subst hv0
  rw [ir_of hl1 wf1] at hv1
  subst hv1
  refine (irisSymmetric_walk (toIr ns0) (toIr ns1) a2 a3 W).mono fun e W' ⟨he, bel⟩ => ?_
  subst he
  exact ⟨_, rfl, _, _, _, [], _, [], hW', trodAll_mk1 (shut_bool Try.underlying4 _), (trodAll_cons_mk (Below.trod laidOut (by kernel_rfl) (of_decide_eq_true (by kernel_rfl)) k0 bel lt0) (trodAll_cons_mk (Below.trod laidOut (by kernel_rfl) (of_decide_eq_true (by kernel_rfl)) k1 bel lt1) (trodAll_cons_mk (Below.trod laidOut (by kernel_rfl) (of_decide_eq_true (by kernel_rfl)) k2 bel lt2) (trodAll_cons_mk (Below.trod laidOut (by kernel_rfl) (of_decide_eq_true (by kernel_rfl)) k3 bel lt3) trodAll_mk0)))), rfl, Below.frame bel _, fun h => by cases h⟩

theorem irisSymmetric_holds : Rows.IrisSymmetricSaid :=
  OpenClaim.holds_of_wide 8 Try.f8 rfl rfl rfl rfl rfl rfl rfl ⟨rfl, rfl, rfl, rfl, rfl⟩ rfl rfl rfl rfl rfl (by kernel_rfl) Try.func8 (by kernel_rfl)
    (of_decide_eq_true (by kernel_rfl)) (by unfold Func.isWrapper; first | (rw [if_pos (by decide +kernel)]; kernel_rfl) | (rw [if_neg (by decide +kernel)]; exact ⟨rfl, rfl⟩))
    (fun os started H enc _ => irisSymmetric_lifted os started H enc)
end Go.Proofs.Ytcacbolbedhcoaa
