/- Proved: for all numbers of bits n and words person, other, one, two, the call of whorllaw06.VeilViews returns true and leaves its arguments as they were. No conditions. -/
import Derived.Test.YtfdcapblgdlkaaaAlive
import Derived.Test.YtfdcapblgdlkaaaKeyLaw2
import Derived.Test.YtfdcapblgdlkaaaArgs
namespace Go.Proofs.Ytfdcapblgdlkaaa
open Go.Joins Go.ChangeShapes Go.WideShapes Go.RowKit Go.Deep Go.ChangeAt

theorem views_0 {n : Int} {x h : BitVec 16} (hk : okV n x h = false) : viewsV n x h = .tuple #[.int .i64 0, .int .i64 2] := by unfold viewsV; rw [hk]; rfl
theorem views_1 {m : Nat} {x h : BitVec 16} (hk : okV m x h = true) : viewsV m x h = .tuple #[.int .i64 (factN m), .int .i64 0] := by unfold viewsV; rw [if_pos hk, Int.toNat_natCast]
theorem okV_out {n : Int} (x h : BitVec 16) (hn : ¬ (1 ≤ n ∧ n ≤ 5)) : okV n x h = false := by
  unfold okV
  have : inB n 1 5 = false := by simp [inB]; omega
  rw [this]; rfl
theorem okV_in {m : Nat} (x h : BitVec 16) (hm : 1 ≤ m ∧ m ≤ 5) : okV m x h = (fitB m x && fitB m h) := by
  unfold okV
  have : inB m 1 5 = true := by simp [inB]; omega
  rw [this, Int.toNat_natCast, Bool.true_and]
theorem viewsV_is (n : Int) (x h : BitVec 16) : ∃ a b : Int, viewsV n x h = .tuple #[.int .i64 a, .int .i64 b] := by
  unfold viewsV
  split
  · exact ⟨_, _, rfl⟩
  · exact ⟨_, _, rfl⟩
set_option maxRecDepth 100000 in
set_option maxHeartbeats 4000000 in
theorem veilViews_walk (n : Int) (p q u v : BitVec 16) (w : World) : Calls Try.prog 8 #[.int .i64 n, .int .u16 (uv p), .int .u16 (uv q), .int .u16 (uv u), .int .u16 (uv v)] w fun e w' => e = .returned (.bool true) ∧ Ext w w' := by
  have C1 := fun w => Views_any n p u w
  by_cases hn : 1 ≤ n ∧ n ≤ 5
  rotate_left
  · rw [views_0 (okV_out p u hn)] at C1
    have C1 := Lib.hid C1
    by_cases h1 : n < 1
    · clear hn
      go_enter Try.func8, Try.ntmps8
      go_wp2_with fail
      refine Calls.ext (alive_any _) fun z0 => ?_
      go_wp2_with fail
      refine Calls.ext (C1.out _) fun z1 => ?_
      go_wp2_with fail
      go_ret
      exact ⟨rfl, (Ext.ext_self w z0).ext z1⟩
    · have h2 : 5 < n := by omega
      have h3 : 1 ≤ n := by omega
      clear hn h1
      go_enter Try.func8, Try.ntmps8
      go_wp2_with fail
      refine Calls.ext (alive_any _) fun z0 => ?_
      go_wp2_with fail
      refine Calls.ext (C1.out _) fun z1 => ?_
      go_wp2_with fail
      go_ret
      exact ⟨rfl, (Ext.ext_self w z0).ext z1⟩
  obtain ⟨m, rfl⟩ : ∃ m : Nat, n = m := ⟨n.toNat, by omega⟩
  have hm : 1 ≤ m ∧ m ≤ 5 := by omega
  have h2 : (m : Int) ≤ 5 := by omega
  have h3 : 1 ≤ (m : Int) := by omega
  have F1 := fun w => fits_any m (by omega) p w
  have F2 := fun w => fits_any m (by omega) u w
  have F3 := fun w => fits_any m (by omega) q w
  have F4 := fun w => fits_any m (by omega) v w
  have k1 := okV_in p u hm
  have k3 := okV_in q v hm
  have k2 := okV_in p v hm
  have j1 : decide ((m : Int) < 1) = false := by simp; omega
  have j2 : decide (m = 0) = false := by simp; omega
  have j3 : decide ((5 : Int) < m) = false := by simp; omega
  have j4 : decide (5 < m) = false := by simp; omega
  have hm0 : ¬ m = 0 := by omega
  have FA := Lib.hid (refFact_any m (by omega))
  clear hn
  cases g1 : fitB m p
  · rw [g1, Bool.false_and] at k1
    rw [views_0 k1] at C1
    rw [g1] at F1
    have C1 := Lib.hid C1
    have F1 := Lib.hid F1
    clear F2 F3 F4 k1 k2 k3 g1
    go_enter Try.func8, Try.ntmps8
    go_wp2_with fail
    refine Calls.ext (alive_any _) fun z0 => ?_
    go_wp2_with fail
    refine Calls.ext (C1.out _) fun z1 => ?_
    go_wp2_with fail
    refine Calls.same (F1.out _) ?_
    go_wp2_with fail
    go_ret
    exact ⟨rfl, (Ext.ext_self w z0).ext z1⟩
  rw [g1, Bool.true_and] at k1 k2
  rw [g1] at F1
  cases g2 : fitB m u
  · rw [g2] at k1 F2
    rw [views_0 k1] at C1
    have C1 := Lib.hid C1
    have F1 := Lib.hid F1
    have F2 := Lib.hid F2
    clear F3 F4 k1 k2 k3 g1 g2
    go_enter Try.func8, Try.ntmps8
    go_wp2_with fail
    refine Calls.ext (alive_any _) fun z0 => ?_
    go_wp2_with fail
    refine Calls.ext (C1.out _) fun z1 => ?_
    go_wp2_with fail
    refine Calls.same (F1.out _) ?_
    go_wp2_with fail
    refine Calls.same (F2.out _) ?_
    go_wp2_with fail
    go_ret
    exact ⟨rfl, (Ext.ext_self w z0).ext z1⟩
  rw [g2] at k1 F2
  rw [views_1 k1] at C1
  have C1 := Lib.hid C1
  have F1 := Lib.hid F1
  have F2 := Lib.hid F2
  cases g3 : fitB m q
  · rw [g3] at F3
    obtain ⟨a2, b2, e2⟩ := viewsV_is m p v
    obtain ⟨a3, b3, e3⟩ := viewsV_is m q v
    have C2 := Lib.hid (fun w => e2 ▸ Views_any m p v w)
    have C3 := Lib.hid (fun w => e3 ▸ Views_any m q v w)
    have F3 := Lib.hid F3
    clear F4 k1 k2 k3 g1 g2 g3 e2 e3
    go_enter Try.func8, Try.ntmps8
    go_wp2_with fail
    refine Calls.ext (alive_any _) fun z0 => ?_
    go_wp2_with fail
    refine Calls.ext (C1.out _) fun z1 => ?_
    go_wp2_with fail
    refine Calls.same (F1.out _) ?_
    go_wp2_with fail
    refine Calls.same (F2.out _) ?_
    go_wp2_with fail
    refine Calls.ext (C2.out _) fun z2 => ?_
    go_wp2_with fail
    refine Calls.ext (C3.out _) fun z3 => ?_
    go_wp2_with fail
    refine Calls.same (F3.out _) ?_
    go_wp2_with fail
    go_ret
    exact ⟨rfl, (((Ext.ext_self w z0).ext z1).ext z2).ext z3⟩
  rw [g3, Bool.true_and] at k3
  rw [g3] at F3
  have F3 := Lib.hid F3
  cases g4 : fitB m v
  · rw [g4] at F4 k2 k3
    have C2 := Lib.hid (fun w => views_0 k2 ▸ Views_any m p v w)
    have C3 := Lib.hid (fun w => views_0 k3 ▸ Views_any m q v w)
    have F4 := Lib.hid F4
    clear k1 k2 k3 g1 g2 g3 g4
    go_enter Try.func8, Try.ntmps8
    go_wp2_with fail
    refine Calls.ext (alive_any _) fun z0 => ?_
    go_wp2_with fail
    refine Calls.ext (C1.out _) fun z1 => ?_
    go_wp2_with fail
    refine Calls.same (F1.out _) ?_
    go_wp2_with fail
    refine Calls.same (F2.out _) ?_
    go_wp2_with fail
    refine Calls.ext (C2.out _) fun z2 => ?_
    go_wp2_with fail
    refine Calls.ext (C3.out _) fun z3 => ?_
    go_wp2_with fail
    refine Calls.same (F3.out _) ?_
    go_wp2_with fail
    refine Calls.same (F4.out _) ?_
    go_wp2_with fail
    go_ret
    exact ⟨rfl, (((Ext.ext_self w z0).ext z1).ext z2).ext z3⟩
  rw [g4] at F4 k2 k3
  have C2 := Lib.hid (fun w => views_1 k2 ▸ Views_any m p v w)
  have C3 := Lib.hid (fun w => views_1 k3 ▸ Views_any m q v w)
  have F4 := Lib.hid F4
  clear k1 k2 k3 g1 g2 g3 g4
  go_enter Try.func8, Try.ntmps8
  go_wp2_with fail
  refine Calls.ext (alive_any _) fun z0 => ?_
  go_wp2_with fail
  refine Calls.ext (C1.out _) fun z1 => ?_
  go_wp2_with fail
  refine Calls.same (F1.out _) ?_
  go_wp2_with fail
  refine Calls.same (F2.out _) ?_
  go_wp2_with fail
  refine Calls.ext (C2.out _) fun z2 => ?_
  go_wp2_with fail
  refine Calls.ext (C3.out _) fun z3 => ?_
  go_wp2_with fail
  refine Calls.same (F3.out _) ?_
  go_wp2_with fail
  refine Calls.same (F4.out _) ?_
  go_wp2_with fail
  refine Calls.same (FA.out _) ?_
  go_wp2_with fail
  go_ret
  exact ⟨rfl, (((Ext.ext_self w z0).ext z1).ext z2).ext z3⟩
set_option maxRecDepth 100000 in
theorem veilViews_lifted (os : Os) (started : os.Started) (H : Type) (enc : TypeId × Value → H) :
    ReturnsInHanded {} Try.checked os 8 .any (Rows.veilViewsSpec.pre6 enc Try.prog Try.f8 Rows.veilViewsRow.domain false) (Rows.veilViewsSpec.post enc Try.prog Try.f8 false true false false) := by
  refine returnsInHanded_of_change (C := Try.checked) own started (by kernel_rfl) Try.func8
    (ChangeSpec.witness6 (enc := enc) (C := Try.checked) false ⟨#[], #[.int .i64 0, .int .u16 0, .int .u16 0, .int .u16 0, .int .u16 0], []⟩ 8 (by kernel_rfl) (by kernel_rfl) (by kernel_rfl) (by kernel_rfl)) ?_
  intro W base args ds gs before hval0 hW hcnd _
  have hval : ∀ (j : Nat) t v, Try.f8.params[j]? = some t → args[j]? = some v → Value.okWide Try.prog W .any base t v := hval0
  have hW' := hW
  obtain ⟨p, q, hA0, hV, rfl, hfz, hnd⟩ := hW
  have hA : DataW.TrodAll enc Try.prog W 0 (fun _ => true) true Try.f8.params.toList args.toList ds p := hA0
  rw [Try.params8] at hA hval
  obtain ⟨v0, vs0, d0, ds0, p0, q0, hargs, rfl, rfl, h0, r0⟩ := trodAll_cons hA
  obtain ⟨v1, vs1, d1, ds1, p1, q1, rfl, rfl, rfl, h1, r1⟩ := trodAll_cons r0
  obtain ⟨v2, vs2, d2, ds2, p2, q2, rfl, rfl, rfl, h2, r2⟩ := trodAll_cons r1
  obtain ⟨v3, vs3, d3, ds3, p3, q3, rfl, rfl, rfl, h3, r3⟩ := trodAll_cons r2
  obtain ⟨v4, vs4, d4, ds4, p4, q4, rfl, rfl, rfl, h4, r4⟩ := trodAll_cons r3
  obtain ⟨rfl, rfl, rfl⟩ := trodAll_nil r4
  obtain rfl : args = #[v0, v1, v2, v3, v4] := by cases args; simp_all
  obtain ⟨rfl, rfl⟩ := trodVars_none hV
  have k0 := h0
  have lt0 : ∀ x ∈ p0, x.block < W.heap.size := by obtain ⟨m, hm⟩ := k0; exact DataW.trod_lt m _ _ _ hm
  obtain ⟨a0, rfl, _, _, w0⟩ := open_int Try.underlying3 (hval 0 3 v0 rfl rfl) h0
  have k1 := h1
  have lt1 : ∀ x ∈ p1, x.block < W.heap.size := by obtain ⟨m, hm⟩ := k1; exact DataW.trod_lt m _ _ _ hm
  obtain ⟨a1, rfl, _, _, w1⟩ := open_int Try.underlying27 (hval 1 27 v1 rfl rfl) h1
  have k2 := h2
  have lt2 : ∀ x ∈ p2, x.block < W.heap.size := by obtain ⟨m, hm⟩ := k2; exact DataW.trod_lt m _ _ _ hm
  obtain ⟨a2, rfl, _, _, w2⟩ := open_int Try.underlying27 (hval 2 27 v2 rfl rfl) h2
  have k3 := h3
  have lt3 : ∀ x ∈ p3, x.block < W.heap.size := by obtain ⟨m, hm⟩ := k3; exact DataW.trod_lt m _ _ _ hm
  obtain ⟨a3, rfl, _, _, w3⟩ := open_int Try.underlying27 (hval 3 27 v3 rfl rfl) h3
  have k4 := h4
  have lt4 : ∀ x ∈ p4, x.block < W.heap.size := by obtain ⟨m, hm⟩ := k4; exact DataW.trod_lt m _ _ _ hm
  obtain ⟨a4, rfl, _, _, w4⟩ := open_int Try.underlying27 (hval 4 27 v4 rfl rfl) h4
  clear hA0 hval0
  have e1 := uv_of w1
  generalize BitVec.ofNat 16 a1.toNat = x1 at e1
  subst e1
  have e2 := uv_of w2
  generalize BitVec.ofNat 16 a2.toNat = x2 at e2
  subst e2
  have e3 := uv_of w3
  generalize BitVec.ofNat 16 a3.toNat = x3 at e3
  subst e3
  have e4 := uv_of w4
  generalize BitVec.ofNat 16 a4.toNat = x4 at e4
  subst e4
  refine (veilViews_walk a0 x1 x2 x3 x4 W).mono fun e W' ⟨he, bel⟩ => ?_
  subst he
  exact ⟨_, rfl, _, _, _, [], _, [], hW', trodAll_mk1 (shut_bool Try.underlying4 _), (trodAll_cons_mk (Below.trod laidOut (by kernel_rfl) (of_decide_eq_true (by kernel_rfl)) k0 bel lt0) (trodAll_cons_mk (Below.trod laidOut (by kernel_rfl) (of_decide_eq_true (by kernel_rfl)) k1 bel lt1) (trodAll_cons_mk (Below.trod laidOut (by kernel_rfl) (of_decide_eq_true (by kernel_rfl)) k2 bel lt2) (trodAll_cons_mk (Below.trod laidOut (by kernel_rfl) (of_decide_eq_true (by kernel_rfl)) k3 bel lt3) (trodAll_cons_mk (Below.trod laidOut (by kernel_rfl) (of_decide_eq_true (by kernel_rfl)) k4 bel lt4) trodAll_mk0))))), rfl, Below.frame bel _, fun h => by cases h⟩

theorem veilViews_holds : Rows.VeilViewsSaid :=
  OpenClaim.holds_of_wide 8 Try.f8 rfl rfl rfl rfl rfl rfl rfl ⟨rfl, rfl, rfl, rfl, rfl⟩ rfl rfl rfl rfl rfl (by kernel_rfl) Try.func8 (by kernel_rfl)
    (of_decide_eq_true (by kernel_rfl)) (by unfold Func.isWrapper; first | (rw [if_pos (by decide +kernel)]; kernel_rfl) | (rw [if_neg (by decide +kernel)]; exact ⟨rfl, rfl⟩))
    (fun os started H enc _ => veilViews_lifted os started H enc)
end Go.Proofs.Ytfdcapblgdlkaaa
