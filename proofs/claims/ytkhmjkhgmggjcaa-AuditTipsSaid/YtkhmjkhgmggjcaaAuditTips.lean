/- Proved: for every log l and all numbers n, tip and detail, the call of whorllaw11.AuditTips(l, n, tip, detail) returns true and leaves its arguments as they were. No conditions. -/
import Derived.Test.YtkhmjkhgmggjcaaLogs
namespace Go.Proofs.Ytkhmjkhgmggjcaa
open Go.Joins Go.ChangeShapes Go.WideShapes Go.RowKit Go.Deep Go.ChangeAt

set_option maxHeartbeats 1000000 in
theorem auditTips_walk (A : Option Addr) (c : Nat) (l : List E) (n t d : Int) (w : World) (hl : Log w A l) (hok : ∀ x ∈ l, x.ok) (hc : l.length ≤ c) :
    Calls Try.prog 4 #[.slice A l.length c, .int .i64 n, .int .u64 t, .int .u64 d] w fun e w' => e = .returned (.bool true) ∧ Ext w w' := by

  by_cases hn : l.length ≤ 100
  · obtain ⟨p0, p1, hp⟩ : ∃ a b, tipV l = .tuple #[.int .u64 a, .int .i64 b] := by unfold tipV; split <;> exact ⟨_, _, rfl⟩
    obtain ⟨f0, f1, hf⟩ : ∃ a b, extV l n t = .tuple #[.bool a, .int .i64 b] := by unfold extV; split; split; all_goals exact ⟨_, _, rfl⟩
    have c1 : ∀ w', Ext w w' → Calls Try.prog 22 #[.slice A l.length c] w' fun e w'' => e = .returned (.tuple #[.int .u64 p0, .int .i64 p1]) ∧ Ext w' w'' := fun w' hg => hp ▸ tip_any A c l w' (hl.grow hg) hn
    have c2 : ∀ w', Ext w w' → Calls Try.prog 23 #[.slice A l.length c] w' fun e w'' => e = .returned (.tuple #[.int .u64 p0, .int .i64 p1]) ∧ Ext w' w'' := fun w' hg => hp ▸ refTip_any A c l w' (hl.grow hg) hok hn
    have c3 : ∀ w', Ext w w' → Calls Try.prog 24 #[.slice A l.length c, .int .i64 n, .int .u64 t] w' fun e w'' => e = .returned (.tuple #[.bool f0, .int .i64 f1]) ∧ Ext w' w'' := fun w' hg => hf ▸ extends_any A c l n t w' (hl.grow hg) hn hc
    have c4 : ∀ w', Ext w w' → Calls Try.prog 25 #[.slice A l.length c, .int .i64 n, .int .u64 t] w' fun e w'' => e = .returned (.tuple #[.bool f0, .int .i64 f1]) ∧ Ext w' w'' := fun w' hg => hf ▸ refExtends_any A c l n t w' (hl.grow hg) hok hn hc
    have C1 := Lib.hid c1
    have C2 := Lib.hid c2
    have C3 := Lib.hid c3
    have C4 := Lib.hid c4
    clear c1 c2 c3 c4 hp hf hok
    go_enter Try.func4, Try.ntmps4
    go_wp2_with fail
    refine Calls.ext (C1.out _ (Ext.refl _)) fun z1 => ?_
    go_wp2_with fail
    refine Calls.ext (C2.out _ ((Ext.refl _).ext _)) fun z2 => ?_
    go_wp2_with fail
    refine Calls.ext (C3.out _ (((Ext.refl _).ext _).ext _)) fun z3 => ?_
    go_wp2_with fail
    refine Calls.ext (C4.out _ ((((Ext.refl _).ext _).ext _).ext _)) fun z4 => ?_
    go_wp2_with (first | (go_at_call 26; refine Calls.same (salt_any _ _ _) ?_) | (go_at_call 27; refine Calls.same (refSalt_any _ _ _) ?_))
    go_ret
    exact ⟨rfl, ((((Ext.refl _).ext _).ext _).ext _).ext _⟩
  · go_enter Try.func4, Try.ntmps4
    go_wp2_with fail
    go_ret
    exact ⟨rfl, Ext.refl _⟩

set_option maxRecDepth 100000 in
theorem auditTips_lifted (os : Os) (started : os.Started) (H : Type) (enc : TypeId × Value → H) :
    ReturnsInHanded {} Try.checked os 4 .any (Rows.auditTipsSpec.pre6 enc Try.prog Try.f4 Rows.auditTipsRow.domain false) (Rows.auditTipsSpec.post enc Try.prog Try.f4 false true false false) := by
  refine returnsInHanded_of_change (C := Try.checked) own started (by kernel_rfl) Try.func4
    (ChangeSpec.witness6 (enc := enc) (C := Try.checked) false ⟨#[], #[.slice none 0 0, .int .i64 0, .int .u64 0, .int .u64 0], []⟩ 8 (by kernel_rfl) (by kernel_rfl) (by kernel_rfl) (by kernel_rfl)) ?_
  intro W base args ds gs before hval0 hW hcnd _
  have hval : ∀ (j : Nat) t v, Try.f4.params[j]? = some t → args[j]? = some v → Value.okWide Try.prog W .any base t v := hval0
  have hW' := hW
  obtain ⟨p, q, hA0, hV, rfl, hfz, hnd⟩ := hW
  have hA : DataW.TrodAll enc Try.prog W 0 (fun _ => true) true Try.f4.params.toList args.toList ds p := hA0
  rw [Try.params4] at hA hval
  obtain ⟨v0, vs0, d0, ds0, p0, q0, hargs, rfl, rfl, h0, r0⟩ := trodAll_cons hA
  obtain ⟨v1, vs1, d1, ds1, p1, q1, rfl, rfl, rfl, h1, r1⟩ := trodAll_cons r0
  obtain ⟨v2, vs2, d2, ds2, p2, q2, rfl, rfl, rfl, h2, r2⟩ := trodAll_cons r1
  obtain ⟨v3, vs3, d3, ds3, p3, q3, rfl, rfl, rfl, h3, r3⟩ := trodAll_cons r2
  obtain ⟨rfl, rfl, rfl⟩ := trodAll_nil r3
  obtain rfl : args = #[v0, v1, v2, v3] := by cases args; simp_all
  obtain ⟨rfl, rfl⟩ := trodVars_none hV
  have k0 := h0
  have lt0 : ∀ x ∈ p0, x.block < W.heap.size := by obtain ⟨m, hm⟩ := k0; exact DataW.trod_lt m _ _ _ hm
  obtain ⟨A0, rows0, cap0, rfl, hlc0, hcm0, hwf0, hrow0⟩ := open_rows (ks := [.i64, .i64, .i64, .u64, .u64, .u64, .u64]) Try.underlying39 Try.underlying54 (by kernel_rfl) (by kernel_rfl) (kindsOf_of (by kernel_rfl)) (by decide) (hval 0 39 v0 rfl rfl) h0
  have k1 := h1
  have lt1 : ∀ x ∈ p1, x.block < W.heap.size := by obtain ⟨m, hm⟩ := k1; exact DataW.trod_lt m _ _ _ hm
  obtain ⟨a1, rfl, _, _, w1⟩ := open_int Try.underlying3 (hval 1 3 v1 rfl rfl) h1
  have k2 := h2
  have lt2 : ∀ x ∈ p2, x.block < W.heap.size := by obtain ⟨m, hm⟩ := k2; exact DataW.trod_lt m _ _ _ hm
  obtain ⟨a2, rfl, _, _, w2⟩ := open_int Try.underlying24 (hval 2 24 v2 rfl rfl) h2
  have k3 := h3
  have lt3 : ∀ x ∈ p3, x.block < W.heap.size := by obtain ⟨m, hm⟩ := k3; exact DataW.trod_lt m _ _ _ hm
  obtain ⟨a3, rfl, _, _, w3⟩ := open_int Try.underlying24 (hval 3 24 v3 rfl rfl) h3
  clear hA0 hval0
  obtain ⟨l, hle, hlog, hfit, hcap⟩ := log_of_rows hwf0 hrow0 hlc0
  refine (hle ▸ auditTips_walk A0 cap0 l a1 a2 a3 W hlog (fun x hx => (hfit x hx).ok) hcap).mono fun e W' ⟨he, bel⟩ => ?_
  subst he
  exact ⟨_, rfl, _, _, _, [], _, [], hW', trodAll_mk1 (shut_bool Try.underlying4 _), (trodAll_cons_mk (Below.trod laidOut (by kernel_rfl) (of_decide_eq_true (by kernel_rfl)) k0 bel lt0) (trodAll_cons_mk (Below.trod laidOut (by kernel_rfl) (of_decide_eq_true (by kernel_rfl)) k1 bel lt1) (trodAll_cons_mk (Below.trod laidOut (by kernel_rfl) (of_decide_eq_true (by kernel_rfl)) k2 bel lt2) (trodAll_cons_mk (Below.trod laidOut (by kernel_rfl) (of_decide_eq_true (by kernel_rfl)) k3 bel lt3) trodAll_mk0)))), rfl, Below.frame bel _, fun h => by cases h⟩

theorem auditTips_holds : Rows.AuditTipsSaid :=
  OpenClaim.holds_of_wide 4 Try.f4 rfl rfl rfl rfl rfl rfl rfl ⟨rfl, rfl, rfl, rfl, rfl⟩ rfl rfl rfl rfl rfl (by kernel_rfl) Try.func4 (by kernel_rfl)
    (of_decide_eq_true (by kernel_rfl)) (by unfold Func.isWrapper; first | (rw [if_pos (by decide +kernel)]; kernel_rfl) | (rw [if_neg (by decide +kernel)]; exact ⟨rfl, rfl⟩))
    (fun os started H enc _ => auditTips_lifted os started H enc)
end Go.Proofs.Ytkhmjkhgmggjcaa
