/- Proved: the call of whorllaw02.AlignExamples returns true. No conditions. -/
import Derived.Test.YthejomcibobieaaOuts
namespace Go.Proofs.Ythejomcibobieaa
open Go.Joins Go.ChangeShapes Go.WideShapes Go.RowKit Go.Deep Go.ChangeAt

theorem ex_p1 : placeT ⟨10, 20, 1, 0⟩ ⟨0, 3, -1⟩ (fun _ => 0) = .tuple #[.int .i64 13, .int .i64 19, .int .i64 0, .int .i64 0] := by kernel_rfl
theorem ex_p2 : placeT ⟨10, 20, 1, 0⟩ ⟨0, 0, 0⟩ (Bd.f ⟨1, 0, 0, 0⟩) = .tuple #[.int .i64 10, .int .i64 21, .int .i64 0, .int .i64 0] := by kernel_rfl
theorem ex_p3 : placeT ⟨32, 32, 1, 0⟩ ⟨2, 0, 0⟩ (fun _ => 0) = .tuple #[.int .i64 32, .int .i64 32, .int .i64 2, .int .i64 0] := by kernel_rfl
theorem ex_p4 : placeT ⟨48, 32, 1, 1⟩ ⟨1, 0, 0⟩ (fun _ => 0) = .tuple #[.int .i64 47, .int .i64 38, .int .i64 3, .int .i64 0] := by kernel_rfl
theorem ex_s1 : scoreT ⟨0, 4, 0, 0, 0⟩ pA qA ⟨0, 3, 0⟩ (fun _ => 0) = .tuple #[.int .i64 1, .int .i64 0] := by kernel_rfl
theorem ex_s2 : scoreT ⟨0, 4, 0, 0, 0⟩ pA qA ⟨0, 3, 1⟩ (fun _ => 0) = .tuple #[.int .i64 1, .int .i64 0] := by kernel_rfl
theorem ex_s3 : scoreT ⟨0, 2, 0, 0, 0⟩ pA qA ⟨0, 3, 0⟩ (fun _ => 0) = .tuple #[.int .i64 0, .int .i64 2] := by kernel_rfl
def atE : At := ⟨⟨0, 2, 0⟩, ⟨-1, -1, -1, -1⟩, 0⟩
theorem ex_t : tryT ⟨0, 4, 1, 0, 0⟩ pA qA ⟨0, 2, 0⟩ = .tuple #[.agg #[.int .i64 0, .int .i64 2, .int .i64 0, .int .i64 (-1), .int .i64 (-1), .int .i64 (-1), .int .i64 (-1), .int .i64 0], .int .i64 0] := by kernel_rfl
theorem ex_c : chkI [⟨30, 40, 2, 3⟩, ⟨10, 20, 1, 0⟩] = 20 := by kernel_rfl
set_option maxRecDepth 100000 in
set_option maxHeartbeats 8000000 in
theorem alignExamples_walk (w : World) : Calls Try.prog 7 #[] w fun e w' => e = .returned (.bool true) ∧ Ext w w' := by
  have CA := Lib.hid (fun w => alive_any w)
  have D1 := Lib.hid (fun w => point_any 10 20 1 0 w)
  have D3 := Lib.hid (fun w => point_any 32 32 1 0 w)
  have D4 := Lib.hid (fun w => point_any 48 32 1 1 w)
  have P1 := Lib.hid (fun w => ex_p1 ▸ Place_any ⟨10, 20, 1, 0⟩ ⟨0, 3, -1⟩ (fun _ => 0) (by decide) w)
  have P2 := Lib.hid (fun w => ex_p2 ▸ Place_any ⟨10, 20, 1, 0⟩ ⟨0, 0, 0⟩ (Bd.f ⟨1, 0, 0, 0⟩) (by decide) w)
  have P3 := Lib.hid (fun w => ex_p3 ▸ Place_any ⟨32, 32, 1, 0⟩ ⟨2, 0, 0⟩ (fun _ => 0) (by decide) w)
  have P4 := Lib.hid (fun w => ex_p4 ▸ Place_any ⟨48, 32, 1, 1⟩ ⟨1, 0, 0⟩ (fun _ => 0) (by decide) w)
  have T1 := Lib.hid (fun w => at_any 13 19 0 w)
  have T2 := Lib.hid (fun w => at_any 10 21 0 w)
  have T3 := Lib.hid (fun w => at_any 32 32 2 w)
  have T4 := Lib.hid (fun w => at_any 47 38 3 w)
  have S1 := Lib.hid (fun A A' n n' w h1 h2 => ex_s1 ▸ Score_any ⟨0, 4, 0, 0, 0⟩ pA qA ⟨0, 3, 0⟩ (fun _ => 0) pA_dir qA_dir (by decide) (by decide) A A' n n' w h1 h2)
  have S2 := Lib.hid (fun A A' n n' w h1 h2 => ex_s2 ▸ Score_any ⟨0, 4, 0, 0, 0⟩ pA qA ⟨0, 3, 1⟩ (fun _ => 0) pA_dir qA_dir (by decide) (by decide) A A' n n' w h1 h2)
  have S3 := Lib.hid (fun A A' n n' w h1 h2 => ex_s3 ▸ Score_any ⟨0, 2, 0, 0, 0⟩ pA qA ⟨0, 3, 0⟩ (fun _ => 0) pA_dir qA_dir (by decide) (by decide) A A' n n' w h1 h2)
  have TR := Lib.hid (fun A A' n n' w h1 h2 => ex_t ▸ Try_any ⟨0, 4, 1, 0, 0⟩ pA qA ⟨0, 2, 0⟩ pA_dir qA_dir (by decide) (by decide) A A' n n' w h1 h2)
  have CK := Lib.hid (fun A w h => ex_c ▸ check_any A 2 [⟨30, 40, 2, 3⟩, ⟨10, 20, 1, 0⟩] w h (by decide))
  have hq46 : ∀ w, (Op.equalIn 10000 46 (.agg #[.int .i64 0, .int .i64 2, .int .i64 0, .int .i64 (-1), .int .i64 (-1), .int .i64 (-1), .int .i64 (-1), .int .i64 0]) (.agg #[.int .i64 0, .int .i64 2, .int .i64 0, .int .i64 (-1), .int .i64 (-1), .int .i64 (-1), .int .i64 (-1), .int .i64 0])).run Try.prog w = .ok true w := fun w => by
    have hw : atE.wf := by constructor <;> (unfold wfI; decide)
    exact (eq46 hw hw w).trans (by simp)
  go_enter Try.func7, Try.ntmps7
  go_wp2_with fail
  refine Calls.ext (D1.out _) fun z1 => ?_
  go_wp2_with fail
  refine Calls.ext (P1.out _) fun z2 => ?_
  go_wp2_with fail
  refine Calls.ext (D1.out _) fun z3 => ?_
  go_wp2_with fail
  refine Calls.ext (P2.out _) fun z4 => ?_
  go_wp2_with fail
  refine Calls.ext (D3.out _) fun z5 => ?_
  go_wp2_with fail
  refine Calls.ext (P3.out _) fun z6 => ?_
  go_wp2_with fail
  refine Calls.ext (D4.out _) fun z7 => ?_
  go_wp2_with fail
  refine Calls.ext (P4.out _) fun z8 => ?_
  go_wp2_with fail
  have hE8 := (((((((((Ext.refl w).ext z1).ext z2).ext z3).ext z4).ext z5).ext z6).ext z7).ext z8)
  generalize ext (ext (ext (ext (ext (ext (ext (ext w z1) z2) z3) z4) z5) z6) z7) z8 = V at *
  refine Calls.ext (CA.out _) fun z9 => ?_
  go_wp2_with fail
  refine Calls.ext (T1.out _) fun z10 => ?_
  go_wp2_with fail
  refine Calls.ext (T2.out _) fun z11 => ?_
  go_wp2_with fail
  refine Calls.ext (T3.out _) fun z12 => ?_
  go_wp2_with fail
  refine Calls.ext (T4.out _) fun z13 => ?_
  go_wp2_with fail
  have hE13 := (((((hE8.ext z9).ext z10).ext z11).ext z12).ext z13)
  generalize ext (ext (ext (ext (ext V z9) z10) z11) z12) z13 = V1 at *
  refine call_two fun A1 A2 z14 hP hQ => ?_
  have HP := Lib.hid hP
  have HQ := Lib.hid hQ
  have hE14 := hE13.ext z14
  clear hP hQ hE13 hE8
  generalize ext V1 z14 = V2 at *
  have hF0 := Ext.refl V2
  go_wp2_with fail
  refine Calls.ext (S1.out _ _ _ _ _ (HP.out.grow hF0) (HQ.out.grow hF0)) fun z1 => ?_
  go_wp2_with fail
  have hF1 := hF0.ext z1
  refine Calls.ext (S2.out _ _ _ _ _ (HP.out.grow hF1) (HQ.out.grow hF1)) fun z2 => ?_
  go_wp2_with fail
  have hF2 := hF1.ext z2
  refine Calls.ext (TR.out _ _ _ _ _ (HP.out.grow hF2) (HQ.out.grow hF2)) fun z3 => ?_
  go_wp2_with fail
  have hF3 := (hF2.ext z3).alloc (.cells #[.int .i64 0, .int .i64 2, .int .i64 0, .int .i64 (-1), .int .i64 (-1), .int .i64 (-1), .int .i64 (-1), .int .i64 0] 46)
  refine Calls.ext (S3.out _ _ _ _ _ (HP.out.grow hF3) (HQ.out.grow hF3)) fun z4 => ?_
  have hF4 := hF3.ext z4
  have HT := Lib.hid ((Blk.new (ext (ext (ext V2 z1) z2) z3) 46 #[.int .i64 0, .int .i64 2, .int .i64 0, .int .i64 (-1), .int .i64 (-1), .int .i64 (-1), .int .i64 (-1), .int .i64 0]).ext z4)
  generalize (ext (ext (ext V2 z1) z2) z3).heap.size = g1 at *
  generalize ext ((ext (ext (ext V2 z1) z2) z3).alloc (.cells #[.int .i64 0, .int .i64 2, .int .i64 0, .int .i64 (-1), .int .i64 (-1), .int .i64 (-1), .int .i64 (-1), .int .i64 0] 46)) z4 = V3 at *
  have oT := Old.mk HT.out.lt
  have t0 : V3.cell? ⟨g1, 0, none⟩ = some (.int .i64 0) := HT.out.cell 0
  have t1 : V3.cell? ⟨g1, 1, none⟩ = some (.int .i64 2) := HT.out.cell 1
  have t2 : V3.cell? ⟨g1, 2, none⟩ = some (.int .i64 0) := HT.out.cell 2
  have t3 : V3.cell? ⟨g1, 3, none⟩ = some (.int .i64 (-1)) := HT.out.cell 3
  have t4 : V3.cell? ⟨g1, 4, none⟩ = some (.int .i64 (-1)) := HT.out.cell 4
  have t5 : V3.cell? ⟨g1, 5, none⟩ = some (.int .i64 (-1)) := HT.out.cell 5
  have t6 : V3.cell? ⟨g1, 6, none⟩ = some (.int .i64 (-1)) := HT.out.cell 6
  have t7 : V3.cell? ⟨g1, 7, none⟩ = some (.int .i64 0) := HT.out.cell 7
  rcases HP.out.grow hF4 with hn | ⟨ga, oa, rfl, ha2, hac⟩
  · cases hn
  have og := Old.mk ha2
  obtain ⟨p0, p1, p2, p3⟩ := hac 0 _ rfl
  obtain ⟨p4, p5, p6, p7⟩ := hac 1 _ rfl
  clear hac
  simp only [Nat.zero_mul, Nat.one_mul, Nat.add_zero] at p0 p1 p2 p3 p4 p5 p6 p7
  go_wp2_with fail
  refine wp_region_tail 36 (by kernel_rfl) (by kernel_rfl) ?_
  simp only [List.take_succ_cons, List.take_zero, List.drop_succ_cons, List.drop_zero]
  repeat still_step
  refine wpStill_nil ?_
  go_wp2_with fail
  refine Calls.ext (CK.out _ _ ((pts_blk (a := ⟨30, 40, 2, 3⟩) (b := ⟨10, 20, 1, 0⟩) (Blk.new V3 24 #[.int .i64 30, .int .i64 40, .int .u8 2, .int .u8 3, .int .i64 10, .int .i64 20, .int .u8 1, .int .u8 0])).grow (Ext.refl _).drew)) fun z5 => ?_
  go_wp2_with fail
  go_ret
  exact ⟨rfl, ((hE14.trans hF4).alloc _).drew.ext z5⟩
set_option maxRecDepth 100000 in
theorem alignExamples_lifted (os : Os) (started : os.Started) (H : Type) (enc : TypeId × Value → H) :
    ReturnsInHanded {} Try.checked os 7 .any (Rows.alignExamplesSpec.pre6 enc Try.prog Try.f7 Rows.alignExamplesRow.domain false) (Rows.alignExamplesSpec.post enc Try.prog Try.f7 false true false false) := by
  refine returnsInHanded_of_change (C := Try.checked) own started (by kernel_rfl) Try.func7
    (ChangeSpec.witness6 (enc := enc) (C := Try.checked) false ⟨#[], #[], []⟩ 8 (by kernel_rfl) (by kernel_rfl) (by kernel_rfl) (by kernel_rfl)) ?_
  intro W base args ds gs before hval0 hW hcnd _
  have hval : ∀ (j : Nat) t v, Try.f7.params[j]? = some t → args[j]? = some v → Value.okWide Try.prog W .any base t v := hval0
  have hW' := hW
  obtain ⟨p, q, hA0, hV, rfl, hfz, hnd⟩ := hW
  have hA : DataW.TrodAll enc Try.prog W 0 (fun _ => true) true Try.f7.params.toList args.toList ds p := hA0
  rw [Try.params7] at hA hval
  obtain ⟨hargs, rfl, rfl⟩ := trodAll_nil hA
  obtain rfl : args = #[] := by cases args; simp_all
  obtain ⟨rfl, rfl⟩ := trodVars_none hV
  clear hA0 hval0

  refine (alignExamples_walk W).mono fun e W' ⟨he, bel⟩ => ?_
  subst he
  exact ⟨_, rfl, _, _, _, [], _, [], hW', trodAll_mk1 (shut_bool Try.underlying4 _), trodAll_mk0, rfl, Below.frame bel _, fun h => by cases h⟩

theorem alignExamples_holds : Rows.AlignExamplesSaid :=
  OpenClaim.holds_of_wide 7 Try.f7 rfl rfl rfl rfl rfl rfl rfl ⟨rfl, rfl, rfl, rfl, rfl⟩ rfl rfl rfl rfl rfl (by kernel_rfl) Try.func7 (by kernel_rfl)
    (of_decide_eq_true (by kernel_rfl)) (by unfold Func.isWrapper; first | (rw [if_pos (by decide +kernel)]; kernel_rfl) | (rw [if_neg (by decide +kernel)]; exact ⟨rfl, rfl⟩))
    (fun os started H enc _ => alignExamples_lifted os started H enc)
end Go.Proofs.Ythejomcibobieaa
