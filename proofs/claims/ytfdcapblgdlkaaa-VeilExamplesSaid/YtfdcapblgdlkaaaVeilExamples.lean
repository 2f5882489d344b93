/- Proved: the call of whorllaw06.VeilExamples returns true. No conditions. -/
import Derived.Test.YtfdcapblgdlkaaaExplB
import Derived.Test.YtfdcapblgdlkaaaArgs
namespace Go.Proofs.Ytfdcapblgdlkaaa
open Go.Joins Go.ChangeShapes Go.WideShapes Go.RowKit Go.Deep Go.ChangeAt

theorem ex1 (w : World) : Calls Try.prog 49 #[.int .i64 0, .int .u16 0] w fun e w' => e = .returned (.agg #[.int .i64 3, .int .i64 0, .int .u16 0]) ∧ Ext w w' := three_any 0 0#16 w
theorem ex2 (w : World) : Calls Try.prog 49 #[.int .i64 5, .int .u16 0] w fun e w' => e = .returned (.agg #[.int .i64 3, .int .i64 5, .int .u16 0]) ∧ Ext w w' := three_any 5 0#16 w
theorem ex3 (w : World) : Calls Try.prog 49 #[.int .i64 6, .int .u16 0] w fun e w' => e = .returned (.agg #[.int .i64 3, .int .i64 6, .int .u16 0]) ∧ Ext w w' := three_any 6 0#16 w
theorem ex4 (w : World) : Calls Try.prog 49 #[.int .i64 0, .int .u16 8] w fun e w' => e = .returned (.agg #[.int .i64 3, .int .i64 0, .int .u16 8]) ∧ Ext w w' := three_any 0 8#16 w
theorem ex5 (w : World) : Calls Try.prog 27 #[.agg #[.int .i64 3, .int .i64 0, .int .u16 0]] w fun e w' => ∃ g c, e = .returned (.tuple #[.slice (some ⟨g, 0, none⟩) (3 : Nat) c, .int .i64 0]) ∧ Lst 3 w' g c (intsV [0, 1, 2]) ∧ Ext w w' :=
  (by decide : ordN 3 0 = [0, 1, 2]) ▸ Order_ok 3 0 0#16 (by omega) (by decide) (by decide) w
theorem ex6 (w : World) : Calls Try.prog 27 #[.agg #[.int .i64 3, .int .i64 5, .int .u16 0]] w fun e w' => ∃ g c, e = .returned (.tuple #[.slice (some ⟨g, 0, none⟩) (3 : Nat) c, .int .i64 0]) ∧ Lst 3 w' g c (intsV [2, 1, 0]) ∧ Ext w w' :=
  (by decide : ordN 3 5 = [2, 1, 0]) ▸ Order_ok 3 5 0#16 (by omega) (by decide) (by decide) w
theorem ex7 (w : World) : Calls Try.prog 32 #[.agg #[.int .i64 3, .int .i64 5, .int .u16 1], .int .u16 1] w fun e w' => e = .returned (.tuple #[.int .u16 5, .int .i64 0]) ∧ Ext w w' :=
  (by kernel_rfl : Value.tuple #[.int .u16 (uv (hideX ⟨3, 5, 1#16⟩ 1#16)), .int .i64 (askV ⟨3, 5, 1#16⟩ 1#16)] = .tuple #[.int .u16 5, .int .i64 0]) ▸ Hide_any ⟨3, 5, 1#16⟩ 1#16 w
theorem ex8 (w : World) : Calls Try.prog 34 #[.agg #[.int .i64 3, .int .i64 5, .int .u16 1], .int .u16 5] w fun e w' => e = .returned (.tuple #[.int .u16 1, .int .i64 0]) ∧ Ext w w' :=
  (by kernel_rfl : Value.tuple #[.int .u16 (uv (showX ⟨3, 5, 1#16⟩ 5#16)), .int .i64 (askV ⟨3, 5, 1#16⟩ 5#16)] = .tuple #[.int .u16 1, .int .i64 0]) ▸ Show_any ⟨3, 5, 1#16⟩ 5#16 w
theorem ex9 (w : World) : Calls Try.prog 32 #[.agg #[.int .i64 3, .int .i64 5, .int .u16 1], .int .u16 8] w fun e w' => e = .returned (.tuple #[.int .u16 0, .int .i64 2]) ∧ Ext w w' :=
  (by kernel_rfl : Value.tuple #[.int .u16 (uv (hideX ⟨3, 5, 1#16⟩ 8#16)), .int .i64 (askV ⟨3, 5, 1#16⟩ 8#16)] = .tuple #[.int .u16 0, .int .i64 2]) ▸ Hide_any ⟨3, 5, 1#16⟩ 8#16 w
theorem ex10 (w : World) : Calls Try.prog 19 #[.int .i64 6, .int .u16 0, .int .u16 0] w fun e w' => e = .returned (.tuple #[.int .i64 0, .int .i64 2]) ∧ Ext w w' :=
  (by kernel_rfl : viewsV 6 0#16 0#16 = .tuple #[.int .i64 0, .int .i64 2]) ▸ Views_any 6 0#16 0#16 w
theorem ex11 (w : World) : Calls Try.prog 36 #[.agg #[.int .i64 3, .int .i64 5, .int .u16 1], .agg #[.int .i64 2, .int .i64 0, .int .u16 0]] w fun e w' => e = .returned (.tuple #[.agg #[.int .i64 0, .int .i64 0, .int .u16 0], .int .i64 2]) ∧ Ext w w' :=
  (by kernel_rfl : Value.tuple #[(compX ⟨3, 5, 1#16⟩ ⟨2, 0, 0#16⟩).val, .int .i64 (bothV ⟨3, 5, 1#16⟩ ⟨2, 0, 0#16⟩)] = .tuple #[.agg #[.int .i64 0, .int .i64 0, .int .u16 0], .int .i64 2]) ▸ Compose_any ⟨3, 5, 1#16⟩ ⟨2, 0, 0#16⟩ w
def d31 : Dl := ⟨fun _ => 0, fun _ => 0, fun _ => 0, 31, 0, fun _ => 0⟩
theorem d31_ok : d31.ok := ⟨fun _ _ => ⟨Int.le_refl 0, (by decide : (0 : Int) < 256)⟩, fun _ _ => ⟨Int.le_refl 0, (by decide : (0 : Int) < 256)⟩, fun _ _ => ⟨Int.le_refl 0, (by decide : (0 : Int) < 256)⟩, ⟨by decide, by decide⟩, ⟨by decide, by decide⟩, fun _ _ => ⟨Int.le_refl 0, (by decide : (0 : Int) < 4294967296)⟩⟩
theorem d31_okB : d31.okB = false := by decide
theorem build42e (w : World) : (Instr.build 42 ([(3, .int .u8 31)] : List (Nat × Value)).toArray).run Try.prog w = .ok (.agg d31.cells) w := by kernel_rfl
theorem ex12 (w : World) : Calls Try.prog 21 #[.agg d31.cells, .int .i64 1] w fun e w' => e = .returned (.tuple #[.agg Z62, .agg Z62, .int .i64 60]) ∧ Ext w w' := by
  obtain ⟨h1, h2, h3⟩ := par_60 (lim := 1) d31_okB
  have := Parties_any d31 1 d31_ok w
  rw [h1, h2, h3] at this
  exact this
theorem ex13 (w : World) : Calls Try.prog 25 #[.agg d00.cells, .int .i64 1, .int .u16 3, .int .u16 1, .int .u16 30000, .bool false] w fun e w' => e = .returned (.tuple #[.agg Z78, .int .i64 2]) ∧ Ext w w' :=
  explB_any d00 1 3#16 1#16 30000#16 (fine_of d00_ok d00_okB) (by omega) (by decide) (by decide) (by decide) false (by decide) w
theorem ex14 (w : World) : Calls Try.prog 30 #[.agg #[.int .i64 3, .int .i64 6, .int .u16 0]] w fun e w' => e = .returned (.int .i64 60) ∧ Ext w w' :=
  (by kernel_rfl : chkK ⟨3, 6, 0#16⟩ = 60) ▸ check_any ⟨3, 6, 0#16⟩ w
theorem ex15 (w : World) : Calls Try.prog 30 #[.agg #[.int .i64 3, .int .i64 0, .int .u16 8]] w fun e w' => e = .returned (.int .i64 60) ∧ Ext w w' :=
  (by kernel_rfl : chkK ⟨3, 0, 8#16⟩ = 60) ▸ check_any ⟨3, 0, 8#16⟩ w
set_option maxRecDepth 100000 in
set_option maxHeartbeats 8000000 in
theorem veilExamples_walk (w : World) : Calls Try.prog 16 #[] w fun e w' => e = .returned (.bool true) ∧ Ext w w' := by
  go_enter Try.func16, Try.ntmps16
  go_wp2_with fail
  refine Calls.ext (ex1 _) fun z1 => ?_
  go_wp2_with fail
  refine (ex5 _).mono ?_
  rintro e w' ⟨g1, c1, rfl, hL, hE⟩
  obtain ⟨z2, rfl⟩ := ext_ex hE
  clear hE
  have HL1 := Lib.hid hL
  have HE1 := Lib.hid ((Ext.ext_self w z1).ext z2)
  clear hL
  generalize ext (ext w z1) z2 = V1 at *
  go_wp2_with fail
  refine Calls.ext (ex2 _) fun z3 => ?_
  go_wp2_with fail
  refine (ex6 _).mono ?_
  rintro e w' ⟨g2, c2, rfl, hL, hE⟩
  obtain ⟨z4, rfl⟩ := ext_ex hE
  clear hE
  have HL2 := Lib.hid hL
  have HM1 := Lib.hid (HL1.out.grow ((Ext.ext_self V1 z3).ext z4))
  have HE2 := Lib.hid ((HE1.out.ext z3).ext z4)
  clear hL HL1 HE1
  generalize ext (ext V1 z3) z4 = Y2 at *
  go_wp2_with fail
  refine Calls.ext (al2 _) fun z5 => ?_
  go_wp2_with fail
  refine Calls.ext (ex7 _) fun z6 => ?_
  go_wp2_with fail
  refine Calls.ext (al2 _) fun z7 => ?_
  go_wp2_with fail
  refine Calls.ext (ex8 _) fun z8 => ?_
  go_wp2_with fail
  refine Calls.ext (ex10 _) fun z9 => ?_
  go_wp2_with fail
  refine Calls.ext (al2 _) fun z10 => ?_
  go_wp2_with fail
  refine Calls.ext (ex9 _) fun z11 => ?_
  go_wp2_with fail
  refine Calls.ext (al2 _) fun z12 => ?_
  go_wp2_with fail
  refine Calls.ext (ex11 _) fun z13 => ?_
  have EA := Lib.hid (((((((((Ext.ext_self Y2 z5).ext z6).ext z7).ext z8).ext z9).ext z10).ext z11).ext z12).ext z13)
  generalize ext (ext (ext (ext (ext (ext (ext (ext (ext Y2 z5) z6) z7) z8) z9) z10) z11) z12) z13 = V3 at *
  go_wp2_with (refine wpList_build_row rfl 42 [(3, .const (.int .u8 31))] rfl [(3, .int .u8 31)] rfl d31.cells build42e ?_)
  refine Calls.ext (ex12 _) fun z14 => ?_
  have EB := Lib.hid ((EA.out.alloc (.cells #[.int .i64 0, .int .i64 0, .int .u16 0] 55)).ext z14)
  generalize ext (V3.alloc (.cells #[.int .i64 0, .int .i64 0, .int .u16 0] 55)) z14 = V4 at *
  have sz := EB.out.size
  have P1 := Lib.hid ((Blk.new V4 26 Z62).alloc (.cells Z62 26))
  have P2 := Lib.hid ((Blk.new' (V4.alloc (.cells Z62 26)) 26 Z62 (V4.heap.size + 1) (by simp)).rowFar (k := V4.heap.size) (by omega) Z62)
  have EC := Lib.hid ((((EB.out.alloc (.cells Z62 26)).alloc (.cells Z62 26)).row (g := V4.heap.size) (by omega) Z62).row (g := V4.heap.size + 1) (by omega) Z62)
  go_wp2_with (first | (refine wpList_build_row rfl 42 [] rfl [] rfl d00.cells build42z ?_) | (refine wpList_store_row rfl 26 (.tmp 15) (.tmp 58) rfl V4.heap.size rfl 26 Z62 Z62 rfl P1.out info26z rfl z62_one ?_) | (refine wpList_store_row rfl 26 (.tmp 16) (.tmp 59) rfl (V4.heap.size + 1) rfl 26 Z62 Z62 rfl P2.out info26z rfl z62_one ?_))
  change Calls _ _ _ ((((V4.alloc (.cells Z62 26)).alloc (.cells Z62 26)).setRow V4.heap.size Z62).setRow (V4.heap.size + 1) Z62) _
  generalize (((V4.alloc (.cells Z62 26)).alloc (.cells Z62 26)).setRow V4.heap.size Z62).setRow (V4.heap.size + 1) Z62 = V5 at *
  refine Calls.ext (ex13 _) fun z15 => ?_
  have sz2 := (EC.out.ext z15).size
  have S18 := Lib.hid (Blk.new (ext V5 z15) 42 Z78)
  have ED := Lib.hid (((EC.out.ext z15).alloc (.cells Z78 42)).row (g := (ext V5 z15).heap.size) (by omega) Z78)
  go_wp2_with (refine wpList_store_row rfl 42 (.tmp 18) (.tmp 64) rfl (ext V5 z15).heap.size rfl 42 Z78 Z78 rfl S18.out info42z rfl z78_one ?_)
  change Calls _ _ _ (((ext V5 z15).alloc (.cells Z78 42)).setRow (ext V5 z15).heap.size Z78) _
  generalize ((ext V5 z15).alloc (.cells Z78 42)).setRow (ext V5 z15).heap.size Z78 = V6 at *
  clear P1 P2 EA EB EC S18 sz sz2
  have Q := Lib.hid (Ext.trans HE2.out ED.out)
  have M1 := Lib.hid (HM1.out.grow ED.out)
  have M2 := Lib.hid (HL2.out.grow ED.out)
  clear HE2 ED HM1 HL2
  refine Calls.ext (alive_any _) fun z16 => ?_
  go_wp2_with fail
  have S1 := Lib.hid (same_any [0, 1, 2] [0, 1, 2] (by simp) (some ⟨g1, 0, none⟩) (some ⟨(ext V6 z16).heap.size, 0, none⟩) c1 3 ((ext V6 z16).alloc (.cells #[.int .i64 0, .int .i64 1, .int .i64 2] 3)) (fun _ => ⟨g1, rfl, M1.out.grow ((Ext.ext_self V6 z16).alloc _)⟩) (fun _ => ⟨_, rfl, ⟨_, Blk.new _ _ _, by simp [intsV], by decide, fun j _ => by rw [List.getElem?_toArray]; rfl⟩⟩))
  refine Calls.ext S1.out fun z17 => ?_
  have M3 := Lib.hid (M2.out.grow (((Ext.ext_self V6 z16).alloc (.cells #[.int .i64 0, .int .i64 1, .int .i64 2] 3)).ext z17))
  have Q3 := Lib.hid (((Q.out.ext z16).alloc (.cells #[.int .i64 0, .int .i64 1, .int .i64 2] 3)).ext z17)
  clear M1 M2 S1 Q
  generalize ext ((ext V6 z16).alloc (.cells #[.int .i64 0, .int .i64 1, .int .i64 2] 3)) z17 = V7 at *
  go_wp2_with fail
  have S2 := Lib.hid (same_any [2, 1, 0] [2, 1, 0] (by simp) (some ⟨g2, 0, none⟩) (some ⟨V7.heap.size, 0, none⟩) c2 3 (V7.alloc (.cells #[.int .i64 2, .int .i64 1, .int .i64 0] 3)) (fun _ => ⟨g2, rfl, M3.out.grow ((Ext.refl V7).alloc _)⟩) (fun _ => ⟨_, rfl, ⟨_, Blk.new _ _ _, by simp [intsV], by decide, fun j _ => by rw [List.getElem?_toArray]; rfl⟩⟩))
  refine Calls.ext S2.out fun z18 => ?_
  go_wp2_with fail
  refine Calls.ext (ex3 _) fun z19 => ?_
  go_wp2_with fail
  refine Calls.ext (ex14 _) fun z20 => ?_
  go_wp2_with fail
  refine Calls.ext (ex4 _) fun z21 => ?_
  go_wp2_with fail
  refine Calls.ext (ex15 _) fun z22 => ?_
  go_wp2_with fail
  go_ret
  exact ⟨rfl, (((((Q3.out.alloc _).ext z18).ext z19).ext z20).ext z21).ext z22⟩
set_option maxRecDepth 100000 in
theorem veilExamples_lifted (os : Os) (started : os.Started) (H : Type) (enc : TypeId × Value → H) :
    ReturnsInHanded {} Try.checked os 16 .any (Rows.veilExamplesSpec.pre6 enc Try.prog Try.f16 Rows.veilExamplesRow.domain false) (Rows.veilExamplesSpec.post enc Try.prog Try.f16 false true false false) := by
  refine returnsInHanded_of_change (C := Try.checked) own started (by kernel_rfl) Try.func16
    (ChangeSpec.witness6 (enc := enc) (C := Try.checked) false ⟨#[], #[], []⟩ 8 (by kernel_rfl) (by kernel_rfl) (by kernel_rfl) (by kernel_rfl)) ?_
  intro W base args ds gs before hval0 hW hcnd _
  have hval : ∀ (j : Nat) t v, Try.f16.params[j]? = some t → args[j]? = some v → Value.okWide Try.prog W .any base t v := hval0
  have hW' := hW
  obtain ⟨p, q, hA0, hV, rfl, hfz, hnd⟩ := hW
  have hA : DataW.TrodAll enc Try.prog W 0 (fun _ => true) true Try.f16.params.toList args.toList ds p := hA0
  rw [Try.params16] at hA hval
  obtain ⟨hargs, rfl, rfl⟩ := trodAll_nil hA
  obtain rfl : args = #[] := by cases args; simp_all
  obtain ⟨rfl, rfl⟩ := trodVars_none hV
  clear hA0 hval0

  refine (veilExamples_walk W).mono fun e W' ⟨he, bel⟩ => ?_
  subst he
  exact ⟨_, rfl, _, _, _, [], _, [], hW', trodAll_mk1 (shut_bool Try.underlying4 _), trodAll_mk0, rfl, Below.frame bel _, fun h => by cases h⟩

theorem veilExamples_holds : Rows.VeilExamplesSaid :=
  OpenClaim.holds_of_wide 16 Try.f16 rfl rfl rfl rfl rfl rfl rfl ⟨rfl, rfl, rfl, rfl, rfl⟩ rfl rfl rfl rfl rfl (by kernel_rfl) Try.func16 (by kernel_rfl)
    (of_decide_eq_true (by kernel_rfl)) (by unfold Func.isWrapper; first | (rw [if_pos (by decide +kernel)]; kernel_rfl) | (rw [if_neg (by decide +kernel)]; exact ⟨rfl, rfl⟩))
    (fun os started H enc _ => veilExamples_lifted os started H enc)
end Go.Proofs.Ytfdcapblgdlkaaa
