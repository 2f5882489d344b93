/- Proved: the call of whorllaw03.IrisExamples returns true. No conditions. -/
import Derived.Test.YtcacbolbedhcoaaAlive
import Derived.Test.YtcacbolbedhcoaaArgs
namespace Go.Proofs.Ytcacbolbedhcoaa
open Go.Joins Go.ChangeShapes Go.WideShapes Go.RowKit Go.Deep Go.ChangeAt

theorem ex1 (w : World) : Calls Try.prog 23 #[.agg #[.int .u64 1, .int .u64 3], .int .i64 1] w fun e w' => e = .returned (.tuple #[.agg #[.int .u64 2, .int .u64 6], .int .i64 0]) ∧ Ext w w' :=
  (by kernel_rfl : turnV ⟨1#64, 3#64⟩ 1 = .tuple #[.agg #[.int .u64 2, .int .u64 6], .int .i64 0]) ▸ Turn_any ⟨1#64, 3#64⟩ 1 w
theorem ex2 (w : World) : Calls Try.prog 27 #[.agg #[.int .u64 5, .int .u64 15], .agg #[.int .u64 3, .int .u64 7], .int .i64 1] w fun e w' => e = .returned (.tuple #[.int .i64 0, .int .i64 2, .int .i64 0]) ∧ Ext w w' :=
  (by kernel_rfl : cmpV ⟨5#64, 15#64⟩ ⟨3#64, 7#64⟩ 1 = .tuple #[.int .i64 0, .int .i64 2, .int .i64 0]) ▸ Compare_any ⟨5#64, 15#64⟩ ⟨3#64, 7#64⟩ 1 w
theorem ex3 (w : World) : Calls Try.prog 29 #[.agg #[.int .u64 5, .int .u64 15], .agg #[.int .u64 3, .int .u64 7], .int .i64 7] w fun e w' => e = .returned (.tuple #[.int .i64 0, .int .i64 0, .int .i64 0, .int .i64 6]) ∧ Ext w w' :=
  (by kernel_rfl : distV ⟨5#64, 15#64⟩ ⟨3#64, 7#64⟩ 7 = .tuple #[.int .i64 0, .int .i64 0, .int .i64 0, .int .i64 6]) ▸ Distance_any ⟨5#64, 15#64⟩ ⟨3#64, 7#64⟩ 7 w
theorem ex4 (w : World) : Calls Try.prog 29 #[.agg #[.int .u64 4369, .int .u64 65535], .agg #[.int .u64 8738, .int .u64 65535], .int .i64 0] w fun e w' => e = .returned (.tuple #[.int .i64 8, .int .i64 16, .int .i64 0, .int .i64 0]) ∧ Ext w w' :=
  (by kernel_rfl : distV ⟨4369#64, 65535#64⟩ ⟨8738#64, 65535#64⟩ 0 = .tuple #[.int .i64 8, .int .i64 16, .int .i64 0, .int .i64 0]) ▸ Distance_any ⟨4369#64, 65535#64⟩ ⟨8738#64, 65535#64⟩ 0 w
theorem ex5 (w : World) : Calls Try.prog 31 #[.agg #[.int .u64 4369, .int .u64 65535], .agg #[.int .u64 8738, .int .u64 65535], .int .i64 0, .agg #[.int .i64 1, .int .i64 2]] w fun e w' => e = .returned (.tuple #[.bool true, .int .i64 0]) ∧ Ext w w' :=
  (by kernel_rfl : matchV ⟨4369#64, 65535#64⟩ ⟨8738#64, 65535#64⟩ 0 1 2 = .tuple #[.bool true, .int .i64 0]) ▸ Match_any ⟨4369#64, 65535#64⟩ ⟨8738#64, 65535#64⟩ 0 1 2 w
theorem ex6 (w : World) : Calls Try.prog 31 #[.agg #[.int .u64 4369, .int .u64 65535], .agg #[.int .u64 8738, .int .u64 65535], .int .i64 0, .agg #[.int .i64 49, .int .i64 100]] w fun e w' => e = .returned (.tuple #[.bool false, .int .i64 0]) ∧ Ext w w' :=
  (by kernel_rfl : matchV ⟨4369#64, 65535#64⟩ ⟨8738#64, 65535#64⟩ 0 49 100 = .tuple #[.bool false, .int .i64 0]) ▸ Match_any ⟨4369#64, 65535#64⟩ ⟨8738#64, 65535#64⟩ 0 49 100 w
theorem ex7 (w : World) : Calls Try.prog 44 #[.agg #[.int .u64 2, .int .u64 6], .int .i64 0, .int .u64 2, .int .u64 6] w fun e w' => e = .returned (.bool true) ∧ Ext w w' :=
  (by kernel_rfl : isB ⟨2#64, 6#64⟩ 0 2#64 6#64 = true) ▸ is_any ⟨2#64, 6#64⟩ 0 2#64 6#64 w
def exD : Nat → Int
  | 0 => 4 | 1 => 4 | 2 => 4 | _ => 63
def exK : Nat → Int
  | 0 => 0 | 1 => 1 | 2 => 4 | _ => 63
def exN : Nat → Int
  | 0 => 1 | 1 => 5 | 2 => 16 | _ => 9223372036854775808
theorem ex8v : ∀ j, j < 4 → alikeV (exD j) (exK j) = .tuple #[.int .u64 (exN j), .int .i64 0] := by
  intro j hj
  have h0 : alikeV 4 0 = .tuple #[.int .u64 1, .int .i64 0] := by kernel_rfl
  have h1 : alikeV 4 1 = .tuple #[.int .u64 5, .int .i64 0] := by kernel_rfl
  have h2 : alikeV 4 4 = .tuple #[.int .u64 16, .int .i64 0] := by kernel_rfl
  match j, hj with
  | 0, _ => exact h0
  | 1, _ => exact h1
  | 2, _ => exact h2
  | 3, _ =>
    show alikeV 63 63 = .tuple #[.int .u64 9223372036854775808, .int .i64 0]
    have h : sumN 63 63 = 9223372036854775808 := by
      unfold sumN
      rw [List.take_of_length_le (by rw [row_len 63 (by omega)]; omega), row_sum 63 (by omega)]
    unfold alikeV
    rw [if_pos (by decide)]
    show Value.tuple #[.int .u64 (sumN 63 63 : Nat), .int .i64 0] = _
    rw [h]; rfl
theorem ex9 (w : World) : Calls Try.prog 25 #[.int .i64 64, .int .i64 0] w fun e w' => e = .returned (.tuple #[.int .u64 0, .int .i64 2]) ∧ Ext w w' :=
  (by kernel_rfl : alikeV 64 0 = .tuple #[.int .u64 0, .int .i64 2]) ▸ Alike_any 64 0 w
theorem ex10 (w : World) : Calls Try.prog 33 #[.slice none 0 0, .int .i64 1] w fun e w' => e = .returned (.tuple #[.agg #[.int .u64 0, .int .u64 0], .int .i64 4]) ∧ Ext w w' :=
  (by kernel_rfl : fuseV [] 1 = .tuple #[.agg #[.int .u64 0, .int .u64 0], .int .i64 4]) ▸ Fuse_any none 0 1 [] w (.inl rfl) (by decide)
theorem ex11 (w : World) : Calls Try.prog 43 #[.int .u64 0] w fun e w' => e = .returned (.agg #[.int .u64 0, .int .u64 65535]) ∧ Ext w w' := rowI_any 0#64 w
theorem ex12 (w : World) : Calls Try.prog 35 #[.slice none 0 0, .agg #[.int .u64 0, .int .u64 65535], .int .i64 0] w fun e w' => e = .returned (.tuple #[.int .i64 0, .int .i64 6]) ∧ Ext w w' :=
  (by kernel_rfl : nearV [] ⟨0#64, 65535#64⟩ 0 = .tuple #[.int .i64 0, .int .i64 6]) ▸ Nearest_any none 0 [] ⟨0#64, 65535#64⟩ 0 w (.inl rfl) (by decide)
theorem ex13 (A : Option Addr) (c : Nat) (w : World) (hl : Irs w A [⟨1#64, 0#64⟩]) : Calls Try.prog 35 #[.slice A 1 c, .agg #[.int .u64 0, .int .u64 65535], .int .i64 0] w fun e w' => e = .returned (.tuple #[.int .i64 0, .int .i64 30]) ∧ Ext w w' :=
  (by kernel_rfl : nearV [⟨1#64, 0#64⟩] ⟨0#64, 65535#64⟩ 0 = .tuple #[.int .i64 0, .int .i64 30]) ▸ Nearest_any A c [⟨1#64, 0#64⟩] ⟨0#64, 65535#64⟩ 0 w hl (by simp)

set_option maxRecDepth 100000 in
set_option maxHeartbeats 4000000 in
theorem irisExamples_walk (w : World) : Calls Try.prog 18 #[] w fun e w' => e = .returned (.bool true) ∧ Ext w w' := by
  go_enter Try.func18, Try.ntmps18
  go_wp2_with fail
  refine Calls.ext (ex1 _) fun z1 => ?_
  have HB := Lib.hid (Blk.new (ext w z1) 27 #[.int .u64 2, .int .u64 6])
  have HE := Lib.hid ((Ext.ext_self w z1).alloc (.cells #[.int .u64 2, .int .u64 6] 27))
  go_wp2_with fail
  generalize (ext w z1).alloc (.cells #[.int .u64 2, .int .u64 6] 27) = W at *
  generalize (ext w z1).heap.size = B at *
  refine Calls.ext (ex2 _) fun z2 => ?_
  go_wp2_with fail
  refine Calls.ext (ex3 _) fun z3 => ?_
  go_wp2_with fail
  refine Calls.ext (al3a _) fun z4 => ?_
  go_wp2_with fail
  refine Calls.ext (al3b _) fun z5 => ?_
  go_wp2_with fail
  refine Calls.ext (ex4 _) fun z6 => ?_
  go_wp2_with fail
  refine Calls.ext (al3a _) fun z7 => ?_
  go_wp2_with fail
  refine Calls.ext (al3b _) fun z8 => ?_
  go_wp2_with fail
  refine Calls.ext (ex5 _) fun z9 => ?_
  go_wp2_with fail
  refine Calls.ext (al3a _) fun z10 => ?_
  go_wp2_with fail
  refine Calls.ext (al3b _) fun z11 => ?_
  go_wp2_with fail
  refine Calls.ext (ex6 _) fun z12 => ?_
  have HB2 := Lib.hid (((((((((((HB.out.ext z2).ext z3).ext z4).ext z5).ext z6).ext z7).ext z8).ext z9).ext z10).ext z11).ext z12)
  have HE2 := Lib.hid (((((((((((HE.out.ext z2).ext z3).ext z4).ext z5).ext z6).ext z7).ext z8).ext z9).ext z10).ext z11).ext z12)
  generalize ext (ext (ext (ext (ext (ext (ext (ext (ext (ext (ext W z2) z3) z4) z5) z6) z7) z8) z9) z10) z11) z12 = V at *
  have b0 : V.cell? ⟨B, 0, none⟩ = some (.int .u64 2) := HB2.out.cell 0
  have b1 : V.cell? ⟨B, 1, none⟩ = some (.int .u64 6) := HB2.out.cell 1
  have hbo : Nonempty (Old B V) := Old.mk HB2.out.lt
  go_wp2_with fail
  refine Calls.ext (alive_any _) fun z13 => ?_
  go_wp2_with fail
  refine Calls.ext (ex7 _) fun z14 => ?_
  go_wp2_with fail
  have HV := Lib.hid (Blk.new (ext (ext V z13) z14) 86 #[.int .u64 4, .int .u64 0, .int .u64 1, .int .u64 4, .int .u64 1, .int .u64 5, .int .u64 4, .int .u64 4, .int .u64 16, .int .u64 63, .int .u64 63, .int .u64 9223372036854775808])
  have HVE := Lib.hid (((HE2.out.ext z13).ext z14).alloc (.cells #[.int .u64 4, .int .u64 0, .int .u64 1, .int .u64 4, .int .u64 1, .int .u64 5, .int .u64 4, .int .u64 4, .int .u64 16, .int .u64 63, .int .u64 63, .int .u64 9223372036854775808] 86))
  generalize (ext (ext V z13) z14).alloc (.cells #[.int .u64 4, .int .u64 0, .int .u64 1, .int .u64 4, .int .u64 1, .int .u64 5, .int .u64 4, .int .u64 4, .int .u64 16, .int .u64 63, .int .u64 63, .int .u64 9223372036854775808] 86) = X at *
  generalize (ext (ext V z13) z14).heap.size = Y at *
  clear HE HB HB2 HE2 b0 b1 hbo
  go_loopw [127] (fun i wr => ∃ j : Nat, j ≤ 4 ∧ i = .int .i64 j ∧ Ext X wr) (fun i _ => 4 - (intOf i).toNat)
  case atStart => exact ⟨0, Nat.zero_le _, rfl, Ext.refl _⟩
  case round =>
    obtain ⟨j, hj, rfl, hE⟩ := hrel
    by_cases hlj : j < 4
    · have hcs : (#[Value.int .u64 4, .int .u64 0, .int .u64 1, .int .u64 4, .int .u64 1, .int .u64 5, .int .u64 4, .int .u64 4, .int .u64 16, .int .u64 63, .int .u64 63, .int .u64 9223372036854775808] : Array Value)[j * 3]? = some (.int .u64 (exD j)) ∧ (#[Value.int .u64 4, .int .u64 0, .int .u64 1, .int .u64 4, .int .u64 1, .int .u64 5, .int .u64 4, .int .u64 4, .int .u64 16, .int .u64 63, .int .u64 63, .int .u64 9223372036854775808] : Array Value)[j * 3 + 1]? = some (.int .u64 (exK j)) ∧ (#[Value.int .u64 4, .int .u64 0, .int .u64 1, .int .u64 4, .int .u64 1, .int .u64 5, .int .u64 4, .int .u64 4, .int .u64 16, .int .u64 63, .int .u64 63, .int .u64 9223372036854775808] : Array Value)[j * 3 + 2]? = some (.int .u64 (exN j)) ∧ (0 ≤ exD j ∧ exD j ≤ 63) ∧ (0 ≤ exK j ∧ exK j ≤ 63) := by
        match j, hlj with
        | 0, _ => exact ⟨rfl, rfl, rfl, by decide, by decide⟩
        | 1, _ => exact ⟨rfl, rfl, rfl, by decide, by decide⟩
        | 2, _ => exact ⟨rfl, rfl, rfl, by decide, by decide⟩
        | 3, _ => exact ⟨rfl, rfl, rfl, by decide, by decide⟩
      obtain ⟨q0, q1, q2, q3, q4⟩ := hcs
      have c0 : wr.cell? ⟨Y, j * 3, none⟩ = some (.int .u64 (exD j)) := ((HV.out.grow hE).cell _).trans q0
      have c1 : wr.cell? ⟨Y, j * 3 + 1, none⟩ = some (.int .u64 (exK j)) := ((HV.out.grow hE).cell _).trans q1
      have c2 : wr.cell? ⟨Y, j * 3 + 2, none⟩ = some (.int .u64 (exN j)) := ((HV.out.grow hE).cell _).trans q2
      have hv := ex8v j hlj
      have C := Lib.hid (fun w => hv ▸ Alike_any (exD j) (exK j) w)
      have w1 : IntKind.i64.wrap (exD j) = exD j := IntWalk.i64_in _ (by omega)
      have w2 : IntKind.i64.wrap (exK j) = exK j := IntWalk.i64_in _ (by omega)
      have HEj := Lib.hid hE
      have hyo : Nonempty (Old Y wr) := Old.mk (HV.out.grow hE).lt
      have hlj2 : (j : Int) < 4 := by omega
      clear q0 q1 q2 hv hE
      generalize exD j = d at *
      generalize exK j = k at *
      generalize exN j = n at *
      go_wp2_with fail
      refine Calls.ext (C.out _) fun z => ?_
      go_wp2_with fail
      go_roundw
      case rel => exact ⟨j + 1, by omega, by go_num, (HEj.out.alloc _).ext z⟩
      case measure => simp [intOf]; omega
    · obtain rfl : j = 4 := by omega
      have HEj := Lib.hid hE
      clear hE
      go_wp2_with fail
      refine Calls.ext (ex9 _) fun z15 => ?_
      go_wp2_with fail
      refine Calls.ext (ex10 _) fun z16 => ?_
      go_wp2_with fail
      refine Calls.ext (ex11 _) fun z17 => ?_
      go_wp2_with fail
      refine Calls.ext (ex12 _) fun z18 => ?_
      go_wp2_with fail
      refine Calls.ext (ex11 _) fun z19 => ?_
      go_wp2_with fail
      refine Calls.ext (ex13 _ 1 _ (Irs.one (a := ⟨1#64, 0#64⟩) ((Blk.new (ext (ext (ext (ext wr z15) z16) z17) z18) 27 #[.int .u64 1, .int .u64 0]).ext z19))) fun z20 => ?_
      go_wp2_with fail
      go_ret
      exact ⟨rfl, HVE.out.trans (((((((HEj.out.ext z15).ext z16).ext z17).ext z18).alloc _).ext z19).ext z20)⟩
set_option maxRecDepth 100000 in
theorem irisExamples_lifted (os : Os) (started : os.Started) (H : Type) (enc : TypeId × Value → H) :
    ReturnsInHanded {} Try.checked os 18 .any (Rows.irisExamplesSpec.pre6 enc Try.prog Try.f18 Rows.irisExamplesRow.domain false) (Rows.irisExamplesSpec.post enc Try.prog Try.f18 false true false false) := by
  refine returnsInHanded_of_change (C := Try.checked) own started (by kernel_rfl) Try.func18
    (ChangeSpec.witness6 (enc := enc) (C := Try.checked) false ⟨#[], #[], []⟩ 8 (by kernel_rfl) (by kernel_rfl) (by kernel_rfl) (by kernel_rfl)) ?_
  intro W base args ds gs before hval0 hW hcnd _
  have hval : ∀ (j : Nat) t v, Try.f18.params[j]? = some t → args[j]? = some v → Value.okWide Try.prog W .any base t v := hval0
  have hW' := hW
  obtain ⟨p, q, hA0, hV, rfl, hfz, hnd⟩ := hW
  have hA : DataW.TrodAll enc Try.prog W 0 (fun _ => true) true Try.f18.params.toList args.toList ds p := hA0
  rw [Try.params18] at hA hval
  obtain ⟨hargs, rfl, rfl⟩ := trodAll_nil hA
  obtain rfl : args = #[] := by cases args; simp_all
  obtain ⟨rfl, rfl⟩ := trodVars_none hV
  clear hA0 hval0

  refine (irisExamples_walk W).mono fun e W' ⟨he, bel⟩ => ?_
  subst he
  exact ⟨_, rfl, _, _, _, [], _, [], hW', trodAll_mk1 (shut_bool Try.underlying4 _), trodAll_mk0, rfl, Below.frame bel _, fun h => by cases h⟩

theorem irisExamples_holds : Rows.IrisExamplesSaid :=
  OpenClaim.holds_of_wide 18 Try.f18 rfl rfl rfl rfl rfl rfl rfl ⟨rfl, rfl, rfl, rfl, rfl⟩ rfl rfl rfl rfl rfl (by kernel_rfl) Try.func18 (by kernel_rfl)
    (of_decide_eq_true (by kernel_rfl)) (by unfold Func.isWrapper; first | (rw [if_pos (by decide +kernel)]; kernel_rfl) | (rw [if_neg (by decide +kernel)]; exact ⟨rfl, rfl⟩))
    (fun os started H enc _ => irisExamples_lifted os started H enc)
end Go.Proofs.Ytcacbolbedhcoaa
