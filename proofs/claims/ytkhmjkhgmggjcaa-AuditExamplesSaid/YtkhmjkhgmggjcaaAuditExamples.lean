/- Proved: the call of whorllaw11.AuditExamples, which has no arguments, returns true. No conditions. -/
import Derived.Test.YtkhmjkhgmggjcaaAlive
import Derived.Test.YtkhmjkhgmggjcaaAuditKept
import Derived.Test.YtkhmjkhgmggjcaaLogs
namespace Go.Proofs.Ytkhmjkhgmggjcaa
open Go.Joins Go.ChangeShapes Go.WideShapes Go.RowKit Go.Deep Go.ChangeAt

abbrev y1s : E := ⟨5, 1, 3, 40, 9, 34, k1⟩
theorem xw1 : writeL [y1, y2] 4 1 3 0 0 = [] ∧ writeI [y1, y2] 4 1 3 = 2 := ⟨by kernel_rfl, by kernel_rfl⟩
theorem xw2 : writeL [y1, y2] 5 8 3 0 0 = [] ∧ writeI [y1, y2] 5 8 3 = 2 := ⟨by kernel_rfl, by kernel_rfl⟩
theorem xw3 : writeL [y1, y2] 5 1 64 0 0 = [] ∧ writeI [y1, y2] 5 1 64 = 2 := ⟨by kernel_rfl, by kernel_rfl⟩
theorem xo1 : openV [y1, y2] 0 = .tuple #[.int .u64 40, .int .i64 0] := by kernel_rfl
theorem xo2 : openV [y1, y2] 2 = .tuple #[.int .u64 0, .int .i64 2] := by kernel_rfl
theorem xo3 : openV [y1e, y2] 0 = .tuple #[.int .u64 0, .int .i64 6] := by kernel_rfl
theorem xa1 : aboutR [y1, y2] 4 = [1] ∧ knownI [y1, y2] 4 = 0 := ⟨by kernel_rfl, by kernel_rfl⟩
theorem xt1 : tipV [y1s, y2] = .tuple #[.int .u64 0, .int .i64 110] := by kernel_rfl
theorem xe1 : extV [y1, y2] 0 0 = .tuple #[.bool true, .int .i64 0] := by kernel_rfl
theorem xe2 : extV [y1, y2] 1 0 = .tuple #[.bool false, .int .i64 0] := by kernel_rfl
theorem xe3 : extV [y1, y2] 3 0 = .tuple #[.bool false, .int .i64 2] := by kernel_rfl
theorem xu1 : unpV 0 = .tuple #[rzero.val, .int .i64 2] := by kernel_rfl
abbrev r3 : R := ⟨1, 0, 0, 0, 0, 20⟩
abbrev r4 : R := ⟨3, 127, 0, 0, 0, -1⟩
theorem xp1 : packV r3 = .tuple #[.int .u64 0, .int .i64 2] := by kernel_rfl
theorem xf1 : follV r4 = .tuple #[.bool true, .int .i64 0] := by kernel_rfl

set_option maxRecDepth 100000 in
set_option maxHeartbeats 8000000 in
theorem auditExamples_walk (w : World) : Calls Try.prog 15 #[] w fun e w' => e = .returned (.bool true) ∧ Ext w w' := by
  have CW1 := Lib.hid (fun A c w hl => xw1.1 ▸ xw1.2 ▸ write_any A c [y1, y2] 4 1 3 0 0 w hl (by decide))
  have CW2 := Lib.hid (fun A c w hl => xw2.1 ▸ xw2.2 ▸ write_any A c [y1, y2] 5 8 3 0 0 w hl (by decide))
  have CW3 := Lib.hid (fun A c w hl => xw3.1 ▸ xw3.2 ▸ write_any A c [y1, y2] 5 1 64 0 0 w hl (by decide))
  have CO1 := Lib.hid (fun A c w hl => xo1 ▸ open_any A c [y1, y2] 0 w hl (by decide))
  have CO2 := Lib.hid (fun A c w hl => xo2 ▸ open_any A c [y1, y2] 2 w hl (by decide))
  have CO3 := Lib.hid (fun A c w hl => xo3 ▸ open_any A c [y1e, y2] 0 w hl (by decide))
  have CE := Lib.hid (fun A c w hl => er2.1 ▸ er2.2.1 ▸ er2.2.2 ▸ erase_any A c [y1, y2] 3 w hl (by decide))
  have CA := Lib.hid (fun A c w hl => xa1.1 ▸ xa1.2 ▸ about_any A c [y1, y2] 4 w hl (by decide))
  have CT := Lib.hid (fun A c w hl => xt1 ▸ tip_any A c [y1s, y2] w hl (by decide))
  have CX1 := Lib.hid (fun A c w hl hc => xe1 ▸ extends_any A c [y1, y2] 0 0 w hl (by decide) hc)
  have CX2 := Lib.hid (fun A c w hl hc => xe2 ▸ extends_any A c [y1, y2] 1 0 w hl (by decide) hc)
  have CX3 := Lib.hid (fun A c w hl hc => xe3 ▸ extends_any A c [y1, y2] 3 0 w hl (by decide) hc)
  have CU := Lib.hid (fun w => xu1 ▸ unpack_any 0 w (by decide) (by decide))
  have CP := Lib.hid (fun w => xp1 ▸ pack_any r3 w)
  have CF := Lib.hid (fun w => xf1 ▸ follows_any r4 w)
  go_enter Try.func15, Try.ntmps15
  go_wp2_with fail
  refine calls_slice (two_any _) fun A1 c1 z1 hown1 => ?_
  have HL1 := Lib.hid (Slc.of_own hown1).log
  have hc1 := cap_own hown1
  clear hown1
  have HEa1 := Lib.hid (Ext.ext_self w z1)
  generalize ext w z1 = Wa1 at *
  go_wp2_with fail
  refine calls_slice2 (CW1.out A1 c1 _ HL1.out) fun B1 d1 u1 ho1 => ?_
  clear ho1
  have HEb1 := Lib.hid (HEa1.out.ext u1)
  generalize ext Wa1 u1 = Wb1 at *
  clear HEa1
  clear HL1 hc1
  go_wp2_with fail
  refine calls_slice (two_any _) fun A2 c2 z2 hown2 => ?_
  have HL2 := Lib.hid (Slc.of_own hown2).log
  have hc2 := cap_own hown2
  clear hown2
  have HEa2 := Lib.hid (HEb1.out.ext z2)
  generalize ext Wb1 z2 = Wa2 at *
  clear HEb1
  go_wp2_with fail
  refine calls_slice2 (CW2.out A2 c2 _ HL2.out) fun B2 d2 u2 ho2 => ?_
  clear ho2
  have HEb2 := Lib.hid (HEa2.out.ext u2)
  generalize ext Wa2 u2 = Wb2 at *
  clear HEa2
  clear HL2 hc2
  go_wp2_with fail
  refine calls_slice (two_any _) fun A3 c3 z3 hown3 => ?_
  have HL3 := Lib.hid (Slc.of_own hown3).log
  have hc3 := cap_own hown3
  clear hown3
  have HEa3 := Lib.hid (HEb2.out.ext z3)
  generalize ext Wb2 z3 = Wa3 at *
  clear HEb2
  go_wp2_with fail
  refine calls_slice2 (CW3.out A3 c3 _ HL3.out) fun B3 d3 u3 ho3 => ?_
  clear ho3
  have HEb3 := Lib.hid (HEa3.out.ext u3)
  generalize ext Wa3 u3 = Wb3 at *
  clear HEa3
  clear HL3 hc3
  go_wp2_with fail
  refine calls_slice (two_any _) fun A4 c4 z4 hown4 => ?_
  have HL4 := Lib.hid (Slc.of_own hown4).log
  have hc4 := cap_own hown4
  clear hown4
  have HEa4 := Lib.hid (HEb3.out.ext z4)
  generalize ext Wb3 z4 = Wa4 at *
  clear HEb3
  go_wp2_with fail
  refine Calls.ext (CO1.out A4 c4 _ HL4.out) fun u4 => ?_
  have HEb4 := Lib.hid (HEa4.out.ext u4)
  generalize ext Wa4 u4 = Wb4 at *
  clear HEa4
  clear HL4 hc4
  go_wp2_with fail
  refine calls_slice (two_any _) fun A5 c5 z5 hown5 => ?_
  have HL5 := Lib.hid (Slc.of_own hown5).log
  have hc5 := cap_own hown5
  clear hown5
  have HEa5 := Lib.hid (HEb4.out.ext z5)
  generalize ext Wb4 z5 = Wa5 at *
  clear HEb4
  go_wp2_with fail
  refine Calls.ext (CO2.out A5 c5 _ HL5.out) fun u5 => ?_
  have HEb5 := Lib.hid (HEa5.out.ext u5)
  generalize ext Wa5 u5 = Wb5 at *
  clear HEa5
  clear HL5 hc5
  go_wp2_with fail
  refine calls_slice (two_any _) fun A6 c6 z6 hown6 => ?_
  have HL6 := Lib.hid (Slc.of_own hown6).log
  have hc6 := cap_own hown6
  clear hown6
  have HEa6 := Lib.hid (HEb5.out.ext z6)
  generalize ext Wb5 z6 = Wa6 at *
  clear HEb5
  go_wp2_with fail
  refine calls_slice3 (CE.out A6 c6 _ HL6.out) fun B6 d6 u6 ho6 => ?_
  have HLe := Lib.hid (Slc.of_own ho6).log
  clear ho6
  have HEb6 := Lib.hid (HEa6.out.ext u6)
  generalize ext Wa6 u6 = Wb6 at *
  clear HEa6
  clear HL6 hc6
  go_wp2_with fail
  refine Calls.ext (CO3.out B6 d6 _ HLe.out) fun ue => ?_
  clear HLe
  have HEe := Lib.hid (HEb6.out.ext ue)
  generalize ext Wb6 ue = We at *
  clear HEb6
  go_wp2_with fail
  refine calls_slice (two_any _) fun A7 c7 z7 hown7 => ?_
  have HL7 := Lib.hid (Slc.of_own hown7).log
  have hc7 := cap_own hown7
  clear hown7
  have HEa7 := Lib.hid (HEe.out.ext z7)
  generalize ext We z7 = Wa7 at *
  clear HEe
  go_wp2_with fail
  refine calls_slice2 (CA.out A7 c7 _ HL7.out) fun B7 d7 u7 ho7 => ?_
  have hs := (Slc.of_own ho7).2 (by decide)
  obtain ⟨ba, oa, rfl, hba, hca⟩ := hs
  have hca0 := hca 0 (.int .i64 1) rfl
  have hbo := Old.mk hba
  rw [Nat.add_zero] at hca0
  clear hca hba
  clear ho7
  have HEb7 := Lib.hid (HEa7.out.ext u7)
  generalize ext Wa7 u7 = Wb7 at *
  clear HEa7
  clear HL7 hc7
  go_wp2_with (go_at_call 40; refine Calls.ext (alive_any _) fun za => ?_)
  have HEza := Lib.hid (HEb7.out.ext za)
  generalize ext Wb7 za = Wza at *
  clear HEb7
  clear hca0 hbo
  refine calls_slice (two_any _) fun A8 c8 z8 hown8 => ?_
  have HL8 := Lib.hid (Slc.of_own hown8).log
  have hc8 := cap_own hown8
  obtain ⟨g, cap, hv, hgw, hgl⟩ := hown8.form (by decide)
  obtain ⟨rfl, -, rfl⟩ : A8 = some ⟨g, 0, none⟩ ∧ 2 = 2 ∧ c8 = cap := by simpa using hv
  have hc5 : (ext Wza z8).cell? ⟨g, 5, none⟩ = some (.int .u64 33) := (hown8.cellAt 5 (by decide)).trans (by rfl)
  have hf5 := hown8.frozenAt
  have HS := Lib.hid (hown8.stored 5 (.int .u64 34)).1
  clear hown8 HL8 hv
  have HGW := Lib.hid hgw
  have hgo := Old.mk hgl
  clear hgw hgl
  go_wp2_with fail
  have HLs := Lib.hid (Slc.of_own (xs := flat [y1s, y2]) HS.out).log
  refine Calls.ext (CT.out _ c8 _ HLs.out) fun us => ?_
  have HEs := Lib.hid (((HEza.out.ext z8).setCell (p := ⟨g, 5, none⟩) (Nat.le_trans HEza.out.size HGW.out) (.int .u64 34)).ext us)
  clear HS HLs HEza HGW hgo hc5 hf5 hc8
  generalize ext ((ext Wza z8).setCell ⟨g, 5, none⟩ (.int .u64 34)) us = Ws at *
  go_wp2_with fail
  refine calls_slice (two_any _) fun A9 c9 z9 hown9 => ?_
  have HL9 := Lib.hid (Slc.of_own hown9).log
  have hc9 := cap_own hown9
  clear hown9
  have HEa9 := Lib.hid (HEs.out.ext z9)
  generalize ext Ws z9 = Wa9 at *
  clear HEs
  go_wp2_with fail
  refine Calls.ext (CX1.out A9 c9 _ HL9.out hc9) fun u9 => ?_
  have HEb9 := Lib.hid (HEa9.out.ext u9)
  generalize ext Wa9 u9 = Wb9 at *
  clear HEa9
  clear HL9 hc9
  go_wp2_with fail
  refine calls_slice (two_any _) fun A10 c10 z10 hown10 => ?_
  have HL10 := Lib.hid (Slc.of_own hown10).log
  have hc10 := cap_own hown10
  clear hown10
  have HEa10 := Lib.hid (HEb9.out.ext z10)
  generalize ext Wb9 z10 = Wa10 at *
  clear HEb9
  go_wp2_with fail
  refine Calls.ext (CX2.out A10 c10 _ HL10.out hc10) fun u10 => ?_
  have HEb10 := Lib.hid (HEa10.out.ext u10)
  generalize ext Wa10 u10 = Wb10 at *
  clear HEa10
  clear HL10 hc10
  go_wp2_with fail
  refine calls_slice (two_any _) fun A11 c11 z11 hown11 => ?_
  have HL11 := Lib.hid (Slc.of_own hown11).log
  have hc11 := cap_own hown11
  clear hown11
  have HEa11 := Lib.hid (HEb10.out.ext z11)
  generalize ext Wb10 z11 = Wa11 at *
  clear HEb10
  go_wp2_with fail
  refine Calls.ext (CX3.out A11 c11 _ HL11.out hc11) fun u11 => ?_
  have HEb11 := Lib.hid (HEa11.out.ext u11)
  generalize ext Wa11 u11 = Wb11 at *
  clear HEa11
  clear HL11 hc11
  go_wp2_with fail
  refine Calls.ext (CU.out _) fun v0 => ?_
  have HEv0 := Lib.hid (HEb11.out.ext v0)
  generalize ext Wb11 v0 = Wv0 at *
  clear HEb11
  go_wp2_with fail
  refine Calls.ext (CP.out _) fun v1 => ?_
  have HEv1 := Lib.hid (HEv0.out.ext v1)
  generalize ext Wv0 v1 = Wv1 at *
  clear HEv0
  go_wp2_with fail
  refine Calls.ext (CF.out _) fun v2 => ?_
  have HEv2 := Lib.hid (HEv1.out.ext v2)
  generalize ext Wv1 v2 = Wv2 at *
  clear HEv1
  go_wp2_with fail
  go_ret
  exact ⟨rfl, HEv2.out⟩

set_option maxRecDepth 100000 in
theorem auditExamples_lifted (os : Os) (started : os.Started) (H : Type) (enc : TypeId × Value → H) :
    ReturnsInHanded {} Try.checked os 15 .any (Rows.auditExamplesSpec.pre6 enc Try.prog Try.f15 Rows.auditExamplesRow.domain false) (Rows.auditExamplesSpec.post enc Try.prog Try.f15 false true false false) := by
  refine returnsInHanded_of_change (C := Try.checked) own started (by kernel_rfl) Try.func15
    (ChangeSpec.witness6 (enc := enc) (C := Try.checked) false ⟨#[], #[], []⟩ 8 (by kernel_rfl) (by kernel_rfl) (by kernel_rfl) (by kernel_rfl)) ?_
  intro W base args ds gs before hval0 hW hcnd _
  have hval : ∀ (j : Nat) t v, Try.f15.params[j]? = some t → args[j]? = some v → Value.okWide Try.prog W .any base t v := hval0
  have hW' := hW
  obtain ⟨p, q, hA0, hV, rfl, hfz, hnd⟩ := hW
  have hA : DataW.TrodAll enc Try.prog W 0 (fun _ => true) true Try.f15.params.toList args.toList ds p := hA0
  rw [Try.params15] at hA hval
  obtain ⟨hargs, rfl, rfl⟩ := trodAll_nil hA
  obtain rfl : args = #[] := by cases args; simp_all
  obtain ⟨rfl, rfl⟩ := trodVars_none hV
  clear hA0 hval0

  refine (auditExamples_walk W).mono fun e W' ⟨he, bel⟩ => ?_
  subst he
  exact ⟨_, rfl, _, _, _, [], _, [], hW', trodAll_mk1 (shut_bool Try.underlying4 _), trodAll_mk0, rfl, Below.frame bel _, fun h => by cases h⟩

theorem auditExamples_holds : Rows.AuditExamplesSaid :=
  OpenClaim.holds_of_wide 15 Try.f15 rfl rfl rfl rfl rfl rfl rfl ⟨rfl, rfl, rfl, rfl, rfl⟩ rfl rfl rfl rfl rfl (by kernel_rfl) Try.func15 (by kernel_rfl)
    (of_decide_eq_true (by kernel_rfl)) (by unfold Func.isWrapper; first | (rw [if_pos (by decide +kernel)]; kernel_rfl) | (rw [if_neg (by decide +kernel)]; exact ⟨rfl, rfl⟩))
    (fun os started H enc _ => auditExamples_lifted os started H enc)
end Go.Proofs.Ytkhmjkhgmggjcaa
