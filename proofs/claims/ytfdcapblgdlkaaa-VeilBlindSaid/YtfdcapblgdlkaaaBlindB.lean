/- VeilBlind: the walk where the decision is the same (BlindB). -/
import Derived.Test.YtfdcapblgdlkaaaExplB
import Derived.Test.YtfdcapblgdlkaaaEq2
import Derived.Test.YtfdcapblgdlkaaaFar
import Derived.Test.YtfdcapblgdlkaaaAllo
namespace Go.Proofs.Ytfdcapblgdlkaaa
open Go.RowKit

set_option maxRecDepth 100000 in
set_option maxHeartbeats 16000000 in
theorem blindB_good (d : Dl) (lim : Int) (x y q : BitVec 16) (hd : d.fine) (hl : 0 ≤ lim ∧ lim ≤ 15) (hx : fitB 15 x = true) (hy : fitB 15 y = true) (hq : fitB 15 q = true) (f : Bool) (b1 : decide (farS x y ≤ lim) = f) (b2 : decide (farS x q ≤ lim) = f) (w : World) : Calls Try.prog 15 #[d.val, .int .i64 lim, .int .u16 (uv x), .int .u16 (uv y), .int .u16 (uv q), .bool false] w fun e w' => e = .returned (.bool true) ∧ Ext w w' := by
  have CV := fun w => validDeal_any d hd.ok w
  rw [hd.okB] at CV
  replace CV := Lib.hid CV
  have c0 : decide (lim < 0) = false := by simp; omega
  have c1 : decide (15 < lim) = false := by simp; omega
  have FX := fun w => fits_any 15 (by omega) x w
  have FY := fun w => fits_any 15 (by omega) y w
  have FQ := fun w => fits_any 15 (by omega) q w
  rw [hx] at FX
  rw [hy] at FY
  rw [hq] at FQ
  replace FX := Lib.hid FX
  replace FY := Lib.hid FY
  replace FQ := Lib.hid FQ
  have hc := fine_outB hd lim x y q
  have CX := fun w => explB_any d lim x y q hd hl hx hy hq true (by rw [b1, b2]; simp) w
  have CY := fun w => explB_any (outB d lim x y q) lim x q y hc hl hx hq hy true (by rw [b1, b2]; simp) w
  rw [explV_t] at CX CY
  rw [backB hd lim x y q] at CY
  have CK := fun w => checkDeal_any (outB d lim x y q) w
  rw [show chkD (outB d lim x y q) = 0 by unfold chkD; rw [hc.okB]; rfl] at CK
  have CP := fun w => played_any d lim x y hd hl hx hy w
  have CQ := fun w => played_any (outB d lim x y q) lim x q hc hl hx hq w
  rw [outB_same hd lim x y q (b1.trans b2.symm)] at CQ
  have CF := fun w => Far_any x y w
  have CG := fun w => Far_any x q w
  rw [far_15 hx hy] at CF
  rw [far_15 hx hq] at CG
  have hT := talk_ok (ptyP d) (ptyQ d lim) x y
  have hP := ptyP_ok hd.ok
  have hQ := ptyQ_ok hd.ok lim
  obtain ⟨c, hcc⟩ : ∃ c, c = (outB d lim x y q) := ⟨_, rfl⟩
  rw [← hcc] at CX CY CK CQ
  have s1 : c.a = d.a := by rw [hcc]; rfl
  have s2 : c.rc = d.rc := by rw [hcc]; rfl
  have s3 : c.u = d.u := by rw [hcc]; rfl
  have s4 : c.t = d.t := by rw [hcc]; rfl
  have s5 : ptyP c = ptyP d := by rw [hcc]; rfl
  rw [s5] at CQ
  have HD := Lib.hid hd.ok
  have HT := Lib.hid hT
  have HP := Lib.hid hP
  have HQ := Lib.hid hQ
  replace CX := Lib.hid CX
  replace CY := Lib.hid CY
  replace CK := Lib.hid CK
  replace CP := Lib.hid CP
  replace CQ := Lib.hid CQ
  replace CF := Lib.hid CF
  replace CG := Lib.hid CG
  clear hT hP hQ hcc hc hx hy hq hl hd
  generalize farS x y = f1 at *
  generalize farS x q = f2 at *
  generalize talkOf (ptyP d) (ptyQ d lim) x y = T at *
  cases f
  all_goals
    go_enter Try.func15, Try.ntmps15
    go_wp2_with fail
    refine Calls.ext (alive_any _) fun z0 => ?_
    have HB := Lib.hid ((Blk.new w 42 d.cells).ext z0)
    have HE := Lib.hid (((Ext.refl w).alloc (.cells d.cells 42)).ext z0)
    generalize ext (w.alloc (.cells d.cells 42)) z0 = V0 at *
    go_wp2_with (refine wpList_load_row rfl 42 (.tmp 6) rfl (w.heap.size) rfl 42 d.cells (0, 0) _ HB.out Try.underlying42 rfl (info42 d) ?_)
    refine Calls.ext (CV.out _) fun z1 => ?_
    go_wp2_with fail
    refine Calls.same (FX.out _) ?_
    go_wp2_with fail
    refine Calls.same (FY.out _) ?_
    go_wp2_with fail
    refine Calls.same (FQ.out _) ?_
    go_wp2_with (refine wpList_load_row rfl 42 (.tmp 6) rfl (w.heap.size) rfl 42 d.cells (0, 0) _ (HB.out.ext z1) Try.underlying42 rfl (info42 d) ?_)
    refine Calls.ext (CX.out _) fun z2 => ?_
    go_wp2_with (first | ((with_reducible refine wpList_deal 16 71 c 260 ?_ ?_); exact ⟨rfl, rfl, rfl, rfl, rfl, rfl, rfl, rfl, rfl⟩; intro bn1 V1 hn1 hE1 Nd1; have HB1 := Lib.hid (((HB.out.ext z1).ext z2).grow hE1); have HC1 := Lib.hid (Nd1); have HE1 := Lib.hid (((HE.out.ext z1).ext z2).trans hE1)))
    clear hn1 hE1 Nd1 HB HE
    refine Calls.same (CF.out _) ?_
    go_wp2_with fail
    refine Calls.same (CG.out _) ?_
    go_wp2_with (refine wpList_load_row_g 42 (.tmp 16) rfl rfl (bn1) rfl 42 c.cells (0, 0) _ HC1.out Try.underlying42 rfl (info42 c) ?_)
    refine Calls.ext (CK.out _) fun z3 => ?_
    go_wp2_with (refine wpList_load_row rfl 42 (.tmp 6) rfl (w.heap.size) rfl 42 d.cells (0, 0) _ (HB1.out.ext z3) Try.underlying42 rfl (info42 d) ?_)
    refine Calls.ext (CP.out _) fun z4 => ?_
    have YB := Lib.hid ((HB1.out.ext z3).ext z4)
    have YC := Lib.hid ((HC1.out.ext z3).ext z4)
    have YE := Lib.hid ((HE1.out.ext z3).ext z4)
    clear HB1 HC1 HE1
    generalize ext (ext V1 z3) z4 = X1 at *
    go_wp2_with (first | ((with_reducible refine wpList_talk 18 19 20 102 103 104 (ptyP d) (ptyQ d lim) T 260 ?_ ?_); exact ⟨rfl, rfl, rfl, rfl, rfl, rfl, rfl, rfl, rfl, rfl, rfl, rfl, rfl, rfl, rfl, rfl, rfl, rfl, rfl, rfl, rfl, rfl, rfl⟩; intro bn2 bm2 bk2 V2 hn2 hm2 hk2 hE2 Np2 Nq2 Nt2; have HB2 := Lib.hid (YB.out.grow hE2); have HC2 := Lib.hid (YC.out.grow hE2); have HE2 := Lib.hid (YE.out.trans hE2); have NP := Lib.hid (Np2); have NQ := Lib.hid (Nq2); have NT := Lib.hid (Nt2)) | ((with_reducible refine pre_op (.load 42 (.tmp 16)) ?_); refine wpList_load_row rfl 42 (.tmp 16) rfl (bn1) rfl 42 c.cells (0, 0) _ HC2.out Try.underlying42 rfl (info42 c) ?_))
    clear YB YC YE hn2 hm2 hk2 hE2 Np2 Nq2 Nt2
    refine Calls.ext (CQ.out _) fun z5 => ?_
    have YHB2 := Lib.hid (HB2.out.ext z5)
    have YHC2 := Lib.hid (HC2.out.ext z5)
    have YNP := Lib.hid (NP.out.ext z5)
    have YNQ := Lib.hid (NQ.out.ext z5)
    have YNT := Lib.hid (NT.out.ext z5)
    have YHE2 := Lib.hid (HE2.out.ext z5)
    clear HB2 HC2 NP NQ NT HE2
    generalize ext V2 z5 = X2 at *
    go_wp2_with (first | ((with_reducible refine pre_op (.binOp .neq 26 (.tmp 188) (.tmp 189) 26) ?_); refine wpList_neq_row rfl 26 (.tmp 188) (.tmp 189) rfl  (ptyP d).cells (ptyP d).cells rfl rfl eg26 true EQ.out ?_) | ((with_reducible refine pre_op (.binOp .neq 22 (.tmp 193) (.tmp 195) 22) ?_); refine wpList_neq_row_g 22 (.tmp 193) (.tmp 195) rfl rfl (A15 T.e) (A15 T.e) rfl rfl eg22 true ED.out ?_) | ((with_reducible refine pre_op (.binOp .neq 22 (.tmp 214) (.tmp 216) 22) ?_); refine wpList_neq_row_g 22 (.tmp 214) (.tmp 216) rfl rfl (A15 d.a) (A15 d.a) rfl rfl eg22 true EB.out ?_) | ((with_reducible refine pre_op (.binOp .neq 22 (.tmp 221) (.tmp 223) 22) ?_); refine wpList_neq_row_g 22 (.tmp 221) (.tmp 223) rfl rfl (A15 d.u) (A15 d.u) rfl rfl eg22 true EU.out ?_) | ((with_reducible refine pre_op (.binOp .neq 24 (.tmp 235) (.tmp 237) 24) ?_); refine wpList_neq_row_g 24 (.tmp 235) (.tmp 237) rfl rfl (A31 d.t) (A31 d.t) rfl rfl eg24 true ET.out ?_) | ((with_reducible refine wpList_talk 22 23 24 112 113 114 (ptyP d) (ptyQ c lim) T 260 ?_ ?_); exact ⟨rfl, rfl, rfl, rfl, rfl, rfl, rfl, rfl, rfl, rfl, rfl, rfl, rfl, rfl, rfl, rfl, rfl, rfl, rfl, rfl, rfl, rfl, rfl⟩; intro bn3 bm3 bk3 V3 hn3 hm3 hk3 hE3 Np3 Nq3 Nt3; have HE3 := Lib.hid (YHE2.out.trans hE3); have HB3 := Lib.hid (YHB2.out.grow hE3); have HC3 := Lib.hid (YHC2.out.grow hE3); have MP := Lib.hid (YNP.out.grow hE3); have MQ := Lib.hid (YNQ.out.grow hE3); have MT := Lib.hid (YNT.out.grow hE3); have N1 := Lib.hid (Np3); have N2 := Lib.hid (Nq3); have N3 := Lib.hid (Nt3); have q0 : (V3).cell? ⟨bk2, 30, none⟩ = some (.int .u8 T.c) := (MT.out.cell 30).trans (T.at_x 0); have r0 : (V3).cell? ⟨bk3, 30, none⟩ = some (.int .u8 T.c) := (N3.out.cell 30).trans (T.at_x 0); have q1 : (V3).cell? ⟨bk2, 31, none⟩ = some (.int .u8 T.s) := (MT.out.cell 31).trans (T.at_x 1); have r1 : (V3).cell? ⟨bk3, 31, none⟩ = some (.int .u8 T.s) := (N3.out.cell 31).trans (T.at_x 1); have q2 : (V3).cell? ⟨bk2, 32, none⟩ = some (.bool T.l) := (MT.out.cell 32).trans (T.at_x 2); have r2 : (V3).cell? ⟨bk3, 32, none⟩ = some (.bool T.l) := (N3.out.cell 32).trans (T.at_x 2); have q3 : (V3).cell? ⟨bk2, 33, none⟩ = some (.bool T.r) := (MT.out.cell 33).trans (T.at_x 3); have r3 : (V3).cell? ⟨bk3, 33, none⟩ = some (.bool T.r) := (N3.out.cell 33).trans (T.at_x 3); have q4 : (V3).cell? ⟨bk2, 34, none⟩ = some (.bool T.m) := (MT.out.cell 34).trans (T.at_x 4); have r4 : (V3).cell? ⟨bk3, 34, none⟩ = some (.bool T.m) := (N3.out.cell 34).trans (T.at_x 4); have k1 : (V3).cell? ⟨bn1, 45, none⟩ = some (.int .u8 d.rc) := s2 ▸ cut_rc HC3.out; have k2 : (V3).cell? ⟨w.heap.size, 45, none⟩ = some (.int .u8 d.rc) := cut_rc HB3.out; have EQ := Lib.hid (show ∀ w, (Op.equalIn 10000 26 (.agg (ptyP d).cells) (.agg (ptyP d).cells)).run Try.prog w = .ok true w from eq26 _ HP.out); have ED := Lib.hid (show ∀ w, (Op.equalIn 10000 22 (.agg (A15 T.e)) (.agg (A15 T.e))).run Try.prog w = .ok true w from eq22 _ HT.out.e); have EB := Lib.hid (show ∀ w, (Op.equalIn 10000 22 (.agg (A15 d.a)) (.agg (A15 d.a))).run Try.prog w = .ok true w from eq22 _ HD.out.a); have EU := Lib.hid (show ∀ w, (Op.equalIn 10000 22 (.agg (A15 d.u)) (.agg (A15 d.u))).run Try.prog w = .ok true w from eq22 _ HD.out.u); have ET := Lib.hid (show ∀ w, (Op.equalIn 10000 24 (.agg (A31 d.t)) (.agg (A31 d.t))).run Try.prog w = .ok true w from eq24 _ HD.out.t); have U1 := Lib.hid (show ∀ j, j < 15 → (V3).cell? ⟨bk2, 15 + j, none⟩ = some (u8V T.e j) from fun j hj => (MT.out.cell (15 + j)).trans (T.at_e j hj)); have U2 := Lib.hid (show ∀ j, j < 15 → (V3).cell? ⟨bk3, 15 + j, none⟩ = some (u8V T.e j) from fun j hj => (N3.out.cell (15 + j)).trans (T.at_e j hj)); have U3 := Lib.hid (show ∀ j, j < 15 → (V3).cell? ⟨bn1, 0 + j, none⟩ = some (u8V d.a j) from s1 ▸ cut_a HC3.out); have U4 := Lib.hid (show ∀ j, j < 15 → (V3).cell? ⟨w.heap.size, 0 + j, none⟩ = some (u8V d.a j) from cut_a HB3.out); have U5 := Lib.hid (show ∀ j, j < 15 → (V3).cell? ⟨bn1, 30 + j, none⟩ = some (u8V d.u j) from s3 ▸ cut_u HC3.out); have U6 := Lib.hid (show ∀ j, j < 15 → (V3).cell? ⟨w.heap.size, 30 + j, none⟩ = some (u8V d.u j) from cut_u HB3.out); have U7 := Lib.hid (show ∀ j, j < 31 → (V3).cell? ⟨bn1, 47 + j, none⟩ = some (u32V d.t j) from s4 ▸ cut_t HC3.out); have U8 := Lib.hid (show ∀ j, j < 31 → (V3).cell? ⟨w.heap.size, 47 + j, none⟩ = some (u32V d.t j) from cut_t HB3.out)) | ((with_reducible refine pre_op (.load 26 (.tmp 18)) ?_); refine wpList_load_row rfl 26 (.tmp 18) rfl (bn2) rfl 26 (ptyP d).cells (0, 0) _ MP.out Try.underlying26 rfl (info26 _) ?_) | ((with_reducible refine pre_op (.load 26 (.tmp 22)) ?_); refine wpList_load_row rfl 26 (.tmp 22) rfl (bn3) rfl 26 (ptyP d).cells (0, 0) _ N1.out Try.underlying26 rfl (info26 _) ?_) | ((with_reducible refine pre_op (.load 22 (.tmp 192)) ?_); refine wpList_load_sub_g 22 (.tmp 192) rfl rfl (bk2) 15 rfl 15 (u8V T.e) _ U1.out Try.underlying22 rfl info22 ?_) | ((with_reducible refine pre_op (.load 22 (.tmp 194)) ?_); refine wpList_load_sub_g 22 (.tmp 194) rfl rfl (bk3) 15 rfl 15 (u8V T.e) _ U2.out Try.underlying22 rfl info22 ?_) | ((with_reducible refine pre_op (.load 22 (.tmp 213)) ?_); refine wpList_load_sub_g 22 (.tmp 213) rfl rfl (bn1) 0 rfl 15 (u8V d.a) _ U3.out Try.underlying22 rfl info22 ?_) | ((with_reducible refine pre_op (.load 22 (.tmp 215)) ?_); refine wpList_load_sub_g 22 (.tmp 215) rfl rfl (w.heap.size) 0 rfl 15 (u8V d.a) _ U4.out Try.underlying22 rfl info22 ?_) | ((with_reducible refine pre_op (.load 22 (.tmp 220)) ?_); refine wpList_load_sub_g 22 (.tmp 220) rfl rfl (bn1) 30 rfl 15 (u8V d.u) _ U5.out Try.underlying22 rfl info22 ?_) | ((with_reducible refine pre_op (.load 22 (.tmp 222)) ?_); refine wpList_load_sub_g 22 (.tmp 222) rfl rfl (w.heap.size) 30 rfl 15 (u8V d.u) _ U6.out Try.underlying22 rfl info22 ?_) | ((with_reducible refine pre_op (.load 24 (.tmp 234)) ?_); refine wpList_load_sub_g 24 (.tmp 234) rfl rfl (bn1) 47 rfl 31 (u32V d.t) _ U7.out Try.underlying24 rfl info24 ?_) | ((with_reducible refine pre_op (.load 24 (.tmp 236)) ?_); refine wpList_load_sub_g 24 (.tmp 236) rfl rfl (w.heap.size) 47 rfl 31 (u32V d.t) _ U8.out Try.underlying24 rfl info24 ?_) | ((with_reducible refine pre_op (.load 42 (.tmp 16)) ?_); refine wpList_load_row rfl 42 (.tmp 16) rfl (bn1) rfl 42 c.cells (0, 0) _ HC3.out Try.underlying42 rfl (info42 c) ?_))
    clear q0 q1 q2 q3 q4 r0 r1 r2 r3 r4 k1 k2 MP MQ MT N1 N2 N3 U1 U2 U3 U4 EQ EB YHB2 YHC2 YHE2 YNP YNQ YNT hn3 hm3 hk3 hE3 Np3 Nq3 Nt3 U5 U6 U7 U8 EU ET
    refine Calls.ext (CY.out _) fun z6 => ?_
    have YB := Lib.hid (HB3.out.ext z6)
    have YE := Lib.hid (HE3.out.ext z6)
    clear HB3 HC3 HE3
    generalize ext V3 z6 = X3 at *
    have EE := Lib.hid (show ∀ w, (Op.equalIn 10000 42 (.agg d.cells) (.agg d.cells)).run Try.prog w = .ok true w from eq42 _ HD.out)
    go_wp2_with (first | ((with_reducible refine pre_op (.binOp .eql 42 (.tmp 256) (.tmp 257) 42) ?_); refine wpList_eql_row_g 42 (.tmp 256) (.tmp 257) rfl rfl d.cells d.cells rfl rfl eg42 true EE.out ?_) | ((with_reducible refine wpList_deal 28 248 d 260 ?_ ?_); exact ⟨rfl, rfl, rfl, rfl, rfl, rfl, rfl, rfl, rfl⟩; intro bn4 V4 hn4 hE4 Nd4; have HB4 := Lib.hid (YB.out.grow hE4); have HE4 := Lib.hid (YE.out.trans hE4); have HN4 := Lib.hid (Nd4)) | ((with_reducible refine pre_op (.load 42 (.tmp 28)) ?_); refine wpList_load_row_g 42 (.tmp 28) rfl rfl (bn4) rfl 42 d.cells (0, 0) _ HN4.out Try.underlying42 rfl (info42 d) ?_) | ((with_reducible refine pre_op (.load 42 (.tmp 6)) ?_); refine wpList_load_row_g 42 (.tmp 6) rfl rfl (w.heap.size) rfl 42 d.cells (0, 0) _ HB4.out Try.underlying42 rfl (info42 d) ?_))
    go_ret
    exact ⟨rfl, HE4.out⟩
end Go.Proofs.Ytfdcapblgdlkaaa
