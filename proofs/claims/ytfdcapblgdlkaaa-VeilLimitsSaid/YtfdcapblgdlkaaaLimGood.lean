/- VeilLimits: the walk where all guards pass. -/
import Derived.Test.YtfdcapblgdlkaaaPlayed
import Derived.Test.YtfdcapblgdlkaaaFar
import Derived.Test.YtfdcapblgdlkaaaArgs3
import Derived.Test.YtfdcapblgdlkaaaAllo
import Derived.Test.YtfdcapblgdlkaaaKeyLaw2
namespace Go.Proofs.Ytfdcapblgdlkaaa
open Go.Joins Go.ChangeShapes Go.WideShapes Go.RowKit Go.Deep Go.ChangeAt

theorem key_cells {w : World} {g : Nat} {k : K} (h : Blk w g 55 #[.int .i64 k.bits, .int .i64 k.perm, .int .u16 (uv k.pad)]) : w.cell? ⟨g, 0, none⟩ = some (.int .i64 k.bits) ∧ w.cell? ⟨g, 1, none⟩ = some (.int .i64 k.perm) ∧ w.cell? ⟨g, 2, none⟩ = some (.int .u16 (uv k.pad)) :=
  ⟨by rw [h.cell]; rfl, by rw [h.cell]; rfl, by rw [h.cell]; rfl⟩
theorem far_comm (x y : BitVec 16) : farS x y = farS y x := by unfold farS; rw [BitVec.xor_comm]
set_option maxRecDepth 100000 in
set_option maxHeartbeats 20000000 in
theorem veilLimits_good (d c : Dl) (lim more : Int) (x y : BitVec 16) (k : K) (hd : d.ok) (hc : c.ok) (hk : d.okB = true) (hk2 : c.okB = true) (h0 : ¬ lim < 0) (h1 : ¬ more < lim) (h2 : ¬ 15 < more) (hx : fitB 15 x = true) (hy : fitB 15 y = true) (w : World) : Calls Try.prog 12 #[d.val, c.val, .int .i64 lim, .int .i64 more, .int .u16 (uv x), .int .u16 (uv y), k.val] w fun e w' => e = .returned (.bool true) ∧ Ext w w' := by
  have CV := fun w => validDeal_any d hd w
  have CW := fun w => validDeal_any c hc w
  rw [hk] at CV
  rw [hk2] at CW
  replace CV := Lib.hid CV
  replace CW := Lib.hid CW
  have b0 : decide (lim < 0) = false := by simpa using h0
  have b1 : decide (more < lim) = false := by simpa using h1
  have b2 : decide (15 < more) = false := by simpa using h2
  have FX := fun w => fits_any 15 (by omega) x w
  have FY := fun w => fits_any 15 (by omega) y w
  rw [hx] at FX
  rw [hy] at FY
  replace FX := Lib.hid FX
  replace FY := Lib.hid FY
  have hf := fine_of hd hk
  have hg := fine_of hc hk2
  have CP := Lib.hid (fun w => played_any d lim x y hf (by omega) hx hy w)
  have CQ := Lib.hid (fun w => played_any c more x y hg (by omega) hx hy w)
  have CR := Lib.hid (fun w => played_any c lim y x hg (by omega) hy hx w)
  have m1 := match_law d hd lim x y
  have m2 := match_law c hc more x y
  have m3 := match_law c hc lim y x
  rw [far_comm y x] at m3
  have CS := Lib.hid (fun (p q : BitVec 16) (hp : fitB 15 p = true) (hq : fitB 15 q = true) w => played_any d lim p q hf (by omega) hp hq w)
  have M4 := Lib.hid (fun p q => match_law d hd lim p q)
  have HX := Lib.hid hx
  have HY := Lib.hid hy
  clear hx hy hf hg hd hc hk hk2
  obtain ⟨fl, hfl⟩ : ∃ fl : Bool, fl = decide (farS x y ≤ lim) := ⟨_, rfl⟩
  obtain ⟨fm, hfm⟩ : ∃ fm : Bool, fm = decide (farS x y ≤ more) := ⟨_, rfl⟩
  have himp : fl = true → fm = true := by
    intro e
    rw [hfl, decide_eq_true_eq] at e
    rw [hfm, decide_eq_true_eq]
    omega
  rw [← hfl] at m1 m3
  rw [← hfm] at m2
  have HFL := Lib.hid hfl
  clear hfl hfm h1
  generalize hT : talkOf (ptyP d) (ptyQ d lim) x y = T at *
  generalize talkOf (ptyP c) (ptyQ c more) x y = U at *
  generalize talkOf (ptyP c) (ptyQ c lim) y x = S at *
  have T1 : T.cells[34]? = some (.bool fl) := by have h6 := T.at_x 4; rw [← m1]; exact h6
  have T2 : U.cells[34]? = some (.bool fm) := by have h6 := U.at_x 4; rw [← m2]; exact h6
  have T3 : S.cells[34]? = some (.bool fl) := by have h6 := S.at_x 4; rw [← m3]; exact h6
  clear m1 m2 m3 hT
  go_enter Try.func12, Try.ntmps12
  go_wp2_with fail
  refine Calls.ext (alive_any _) fun z0 => ?_
  have HB := Lib.hid ((((Blk.new w 42 d.cells).alloc (.cells c.cells 42)).alloc (.cells #[.int .i64 k.bits, .int .i64 k.perm, .int .u16 (uv k.pad)] 55)).ext z0)
  have HC := Lib.hid (((Blk.new' (w.alloc (.cells d.cells 42)) 42 c.cells (w.heap.size + 1) (by simp)).alloc (.cells #[.int .i64 k.bits, .int .i64 k.perm, .int .u16 (uv k.pad)] 55)).ext z0)
  have HK := Lib.hid ((Blk.new' ((w.alloc (.cells d.cells 42)).alloc (.cells c.cells 42)) 55 #[.int .i64 k.bits, .int .i64 k.perm, .int .u16 (uv k.pad)] (w.heap.size + 1 + 1) (by simp)).ext z0)
  have HE := Lib.hid (((((Ext.refl w).alloc (.cells d.cells 42)).alloc (.cells c.cells 42)).alloc (.cells #[.int .i64 k.bits, .int .i64 k.perm, .int .u16 (uv k.pad)] 55)).ext z0)
  generalize ext (((w.alloc (.cells d.cells 42)).alloc (.cells c.cells 42)).alloc (.cells #[.int .i64 k.bits, .int .i64 k.perm, .int .u16 (uv k.pad)] 55)) z0 = V0 at *
  go_wp2_with (refine wpList_load_row rfl 42 (.tmp 7) rfl (w.heap.size) rfl 42 d.cells (0, 0) _ HB.out Try.underlying42 rfl (info42 d) ?_)
  refine Calls.ext (CV.out _) fun z1 => ?_
  go_wp2_with (refine wpList_load_row_g 42 (.tmp 8) rfl (by kernel_rfl) (w.heap.size + 1) rfl 42 c.cells (0, 0) _ (HC.out.ext z1) Try.underlying42 rfl (info42 c) ?_)
  refine Calls.ext (CW.out _) fun z2 => ?_
  go_wp2_with fail
  refine Calls.same (FX.out _) ?_
  go_wp2_with fail
  refine Calls.same (FY.out _) ?_
  go_wp2_with (refine wpList_load_row rfl 42 (.tmp 7) rfl (w.heap.size) rfl 42 d.cells (0, 0) _ ((HB.out.ext z1).ext z2) Try.underlying42 rfl (info42 d) ?_)
  refine Calls.ext (CP.out _) fun z3 => ?_
  have YB := Lib.hid (((HB.out.ext z1).ext z2).ext z3)
  have YC := Lib.hid (((HC.out.ext z1).ext z2).ext z3)
  have YK := Lib.hid (((HK.out.ext z1).ext z2).ext z3)
  have YE := Lib.hid (((HE.out.ext z1).ext z2).ext z3)
  generalize ext (ext (ext V0 z1) z2) z3 = X1 at *
  clear HB HC HK HE
  go_wp2_with (first | (with_reducible refine wpList_talk 16 17 18 75 76 77 (ptyP d) (ptyQ d lim) T 175 ?_ ?_; exact ⟨rfl, rfl, rfl, rfl, rfl, rfl, rfl, rfl, rfl, rfl, rfl, rfl, rfl, rfl, rfl, rfl, rfl, rfl, rfl, rfl, rfl, rfl, rfl⟩; intro bn1 bm1 bk1 V1 hn1 hm1 hk1 hE1 Np1 Nq1 Nt1; have HB1 := Lib.hid (YB.out.grow hE1); have HC1 := Lib.hid (YC.out.grow hE1); have HK1 := Lib.hid (YK.out.grow hE1); have HE1 := Lib.hid (YE.out.trans hE1); have HT1 := Lib.hid (Nt1)) | (refine wpList_load_row rfl 42 (.tmp 8) rfl (w.heap.size + 1) rfl 42 c.cells (0, 0) _ HC1.out Try.underlying42 rfl (info42 _) ?_))
  clear YB YC YK YE hn1 hm1 hk1 hE1 Np1 Nq1 Nt1
  refine Calls.ext (CQ.out _) fun z4 => ?_
  have YB := Lib.hid (HB1.out.ext z4)
  have YC := Lib.hid (HC1.out.ext z4)
  have YK := Lib.hid (HK1.out.ext z4)
  have YE := Lib.hid (HE1.out.ext z4)
  have YT := Lib.hid (HT1.out.ext z4)
  generalize ext V1 z4 = X2 at *
  clear HB1 HC1 HK1 HE1 HT1
  go_wp2_with (first | (with_reducible refine wpList_talk 20 21 22 85 86 87 (ptyP c) (ptyQ c more) U 175 ?_ ?_; exact ⟨rfl, rfl, rfl, rfl, rfl, rfl, rfl, rfl, rfl, rfl, rfl, rfl, rfl, rfl, rfl, rfl, rfl, rfl, rfl, rfl, rfl, rfl, rfl⟩; intro bn2 bm2 bk2 V2 hn2 hm2 hk2 hE2 Np2 Nq2 Nt2; have HB2 := Lib.hid (YB.out.grow hE2); have HC2 := Lib.hid (YC.out.grow hE2); have HK2 := Lib.hid (YK.out.grow hE2); have HE2 := Lib.hid (YE.out.trans hE2); have HT2 := Lib.hid (YT.out.grow hE2); have HU2 := Lib.hid (Nt2)) | (refine wpList_load_row rfl 42 (.tmp 8) rfl (w.heap.size + 1) rfl 42 c.cells (0, 0) _ HC2.out Try.underlying42 rfl (info42 _) ?_))
  clear YB YC YK YE YT hn2 hm2 hk2 hE2 Np2 Nq2 Nt2
  refine Calls.ext (CR.out _) fun z5 => ?_
  have YB := Lib.hid (HB2.out.ext z5)
  have YK := Lib.hid (HK2.out.ext z5)
  have YE := Lib.hid (HE2.out.ext z5)
  have YT := Lib.hid (HT2.out.ext z5)
  have YU := Lib.hid (HU2.out.ext z5)
  generalize ext V2 z5 = X3 at *
  clear HB2 HC2 HK2 HE2 HT2 HU2 CP CQ CR CV CW FX FY
  have CK := Lib.hid (fun w => refValid_any k w)
  cases fl <;> cases fm <;> first | (exfalso; have e := himp rfl; cases e; done) | skip
  all_goals
    go_wp2_with ((with_reducible refine wpList_talk 24 25 26 95 96 97 (ptyP c) (ptyQ c lim) S 175 ?_ ?_; exact ⟨rfl, rfl, rfl, rfl, rfl, rfl, rfl, rfl, rfl, rfl, rfl, rfl, rfl, rfl, rfl, rfl, rfl, rfl, rfl, rfl, rfl, rfl, rfl⟩; intro bn3 bm3 bk3 V3 hn3 hm3 hk3 hE3 Np3 Nq3 Nt3; have HB3 := Lib.hid (YB.out.grow hE3); have HE3 := Lib.hid (YE.out.trans hE3); have HT3 := Lib.hid (YT.out.grow hE3); have q1 := ((YT.out.grow hE3).cell 34).trans T1; have q2 := ((YU.out.grow hE3).cell 34).trans T2; have q3 := (Nt3.cell 34).trans T3; obtain ⟨kc0, kc1, kc2⟩ := key_cells (YK.out.grow hE3); have ok1 := Old.mk (YK.out.grow hE3).lt; have oA := Old.mk (YT.out.grow hE3).lt))
    clear YB YK YE YT YU hn3 hm3 hk3 hE3 Np3 Nq3 Nt3
    refine Calls.ext (CK.out _) fun y1 => ?_
    cases hkk : okK k
    · go_wp2_with fail
      go_ret
      exact ⟨rfl, HE3.out.ext y1⟩
    by_cases hb : k.bits = 15
    rotate_left
    · have b3 : (k.bits == 15) = false ∧ (k.bits != 15) = true ∧ decide (k.bits = 15) = false := (by simp [hb])
      obtain ⟨b3, b4, b5⟩ := b3
      go_wp2_with fail
      go_ret
      exact ⟨rfl, HE3.out.ext y1⟩
    have hn : k.n = 15 := by unfold K.n; rw [hb]; rfl
    have f1 := hide_law hkk (x := x) (by rw [hn]; exact HX.out)
    have f2 := hide_law hkk (x := y) (by rw [hn]; exact HY.out)
    have g1 : fitB 15 (hideX k x) = true := by rw [← hn]; exact f1.2.2
    have g2 : fitB 15 (hideX k y) = true := by rw [← hn]; exact f2.2.2
    have hfar : farS (hideX k x) (hideX k y) = farS x y := by
      rw [← far_15 g1 g2, far_hide hkk (by rw [hn]; exact HX.out) (by rw [hn]; exact HY.out), far_15 HX.out HY.out]
    have CH1 := fun w => Hide_any k x w
    have CH2 := fun w => Hide_any k y w
    rw [f1.1] at CH1
    rw [f2.1] at CH2
    have CT := Lib.hid (fun w => CS.out (hideX k x) (hideX k y) g1 g2 w)
    have m4 := M4.out (hideX k x) (hideX k y)
    rw [hfar, ← HFL.out] at m4
    replace CH1 := Lib.hid CH1
    replace CH2 := Lib.hid CH2
    have b3 : (k.bits == 15) = true ∧ (k.bits != 15) = false ∧ decide (k.bits = 15) = true := (by simp [hb])
    obtain ⟨b3, b4, b5⟩ := b3
    clear CS M4 HX HY HFL hn f1 f2 g1 g2 hfar hb
    generalize talkOf (ptyP d) (ptyQ d lim) (hideX k x) (hideX k y) = R at *
    generalize hideX k x = px at *
    generalize hideX k y = py at *
    have T4 := R.at_x 4
    replace T4 := T4.trans (congrArg (fun b => some (Value.bool b)) m4)
    clear m4
    go_wp2_with fail
    refine Calls.ext (CH1.out _) fun y2 => ?_
    go_wp2_with fail
    refine Calls.ext (CH2.out _) fun y3 => ?_
    go_wp2_with (refine wpList_load_row rfl 42 (.tmp 7) rfl (w.heap.size) rfl 42 d.cells (0, 0) _ (((HB3.out.ext y1).ext y2).ext y3) Try.underlying42 rfl (info42 _) ?_)
    refine Calls.ext (CT.out _) fun y4 => ?_
    have YE := Lib.hid ((((HE3.out.ext y1).ext y2).ext y3).ext y4)
    have YT := Lib.hid ((((HT3.out.ext y1).ext y2).ext y3).ext y4)
    generalize ext (ext (ext (ext V3 y1) y2) y3) y4 = X4 at *
    clear HB3 HE3 HT3 CH1 CH2 CT CK q1 q2 q3 kc0 kc1 kc2 ok1 oA
    go_wp2_with (with_reducible refine wpList_talk 32 33 34 152 153 154 (ptyP d) (ptyQ d lim) R 175 ?_ ?_; exact ⟨rfl, rfl, rfl, rfl, rfl, rfl, rfl, rfl, rfl, rfl, rfl, rfl, rfl, rfl, rfl, rfl, rfl, rfl, rfl, rfl, rfl, rfl, rfl⟩; intro bn4 bm4 bk4 V4 hn4 hm4 hk4 hE4 Np4 Nq4 Nt4; have HE4 := Lib.hid (YE.out.trans hE4); have r1 := ((YT.out.grow hE4).cell 34).trans T1; have r4 := (Nt4.cell 34).trans T4)
    all_goals
      go_ret
      exact ⟨rfl, HE4.out⟩
end Go.Proofs.Ytfdcapblgdlkaaa
/- VeilLimits: the branches where a guard refuses. -/
namespace Go.Proofs.Ytfdcapblgdlkaaa
open Go.Joins Go.ChangeShapes Go.WideShapes Go.RowKit Go.Deep Go.ChangeAt

set_option maxRecDepth 100000 in
set_option maxHeartbeats 20000000 in
theorem veilLimits_bad (d c : Dl) (lim more : Int) (x y : BitVec 16) (k : K) (hd : d.ok) (hc : c.ok) (hbad : ¬ (d.okB = true ∧ c.okB = true ∧ 0 ≤ lim ∧ lim ≤ more ∧ more ≤ 15 ∧ fitB 15 x = true ∧ fitB 15 y = true)) (w : World) : Calls Try.prog 12 #[d.val, c.val, .int .i64 lim, .int .i64 more, .int .u16 (uv x), .int .u16 (uv y), k.val] w fun e w' => e = .returned (.bool true) ∧ Ext w w' := by
  have CV := fun w => validDeal_any d hd w
  have CW := fun w => validDeal_any c hc w
  cases hk : d.okB
  · rw [hk] at CV
    have CV := Lib.hid CV
    clear hk hd hc CW hbad
    go_enter Try.func12, Try.ntmps12
    go_wp2_with fail
    refine Calls.ext (alive_any _) fun z0 => ?_
    have HB := Lib.hid ((((Blk.new w 42 d.cells).alloc (.cells c.cells 42)).alloc (.cells #[.int .i64 k.bits, .int .i64 k.perm, .int .u16 (uv k.pad)] 55)).ext z0)
    have HC := Lib.hid (((Blk.new' (w.alloc (.cells d.cells 42)) 42 c.cells (w.heap.size + 1) (by simp)).alloc (.cells #[.int .i64 k.bits, .int .i64 k.perm, .int .u16 (uv k.pad)] 55)).ext z0)
    have HK := Lib.hid ((Blk.new' ((w.alloc (.cells d.cells 42)).alloc (.cells c.cells 42)) 55 #[.int .i64 k.bits, .int .i64 k.perm, .int .u16 (uv k.pad)] (w.heap.size + 1 + 1) (by simp)).ext z0)
    have HE := Lib.hid (((((Ext.refl w).alloc (.cells d.cells 42)).alloc (.cells c.cells 42)).alloc (.cells #[.int .i64 k.bits, .int .i64 k.perm, .int .u16 (uv k.pad)] 55)).ext z0)
    generalize ext (((w.alloc (.cells d.cells 42)).alloc (.cells c.cells 42)).alloc (.cells #[.int .i64 k.bits, .int .i64 k.perm, .int .u16 (uv k.pad)] 55)) z0 = V0 at *
    go_wp2_with (refine wpList_load_row rfl 42 (.tmp 7) rfl (w.heap.size) rfl 42 d.cells (0, 0) _ HB.out Try.underlying42 rfl (info42 d) ?_)
    refine Calls.ext (CV.out _) fun z1 => ?_
    go_wp2_with fail
    go_ret
    exact ⟨rfl, HE.out.ext z1⟩
  rw [hk] at CV
  have CV := Lib.hid CV
  cases hk2 : c.okB
  · rw [hk2] at CW
    have CW := Lib.hid CW
    clear hbad hk hk2 hd hc
    go_enter Try.func12, Try.ntmps12
    go_wp2_with fail
    refine Calls.ext (alive_any _) fun z0 => ?_
    have HB := Lib.hid ((((Blk.new w 42 d.cells).alloc (.cells c.cells 42)).alloc (.cells #[.int .i64 k.bits, .int .i64 k.perm, .int .u16 (uv k.pad)] 55)).ext z0)
    have HC := Lib.hid (((Blk.new' (w.alloc (.cells d.cells 42)) 42 c.cells (w.heap.size + 1) (by simp)).alloc (.cells #[.int .i64 k.bits, .int .i64 k.perm, .int .u16 (uv k.pad)] 55)).ext z0)
    have HK := Lib.hid ((Blk.new' ((w.alloc (.cells d.cells 42)).alloc (.cells c.cells 42)) 55 #[.int .i64 k.bits, .int .i64 k.perm, .int .u16 (uv k.pad)] (w.heap.size + 1 + 1) (by simp)).ext z0)
    have HE := Lib.hid (((((Ext.refl w).alloc (.cells d.cells 42)).alloc (.cells c.cells 42)).alloc (.cells #[.int .i64 k.bits, .int .i64 k.perm, .int .u16 (uv k.pad)] 55)).ext z0)
    generalize ext (((w.alloc (.cells d.cells 42)).alloc (.cells c.cells 42)).alloc (.cells #[.int .i64 k.bits, .int .i64 k.perm, .int .u16 (uv k.pad)] 55)) z0 = V0 at *
    go_wp2_with (refine wpList_load_row rfl 42 (.tmp 7) rfl (w.heap.size) rfl 42 d.cells (0, 0) _ HB.out Try.underlying42 rfl (info42 d) ?_)
    refine Calls.ext (CV.out _) fun z1 => ?_
    go_wp2_with (refine wpList_load_row_g 42 (.tmp 8) rfl (by kernel_rfl) (w.heap.size + 1) rfl 42 c.cells (0, 0) _ (HC.out.ext z1) Try.underlying42 rfl (info42 c) ?_)
    refine Calls.ext (CW.out _) fun z2 => ?_
    go_wp2_with fail
    go_ret
    exact ⟨rfl, (HE.out.ext z1).ext z2⟩
  rw [hk2] at CW
  have CW := Lib.hid CW
  by_cases h0 : lim < 0
  · have b0 : decide (lim < 0) = true := by simpa using h0
    clear hbad hk hk2 hd hc
    go_enter Try.func12, Try.ntmps12
    go_wp2_with fail
    refine Calls.ext (alive_any _) fun z0 => ?_
    have HB := Lib.hid ((((Blk.new w 42 d.cells).alloc (.cells c.cells 42)).alloc (.cells #[.int .i64 k.bits, .int .i64 k.perm, .int .u16 (uv k.pad)] 55)).ext z0)
    have HC := Lib.hid (((Blk.new' (w.alloc (.cells d.cells 42)) 42 c.cells (w.heap.size + 1) (by simp)).alloc (.cells #[.int .i64 k.bits, .int .i64 k.perm, .int .u16 (uv k.pad)] 55)).ext z0)
    have HK := Lib.hid ((Blk.new' ((w.alloc (.cells d.cells 42)).alloc (.cells c.cells 42)) 55 #[.int .i64 k.bits, .int .i64 k.perm, .int .u16 (uv k.pad)] (w.heap.size + 1 + 1) (by simp)).ext z0)
    have HE := Lib.hid (((((Ext.refl w).alloc (.cells d.cells 42)).alloc (.cells c.cells 42)).alloc (.cells #[.int .i64 k.bits, .int .i64 k.perm, .int .u16 (uv k.pad)] 55)).ext z0)
    generalize ext (((w.alloc (.cells d.cells 42)).alloc (.cells c.cells 42)).alloc (.cells #[.int .i64 k.bits, .int .i64 k.perm, .int .u16 (uv k.pad)] 55)) z0 = V0 at *
    go_wp2_with (refine wpList_load_row rfl 42 (.tmp 7) rfl (w.heap.size) rfl 42 d.cells (0, 0) _ HB.out Try.underlying42 rfl (info42 d) ?_)
    refine Calls.ext (CV.out _) fun z1 => ?_
    go_wp2_with (refine wpList_load_row_g 42 (.tmp 8) rfl (by kernel_rfl) (w.heap.size + 1) rfl 42 c.cells (0, 0) _ (HC.out.ext z1) Try.underlying42 rfl (info42 c) ?_)
    refine Calls.ext (CW.out _) fun z2 => ?_
    go_wp2_with fail
    go_ret
    exact ⟨rfl, (HE.out.ext z1).ext z2⟩
  have b0 : decide (lim < 0) = false := by simpa using h0
  by_cases h1 : more < lim
  · have b1 : decide (more < lim) = true := by simpa using h1
    clear hbad hk hk2 hd hc
    go_enter Try.func12, Try.ntmps12
    go_wp2_with fail
    refine Calls.ext (alive_any _) fun z0 => ?_
    have HB := Lib.hid ((((Blk.new w 42 d.cells).alloc (.cells c.cells 42)).alloc (.cells #[.int .i64 k.bits, .int .i64 k.perm, .int .u16 (uv k.pad)] 55)).ext z0)
    have HC := Lib.hid (((Blk.new' (w.alloc (.cells d.cells 42)) 42 c.cells (w.heap.size + 1) (by simp)).alloc (.cells #[.int .i64 k.bits, .int .i64 k.perm, .int .u16 (uv k.pad)] 55)).ext z0)
    have HK := Lib.hid ((Blk.new' ((w.alloc (.cells d.cells 42)).alloc (.cells c.cells 42)) 55 #[.int .i64 k.bits, .int .i64 k.perm, .int .u16 (uv k.pad)] (w.heap.size + 1 + 1) (by simp)).ext z0)
    have HE := Lib.hid (((((Ext.refl w).alloc (.cells d.cells 42)).alloc (.cells c.cells 42)).alloc (.cells #[.int .i64 k.bits, .int .i64 k.perm, .int .u16 (uv k.pad)] 55)).ext z0)
    generalize ext (((w.alloc (.cells d.cells 42)).alloc (.cells c.cells 42)).alloc (.cells #[.int .i64 k.bits, .int .i64 k.perm, .int .u16 (uv k.pad)] 55)) z0 = V0 at *
    go_wp2_with (refine wpList_load_row rfl 42 (.tmp 7) rfl (w.heap.size) rfl 42 d.cells (0, 0) _ HB.out Try.underlying42 rfl (info42 d) ?_)
    refine Calls.ext (CV.out _) fun z1 => ?_
    go_wp2_with (refine wpList_load_row_g 42 (.tmp 8) rfl (by kernel_rfl) (w.heap.size + 1) rfl 42 c.cells (0, 0) _ (HC.out.ext z1) Try.underlying42 rfl (info42 c) ?_)
    refine Calls.ext (CW.out _) fun z2 => ?_
    go_wp2_with fail
    go_ret
    exact ⟨rfl, (HE.out.ext z1).ext z2⟩
  have b1 : decide (more < lim) = false := by simpa using h1
  by_cases h2 : 15 < more
  · have b2 : decide (15 < more) = true := by simpa using h2
    clear hbad hk hk2 hd hc
    go_enter Try.func12, Try.ntmps12
    go_wp2_with fail
    refine Calls.ext (alive_any _) fun z0 => ?_
    have HB := Lib.hid ((((Blk.new w 42 d.cells).alloc (.cells c.cells 42)).alloc (.cells #[.int .i64 k.bits, .int .i64 k.perm, .int .u16 (uv k.pad)] 55)).ext z0)
    have HC := Lib.hid (((Blk.new' (w.alloc (.cells d.cells 42)) 42 c.cells (w.heap.size + 1) (by simp)).alloc (.cells #[.int .i64 k.bits, .int .i64 k.perm, .int .u16 (uv k.pad)] 55)).ext z0)
    have HK := Lib.hid ((Blk.new' ((w.alloc (.cells d.cells 42)).alloc (.cells c.cells 42)) 55 #[.int .i64 k.bits, .int .i64 k.perm, .int .u16 (uv k.pad)] (w.heap.size + 1 + 1) (by simp)).ext z0)
    have HE := Lib.hid (((((Ext.refl w).alloc (.cells d.cells 42)).alloc (.cells c.cells 42)).alloc (.cells #[.int .i64 k.bits, .int .i64 k.perm, .int .u16 (uv k.pad)] 55)).ext z0)
    generalize ext (((w.alloc (.cells d.cells 42)).alloc (.cells c.cells 42)).alloc (.cells #[.int .i64 k.bits, .int .i64 k.perm, .int .u16 (uv k.pad)] 55)) z0 = V0 at *
    go_wp2_with (refine wpList_load_row rfl 42 (.tmp 7) rfl (w.heap.size) rfl 42 d.cells (0, 0) _ HB.out Try.underlying42 rfl (info42 d) ?_)
    refine Calls.ext (CV.out _) fun z1 => ?_
    go_wp2_with (refine wpList_load_row_g 42 (.tmp 8) rfl (by kernel_rfl) (w.heap.size + 1) rfl 42 c.cells (0, 0) _ (HC.out.ext z1) Try.underlying42 rfl (info42 c) ?_)
    refine Calls.ext (CW.out _) fun z2 => ?_
    go_wp2_with fail
    go_ret
    exact ⟨rfl, (HE.out.ext z1).ext z2⟩
  have b2 : decide (15 < more) = false := by simpa using h2
  have FX := fun w => fits_any 15 (by omega) x w
  have FY := fun w => fits_any 15 (by omega) y w
  cases hx : fitB 15 x
  · rw [hx] at FX
    have FX := Lib.hid FX
    clear hbad hk hk2 hd hc FY hx
    go_enter Try.func12, Try.ntmps12
    go_wp2_with fail
    refine Calls.ext (alive_any _) fun z0 => ?_
    have HB := Lib.hid ((((Blk.new w 42 d.cells).alloc (.cells c.cells 42)).alloc (.cells #[.int .i64 k.bits, .int .i64 k.perm, .int .u16 (uv k.pad)] 55)).ext z0)
    have HC := Lib.hid (((Blk.new' (w.alloc (.cells d.cells 42)) 42 c.cells (w.heap.size + 1) (by simp)).alloc (.cells #[.int .i64 k.bits, .int .i64 k.perm, .int .u16 (uv k.pad)] 55)).ext z0)
    have HK := Lib.hid ((Blk.new' ((w.alloc (.cells d.cells 42)).alloc (.cells c.cells 42)) 55 #[.int .i64 k.bits, .int .i64 k.perm, .int .u16 (uv k.pad)] (w.heap.size + 1 + 1) (by simp)).ext z0)
    have HE := Lib.hid (((((Ext.refl w).alloc (.cells d.cells 42)).alloc (.cells c.cells 42)).alloc (.cells #[.int .i64 k.bits, .int .i64 k.perm, .int .u16 (uv k.pad)] 55)).ext z0)
    generalize ext (((w.alloc (.cells d.cells 42)).alloc (.cells c.cells 42)).alloc (.cells #[.int .i64 k.bits, .int .i64 k.perm, .int .u16 (uv k.pad)] 55)) z0 = V0 at *
    go_wp2_with (refine wpList_load_row rfl 42 (.tmp 7) rfl (w.heap.size) rfl 42 d.cells (0, 0) _ HB.out Try.underlying42 rfl (info42 d) ?_)
    refine Calls.ext (CV.out _) fun z1 => ?_
    go_wp2_with (refine wpList_load_row_g 42 (.tmp 8) rfl (by kernel_rfl) (w.heap.size + 1) rfl 42 c.cells (0, 0) _ (HC.out.ext z1) Try.underlying42 rfl (info42 c) ?_)
    refine Calls.ext (CW.out _) fun z2 => ?_
    go_wp2_with fail
    refine Calls.same (FX.out _) ?_
    go_wp2_with fail
    go_ret
    exact ⟨rfl, (HE.out.ext z1).ext z2⟩
  rw [hx] at FX
  have FX := Lib.hid FX
  cases hy : fitB 15 y
  · rw [hy] at FY
    have FY := Lib.hid FY
    clear hbad hk hk2 hd hc hx hy
    go_enter Try.func12, Try.ntmps12
    go_wp2_with fail
    refine Calls.ext (alive_any _) fun z0 => ?_
    have HB := Lib.hid ((((Blk.new w 42 d.cells).alloc (.cells c.cells 42)).alloc (.cells #[.int .i64 k.bits, .int .i64 k.perm, .int .u16 (uv k.pad)] 55)).ext z0)
    have HC := Lib.hid (((Blk.new' (w.alloc (.cells d.cells 42)) 42 c.cells (w.heap.size + 1) (by simp)).alloc (.cells #[.int .i64 k.bits, .int .i64 k.perm, .int .u16 (uv k.pad)] 55)).ext z0)
    have HK := Lib.hid ((Blk.new' ((w.alloc (.cells d.cells 42)).alloc (.cells c.cells 42)) 55 #[.int .i64 k.bits, .int .i64 k.perm, .int .u16 (uv k.pad)] (w.heap.size + 1 + 1) (by simp)).ext z0)
    have HE := Lib.hid (((((Ext.refl w).alloc (.cells d.cells 42)).alloc (.cells c.cells 42)).alloc (.cells #[.int .i64 k.bits, .int .i64 k.perm, .int .u16 (uv k.pad)] 55)).ext z0)
    generalize ext (((w.alloc (.cells d.cells 42)).alloc (.cells c.cells 42)).alloc (.cells #[.int .i64 k.bits, .int .i64 k.perm, .int .u16 (uv k.pad)] 55)) z0 = V0 at *
    go_wp2_with (refine wpList_load_row rfl 42 (.tmp 7) rfl (w.heap.size) rfl 42 d.cells (0, 0) _ HB.out Try.underlying42 rfl (info42 d) ?_)
    refine Calls.ext (CV.out _) fun z1 => ?_
    go_wp2_with (refine wpList_load_row_g 42 (.tmp 8) rfl (by kernel_rfl) (w.heap.size + 1) rfl 42 c.cells (0, 0) _ (HC.out.ext z1) Try.underlying42 rfl (info42 c) ?_)
    refine Calls.ext (CW.out _) fun z2 => ?_
    go_wp2_with fail
    refine Calls.same (FX.out _) ?_
    go_wp2_with fail
    refine Calls.same (FY.out _) ?_
    go_wp2_with fail
    go_ret
    exact ⟨rfl, (HE.out.ext z1).ext z2⟩
  rw [hy] at FY
  have FY := Lib.hid FY
  exact absurd ⟨hk, hk2, by omega, by omega, by omega, hx, hy⟩ hbad
end Go.Proofs.Ytfdcapblgdlkaaa
