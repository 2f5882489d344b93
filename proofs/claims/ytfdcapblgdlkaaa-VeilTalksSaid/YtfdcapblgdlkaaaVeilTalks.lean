/- Proved: for all deals, limits and words, the call of whorllaw06.VeilTalks returns true and leaves its arguments as they were. No conditions. -/
import Derived.Test.YtfdcapblgdlkaaaTalks
import Derived.Test.YtfdcapblgdlkaaaRelN
import Derived.Test.YtfdcapblgdlkaaaArgs3
namespace Go.Proofs.Ytfdcapblgdlkaaa
open Go.Joins Go.ChangeShapes Go.WideShapes Go.RowKit Go.Deep Go.ChangeAt
set_option maxRecDepth 100000 in
set_option maxHeartbeats 8000000 in
theorem veilTalks_walk (d : Dl) (lim : Int) (x y q : BitVec 16) (sec : Bool) (hd : d.ok) (w : World) : Calls Try.prog 5 #[d.val, .int .i64 lim, .int .u16 (uv x), .int .u16 (uv y), .int .u16 (uv q), .bool sec] w fun e w' => e = .returned (.bool true) ∧ Ext w w' := by
  have A1 := fun w => Parties_any d lim hd w
  have A2 := fun w => refParties_any d lim hd w
  obtain ⟨pp, pq, hpp, hpq, ep, eq_⟩ := par_pty d lim hd
  rw [ep, eq_] at A1 A2
  generalize parErr d lim = er at *
  have B1 := Lib.hid (fun w => checkDeal_any d w)
  have B2 := Lib.hid (fun w => refCheckDeal_any d hd w)
  have C1 := fun w => Play_any pp pq x y hpp hpq w
  have C2 := fun w => refPlay_any pp pq x y hpp hpq w
  obtain ⟨t, ht, hc⟩ := play_tlk pp pq x y
  rw [hc] at C1 C2
  generalize talkErr pp pq x y = tn at *
  obtain ⟨dd, en, hdd, D1, D2⟩ := expl_both d lim x y q sec hd
  have QT := Lib.hid (fun w => eq29 t ht w)
  have QP := Lib.hid (fun w => eq26 pp hpp w)
  have QQ := Lib.hid (fun w => eq26 pq hpq w)
  have QD := Lib.hid (fun w => eq42 dd hdd w)
  replace A1 := Lib.hid A1
  replace A2 := Lib.hid A2
  replace C1 := Lib.hid C1
  replace C2 := Lib.hid C2
  replace D1 := Lib.hid D1
  replace D2 := Lib.hid D2
  have b1 : (er != er) = false := by simp
  have b2 : (tn != tn) = false := by simp
  have b3 : (en == en) = true := by simp
  have b4 : (chkD d != chkD d) = false := by simp
  generalize chkD d = ck at *
  clear ep eq_ hc ht hdd hpp hpq hd
  go_enter Try.func5, Try.ntmps5
  go_wp2_with (refine wpList_load_row rfl 42 (.tmp 6) rfl (w.heap.size) rfl 42 d.cells (0, 0) _ (Blk.new w 42 d.cells) Try.underlying42 rfl (info42 d) ?_)
  change Calls _ _ _ (w.alloc (.cells d.cells 42)) _
  refine Calls.ext (A1.out _) fun z1 => ?_
  have H6 := Lib.hid ((Blk.new w 42 d.cells).ext z1)
  have HE := Lib.hid (((Ext.refl w).alloc (.cells d.cells 42)).ext z1)
  generalize ext (w.alloc (.cells d.cells 42)) z1 = V0 at *
  have lt6 := H6.out.lt
  have P1 := Lib.hid ((Blk.new V0 26 Z62).alloc (.cells Z62 26))
  have P2 := Lib.hid ((Blk.new' (V0.alloc (.cells Z62 26)) 26 Z62 (V0.heap.size + 1) (by simp)).rowFar (k := V0.heap.size) (by omega) pp.cells)
  have K6 := Lib.hid (((((H6.out).alloc (.cells Z62 26)).alloc (.cells Z62 26)).rowFar (k := V0.heap.size) (by omega) pp.cells).rowFar (k := V0.heap.size + 1) (by omega) pq.cells)
  have ltE := HE.out.size
  have KE := Lib.hid (((((HE.out).alloc (.cells Z62 26)).alloc (.cells Z62 26)).row (g := V0.heap.size) (by omega) pp.cells).row (g := V0.heap.size + 1) (by omega) pq.cells)
  have K13 := Lib.hid ((P1.out.row pp.cells).rowFar (k := V0.heap.size + 1) (by omega) pq.cells)
  have K14 := Lib.hid (P2.out.row pq.cells)
  go_wp2_with (first | ((with_reducible refine pre_op (.store 26 (.tmp 13) (.tmp 27)) ?_); refine wpList_store_row rfl 26 (.tmp 13) (.tmp 27) rfl (V0.heap.size) rfl 26 Z62 pp.cells rfl P1.out (info26 _) (z62_size _) pty_one ?_) | ((with_reducible refine pre_op (.store 26 (.tmp 14) (.tmp 28)) ?_); refine wpList_store_row rfl 26 (.tmp 14) (.tmp 28) rfl (V0.heap.size + 1) rfl 26 Z62 pq.cells rfl P2.out (info26 _) (z62_size _) pty_one ?_) | ((with_reducible refine pre_op (.load 42 (.tmp 6)) ?_); refine wpList_load_row rfl 42 (.tmp 6) rfl (w.heap.size) rfl 42 d.cells (0, 0) _ K6.out Try.underlying42 rfl (info42 d) ?_))
  change Calls _ _ _ ((((V0.alloc (.cells Z62 26)).alloc (.cells Z62 26)).setRow V0.heap.size pp.cells).setRow (V0.heap.size + 1) pq.cells) _
  refine Calls.ext (A2.out _) fun z2 => ?_
  have M6 := Lib.hid (K6.out.ext z2)
  have M13 := Lib.hid (K13.out.ext z2)
  have M14 := Lib.hid (K14.out.ext z2)
  have ME := Lib.hid (KE.out.ext z2)
  generalize ext ((((V0.alloc (.cells Z62 26)).alloc (.cells Z62 26)).setRow V0.heap.size pp.cells).setRow (V0.heap.size + 1) pq.cells) z2 = V1 at *
  generalize V0.heap.size = g13 at *
  clear P1 P2 K6 K13 K14 KE H6 HE lt6 ltE
  have lt6 := M6.out.lt
  have P1 := Lib.hid ((Blk.new V1 26 Z62).alloc (.cells Z62 26))
  have P2 := Lib.hid ((Blk.new' (V1.alloc (.cells Z62 26)) 26 Z62 (V1.heap.size + 1) (by simp)).rowFar (k := V1.heap.size) (by omega) pp.cells)
  have lt13 := M13.out.lt
  have lt14 := M14.out.lt
  have L6 := Lib.hid (((((M6.out).alloc (.cells Z62 26)).alloc (.cells Z62 26)).rowFar (k := V1.heap.size) (by omega) pp.cells).rowFar (k := V1.heap.size + 1) (by omega) pq.cells)
  have L13 := Lib.hid (((((M13.out).alloc (.cells Z62 26)).alloc (.cells Z62 26)).rowFar (k := V1.heap.size) (by omega) pp.cells).rowFar (k := V1.heap.size + 1) (by omega) pq.cells)
  have L14 := Lib.hid (((((M14.out).alloc (.cells Z62 26)).alloc (.cells Z62 26)).rowFar (k := V1.heap.size) (by omega) pp.cells).rowFar (k := V1.heap.size + 1) (by omega) pq.cells)
  have ltE := ME.out.size
  have LE := Lib.hid (((((ME.out).alloc (.cells Z62 26)).alloc (.cells Z62 26)).row (g := V1.heap.size) (by omega) pp.cells).row (g := V1.heap.size + 1) (by omega) pq.cells)
  have L16 := Lib.hid ((P1.out.row pp.cells).rowFar (k := V1.heap.size + 1) (by omega) pq.cells)
  have L17 := Lib.hid (P2.out.row pq.cells)
  go_wp2_with (first | ((with_reducible refine pre_op (.store 26 (.tmp 16) (.tmp 34)) ?_); refine wpList_store_row rfl 26 (.tmp 16) (.tmp 34) rfl (V1.heap.size) rfl 26 Z62 pp.cells rfl P1.out (info26 _) (z62_size _) pty_one ?_) | ((with_reducible refine pre_op (.store 26 (.tmp 17) (.tmp 35)) ?_); refine wpList_store_row rfl 26 (.tmp 17) (.tmp 35) rfl (V1.heap.size + 1) rfl 26 Z62 pq.cells rfl P2.out (info26 _) (z62_size _) pty_one ?_))
  change Code.wp _ _ _ _ ((((V1.alloc (.cells Z62 26)).alloc (.cells Z62 26)).setRow V1.heap.size pp.cells).setRow (V1.heap.size + 1) pq.cells)
  generalize (((V1.alloc (.cells Z62 26)).alloc (.cells Z62 26)).setRow V1.heap.size pp.cells).setRow (V1.heap.size + 1) pq.cells = V2 at *
  generalize V1.heap.size = g16 at *
  clear P1 P2 M6 M13 M14 ME lt6 lt13 lt14 ltE
  refine wp_region_relN (Vpr [.v (.agg pp.cells), .v (.agg pp.cells), .v (.bool false), .v (.bool false), .v (.agg pq.cells), .v (.agg pq.cells), .v (.bool false), .v (.bool false), .v (.bool false), .v (.int .i64 er), .v (.int .i64 er), .v (.bool false), .v (.bool false), .v (.bool false), .v (.agg d.cells), .v (.int .i64 ck), .v (.agg d.cells), .v (.int .i64 ck), .v (.bool false), .v (.bool false)]) (by kernel_rfl) (by kernel_rfl) (Vpr_allN rfl) (Vpr_mono (by
    intro q hq
    simp at hq)) ?op ?fin
  case op =>
    intro i o ho a V3 _ _ hfrm hE0 hdep
    have hE : Ext V2 V3 := Ext.trans ((Ext.refl V2).drew) hE0
    match i, ho with
    | 0, ho =>
      injection ho with ho
      subst ho
      have e1 : a.tmps[13]?.getD undef = .pointer (some ⟨g13, 0, none⟩) := slot_of (hfrm 13 (frm_of 13 (by kernel_rfl)))
      exact rel_row 26 (.tmp 13) rfl _ (by simpa [Act.eval] using e1) 26 pp.cells _ (L13.out.grow hE) Try.underlying26 rfl (info26 _) rfl
    | 1, ho =>
      injection ho with ho
      subst ho
      have e1 : a.tmps[16]?.getD undef = .pointer (some ⟨g16, 0, none⟩) := slot_of (hfrm 16 (frm_of 16 (by kernel_rfl)))
      exact rel_row 26 (.tmp 16) rfl _ (by simpa [Act.eval] using e1) 26 pp.cells _ (L16.out.grow hE) Try.underlying26 rfl (info26 _) rfl
    | 2, ho =>
      injection ho with ho
      subst ho
      have e1 : a.tmps[37]?.getD undef = .agg pp.cells := slot_of (hdep ⟨0, .data⟩ (by simp) (by kernel_rfl) 37 (by kernel_rfl))
      have e2 : a.tmps[38]?.getD undef = .agg pp.cells := slot_of (hdep ⟨1, .data⟩ (by simp) (by kernel_rfl) 38 (by kernel_rfl))
      exact rel_neq_row 26 (.tmp 37) (.tmp 38) rfl pp.cells pp.cells (by simpa [Act.eval] using e1) (by simpa [Act.eval] using e2) eg26 true QP.out rfl
    | 3, ho =>
      injection ho with ho
      subst ho
      have e1 : a.tmps[39]?.getD undef = .bool false := slot_of (hdep ⟨2, .data⟩ (by simp) (by kernel_rfl) 39 (by kernel_rfl))
      exact rel_val (by simp [execOp, go_sem, e1]) rfl
    | 4, ho =>
      injection ho with ho
      subst ho
      have e1 : a.tmps[14]?.getD undef = .pointer (some ⟨g13 + 1, 0, none⟩) := slot_of (hfrm 14 (frm_of 14 (by kernel_rfl)))
      exact rel_row 26 (.tmp 14) rfl _ (by simpa [Act.eval] using e1) 26 pq.cells _ (L14.out.grow hE) Try.underlying26 rfl (info26 _) rfl
    | 5, ho =>
      injection ho with ho
      subst ho
      have e1 : a.tmps[17]?.getD undef = .pointer (some ⟨g16 + 1, 0, none⟩) := slot_of (hfrm 17 (frm_of 17 (by kernel_rfl)))
      exact rel_row 26 (.tmp 17) rfl _ (by simpa [Act.eval] using e1) 26 pq.cells _ (L17.out.grow hE) Try.underlying26 rfl (info26 _) rfl
    | 6, ho =>
      injection ho with ho
      subst ho
      have e1 : a.tmps[41]?.getD undef = .agg pq.cells := slot_of (hdep ⟨4, .data⟩ (by simp) (by kernel_rfl) 41 (by kernel_rfl))
      have e2 : a.tmps[42]?.getD undef = .agg pq.cells := slot_of (hdep ⟨5, .data⟩ (by simp) (by kernel_rfl) 42 (by kernel_rfl))
      exact rel_neq_row 26 (.tmp 41) (.tmp 42) rfl pq.cells pq.cells (by simpa [Act.eval] using e1) (by simpa [Act.eval] using e2) eg26 true QQ.out rfl
    | 7, ho =>
      injection ho with ho
      subst ho
      have e1 : a.tmps[40]?.getD undef = .bool false := slot_of (hdep ⟨3, .data⟩ (by simp) (by kernel_rfl) 40 (by kernel_rfl))
      have e2 : a.tmps[43]?.getD undef = .bool false := slot_of (hdep ⟨6, .data⟩ (by simp) (by kernel_rfl) 43 (by kernel_rfl))
      exact rel_val (by simp [execOp, go_sem, e1, e2]) rfl
    | 8, ho =>
      injection ho with ho
      subst ho
      have e1 : a.tmps[44]?.getD undef = .bool false := slot_of (hdep ⟨7, .data⟩ (by simp) (by kernel_rfl) 44 (by kernel_rfl))
      exact rel_val (by simp [execOp, go_sem, e1]) rfl
    | 9, ho =>
      injection ho with ho
      subst ho
      have e1 : a.tmps[15]?.getD undef = .int .i64 er := slot_of (hfrm 15 (frm_of 15 (by kernel_rfl)))
      exact rel_val (by simp [execOp, go_sem, e1]) rfl
    | 10, ho =>
      injection ho with ho
      subst ho
      have e1 : a.tmps[18]?.getD undef = .int .i64 er := slot_of (hfrm 18 (frm_of 18 (by kernel_rfl)))
      exact rel_val (by simp [execOp, go_sem, e1]) rfl
    | 11, ho =>
      injection ho with ho
      subst ho
      have e1 : a.tmps[46]?.getD undef = .int .i64 er := slot_of (hdep ⟨9, .data⟩ (by simp) (by kernel_rfl) 46 (by kernel_rfl))
      have e2 : a.tmps[47]?.getD undef = .int .i64 er := slot_of (hdep ⟨10, .data⟩ (by simp) (by kernel_rfl) 47 (by kernel_rfl))
      exact rel_val (by simp [execOp, go_sem, e1, e2, b1]) rfl
    | 12, ho =>
      injection ho with ho
      subst ho
      have e1 : a.tmps[45]?.getD undef = .bool false := slot_of (hdep ⟨8, .data⟩ (by simp) (by kernel_rfl) 45 (by kernel_rfl))
      have e2 : a.tmps[48]?.getD undef = .bool false := slot_of (hdep ⟨11, .data⟩ (by simp) (by kernel_rfl) 48 (by kernel_rfl))
      exact rel_val (by simp [execOp, go_sem, e1, e2]) rfl
    | 13, ho =>
      injection ho with ho
      subst ho
      have e1 : a.tmps[49]?.getD undef = .bool false := slot_of (hdep ⟨12, .data⟩ (by simp) (by kernel_rfl) 49 (by kernel_rfl))
      exact rel_val (by simp [execOp, go_sem, e1]) rfl
    | 14, ho =>
      injection ho with ho
      subst ho
      have e1 : a.tmps[6]?.getD undef = .pointer (some ⟨w.heap.size, 0, none⟩) := slot_of (hfrm 6 (frm_of 6 (by kernel_rfl)))
      exact rel_row 42 (.tmp 6) rfl _ (by simpa [Act.eval] using e1) 42 d.cells _ (L6.out.grow hE) Try.underlying42 rfl (info42 _) rfl
    | 15, ho =>
      injection ho with ho
      subst ho
      have e1 : a.tmps[51]?.getD undef = .agg d.cells := slot_of (hdep ⟨14, .data⟩ (by simp) (by kernel_rfl) 51 (by kernel_rfl))
      exact rel_call 23 [.tmp 51] #[42] rfl (by kernel_rfl) [.agg d.cells] (by simp [Act.eval, e1]) (ret_val (B1.out _))
    | 16, ho =>
      injection ho with ho
      subst ho
      have e1 : a.tmps[6]?.getD undef = .pointer (some ⟨w.heap.size, 0, none⟩) := slot_of (hfrm 6 (frm_of 6 (by kernel_rfl)))
      exact rel_row 42 (.tmp 6) rfl _ (by simpa [Act.eval] using e1) 42 d.cells _ (L6.out.grow hE) Try.underlying42 rfl (info42 _) rfl
    | 17, ho =>
      injection ho with ho
      subst ho
      have e1 : a.tmps[53]?.getD undef = .agg d.cells := slot_of (hdep ⟨16, .data⟩ (by simp) (by kernel_rfl) 53 (by kernel_rfl))
      exact rel_call 24 [.tmp 53] #[42] rfl (by kernel_rfl) [.agg d.cells] (by simp [Act.eval, e1]) (ret_val (B2.out _))
    | 18, ho =>
      injection ho with ho
      subst ho
      have e1 : a.tmps[52]?.getD undef = .int .i64 ck := slot_of (hdep ⟨15, .data⟩ (by simp) (by kernel_rfl) 52 (by kernel_rfl))
      have e2 : a.tmps[54]?.getD undef = .int .i64 ck := slot_of (hdep ⟨17, .data⟩ (by simp) (by kernel_rfl) 54 (by kernel_rfl))
      exact rel_val (by simp [execOp, go_sem, e1, e2, b4]) rfl
    | 19, ho =>
      injection ho with ho
      subst ho
      have e1 : a.tmps[50]?.getD undef = .bool false := slot_of (hdep ⟨13, .data⟩ (by simp) (by kernel_rfl) 50 (by kernel_rfl))
      have e2 : a.tmps[55]?.getD undef = .bool false := slot_of (hdep ⟨18, .data⟩ (by simp) (by kernel_rfl) 55 (by kernel_rfl))
      exact rel_val (by simp [execOp, go_sem, e1, e2]) rfl
    | k + 20, ho => exact absurd (List.getElem?_eq_some_iff.1 ho).1 (by simp)
  case fin =>
    intro vs V3 hE0 hvs
    have hE : Ext V2 V3 := Ext.trans ((Ext.refl V2).drew) hE0
    have s19 : vs 19 = .bool false := hvs 19 (by simp)
    have N6 := Lib.hid (L6.out.grow hE)
    have N13 := Lib.hid (L13.out.grow hE)
    have N14 := Lib.hid (L14.out.grow hE)
    have N16 := Lib.hid (L16.out.grow hE)
    have N17 := Lib.hid (L17.out.grow hE)
    have NE := Lib.hid (Ext.trans LE.out hE)
    clear hvs hE0 hE L6 L13 L14 L16 L17 LE
    simp [putAll, Act.put, s19]
    clear s19
    go_wp2_with (first | ((with_reducible refine pre_op (.load 26 (.tmp 13)) ?_); refine wpList_load_row rfl 26 (.tmp 13) rfl (g13) rfl 26 pp.cells (0, 0) _ N13.out Try.underlying26 rfl (info26 _) ?_) | ((with_reducible refine pre_op (.load 26 (.tmp 14)) ?_); refine wpList_load_row rfl 26 (.tmp 14) rfl (g13 + 1) rfl 26 pq.cells (0, 0) _ N14.out Try.underlying26 rfl (info26 _) ?_))
    refine Calls.ext (C1.out _) fun z4 => ?_
    have lt6 := (N6.out.ext z4).lt
    have lt13 := (N13.out.ext z4).lt
    have lt14 := (N14.out.ext z4).lt
    have lt16 := (N16.out.ext z4).lt
    have lt17 := (N17.out.ext z4).lt
    have H6 := Lib.hid (((N6.out.ext z4).alloc (.cells Z35 29)).rowFar (k := (ext V3 z4).heap.size) (by omega) t.cells)
    have H13 := Lib.hid (((N13.out.ext z4).alloc (.cells Z35 29)).rowFar (k := (ext V3 z4).heap.size) (by omega) t.cells)
    have H14 := Lib.hid (((N14.out.ext z4).alloc (.cells Z35 29)).rowFar (k := (ext V3 z4).heap.size) (by omega) t.cells)
    have H16 := Lib.hid (((N16.out.ext z4).alloc (.cells Z35 29)).rowFar (k := (ext V3 z4).heap.size) (by omega) t.cells)
    have H17 := Lib.hid (((N17.out.ext z4).alloc (.cells Z35 29)).rowFar (k := (ext V3 z4).heap.size) (by omega) t.cells)
    have ltE := (NE.out.ext z4).size
    have HE := Lib.hid (((NE.out.ext z4).alloc (.cells Z35 29)).row (g := (ext V3 z4).heap.size) (by omega) t.cells)
    have S19 := Lib.hid (Blk.new (ext V3 z4) 29 Z35)
    have H19 := Lib.hid (S19.out.row t.cells)
    go_wp2_with (first | ((with_reducible refine pre_op (.store 29 (.tmp 19) (.tmp 63)) ?_); refine wpList_store_row rfl 29 (.tmp 19) (.tmp 63) rfl ((ext V3 z4).heap.size) rfl 29 Z35 t.cells rfl S19.out (info29t _) (z35t _) tlk_one ?_) | ((with_reducible refine pre_op (.load 26 (.tmp 16)) ?_); refine wpList_load_row rfl 26 (.tmp 16) rfl (g16) rfl 26 pp.cells (0, 0) _ H16.out Try.underlying26 rfl (info26 _) ?_) | ((with_reducible refine pre_op (.load 26 (.tmp 17)) ?_); refine wpList_load_row rfl 26 (.tmp 17) rfl (g16 + 1) rfl 26 pq.cells (0, 0) _ H17.out Try.underlying26 rfl (info26 _) ?_))
    change Calls _ _ _ (((ext V3 z4).alloc (.cells Z35 29)).setRow (ext V3 z4).heap.size t.cells) _
    generalize ((ext V3 z4).alloc (.cells Z35 29)).setRow (ext V3 z4).heap.size t.cells = V4 at *
    generalize (ext V3 z4).heap.size = g19 at *
    clear S19 N6 N13 N14 N16 N17 NE
    clear lt6
    clear lt13
    clear lt14
    clear lt16
    clear lt17
    clear ltE
    refine Calls.ext (C2.out _) fun z5 => ?_
    have lt6 := (H6.out.ext z5).lt
    have lt19 := (H19.out.ext z5).lt
    have J6 := Lib.hid (((H6.out.ext z5).alloc (.cells Z35 29)).rowFar (k := (ext V4 z5).heap.size) (by omega) t.cells)
    have J19 := Lib.hid (((H19.out.ext z5).alloc (.cells Z35 29)).rowFar (k := (ext V4 z5).heap.size) (by omega) t.cells)
    have ltE := (HE.out.ext z5).size
    have JE := Lib.hid (((HE.out.ext z5).alloc (.cells Z35 29)).row (g := (ext V4 z5).heap.size) (by omega) t.cells)
    have S20 := Lib.hid (Blk.new (ext V4 z5) 29 Z35)
    have J20 := Lib.hid (S20.out.row t.cells)
    go_wp2_with (first | ((with_reducible refine pre_op (.store 29 (.tmp 20) (.tmp 71)) ?_); refine wpList_store_row rfl 29 (.tmp 20) (.tmp 71) rfl ((ext V4 z5).heap.size) rfl 29 Z35 t.cells rfl S20.out (info29t _) (z35t _) tlk_one ?_) | ((with_reducible refine pre_op (.load 29 (.tmp 19)) ?_); refine wpList_load_row rfl 29 (.tmp 19) rfl (g19) rfl 29 t.cells (0, 0) _ J19.out Try.underlying29 rfl (info29t _) ?_) | ((with_reducible refine pre_op (.load 29 (.tmp 20)) ?_); refine wpList_load_row rfl 29 (.tmp 20) rfl ((ext V4 z5).heap.size) rfl 29 t.cells (0, 0) _ J20.out Try.underlying29 rfl (info29t _) ?_) | ((with_reducible refine pre_op (.binOp .neq 29 (.tmp 73) (.tmp 74) 29) ?_); refine wpList_neq_row rfl 29 (.tmp 73) (.tmp 74) rfl t.cells t.cells rfl rfl eg29 true QT.out ?_) | ((with_reducible refine pre_op (.load 42 (.tmp 6)) ?_); refine wpList_load_row rfl 42 (.tmp 6) rfl (w.heap.size) rfl 42 d.cells (0, 0) _ J6.out Try.underlying42 rfl (info42 d) ?_))
    change Calls _ _ _ (((ext V4 z5).alloc (.cells Z35 29)).setRow (ext V4 z5).heap.size t.cells) _
    generalize ((ext V4 z5).alloc (.cells Z35 29)).setRow (ext V4 z5).heap.size t.cells = V5 at *
    generalize (ext V4 z5).heap.size = g20 at *
    clear S20 H6 H13 H14 H16 H17 H19 HE lt6 lt19 ltE
    refine Calls.ext (D1.out _) fun z6 => ?_
    have lt6 := (J6.out.ext z6).lt
    have K6 := Lib.hid (((J6.out.ext z6).alloc (.cells Z78 42)).rowFar (k := (ext V5 z6).heap.size) (by omega) dd.cells)
    have ltE := (JE.out.ext z6).size
    have KE := Lib.hid (((JE.out.ext z6).alloc (.cells Z78 42)).row (g := (ext V5 z6).heap.size) (by omega) dd.cells)
    have S21 := Lib.hid (Blk.new (ext V5 z6) 42 Z78)
    have K21 := Lib.hid (S21.out.row dd.cells)
    go_wp2_with (first | ((with_reducible refine pre_op (.store 42 (.tmp 21) (.tmp 89)) ?_); refine wpList_store_row rfl 42 (.tmp 21) (.tmp 89) rfl ((ext V5 z6).heap.size) rfl 42 Z78 dd.cells rfl S21.out (info42 _) (z78_size _) dl_one ?_) | ((with_reducible refine pre_op (.load 42 (.tmp 6)) ?_); refine wpList_load_row rfl 42 (.tmp 6) rfl (w.heap.size) rfl 42 d.cells (0, 0) _ K6.out Try.underlying42 rfl (info42 d) ?_))
    change Calls _ _ _ (((ext V5 z6).alloc (.cells Z78 42)).setRow (ext V5 z6).heap.size dd.cells) _
    generalize ((ext V5 z6).alloc (.cells Z78 42)).setRow (ext V5 z6).heap.size dd.cells = V6 at *
    generalize (ext V5 z6).heap.size = g21 at *
    clear S21 J6 J19 J20 JE lt6 ltE
    refine Calls.ext (D2.out _) fun z7 => ?_
    have lt21 := (K21.out.ext z7).lt
    have M21 := Lib.hid (((K21.out.ext z7).alloc (.cells Z78 42)).rowFar (k := (ext V6 z7).heap.size) (by omega) dd.cells)
    have ltE := (KE.out.ext z7).size
    have ME := Lib.hid (((KE.out.ext z7).alloc (.cells Z78 42)).row (g := (ext V6 z7).heap.size) (by omega) dd.cells)
    have S22 := Lib.hid (Blk.new (ext V6 z7) 42 Z78)
    have M22 := Lib.hid (S22.out.row dd.cells)
    go_wp2_with (first | ((with_reducible refine pre_op (.store 42 (.tmp 22) (.tmp 99)) ?_); refine wpList_store_row rfl 42 (.tmp 22) (.tmp 99) rfl ((ext V6 z7).heap.size) rfl 42 Z78 dd.cells rfl S22.out (info42 _) (z78_size _) dl_one ?_) | ((with_reducible refine pre_op (.load 42 (.tmp 21)) ?_); refine wpList_load_row rfl 42 (.tmp 21) rfl (g21) rfl 42 dd.cells (0, 0) _ M21.out Try.underlying42 rfl (info42 _) ?_) | ((with_reducible refine pre_op (.load 42 (.tmp 22)) ?_); refine wpList_load_row rfl 42 (.tmp 22) rfl ((ext V6 z7).heap.size) rfl 42 dd.cells (0, 0) _ M22.out Try.underlying42 rfl (info42 _) ?_) | ((with_reducible refine pre_op (.binOp .eql 42 (.tmp 101) (.tmp 102) 42) ?_); refine wpList_eql_row rfl 42 (.tmp 101) (.tmp 102) rfl dd.cells dd.cells rfl rfl eg42 true QD.out ?_))
    go_ret
    exact ⟨rfl, ME.out⟩
set_option maxRecDepth 100000 in
theorem veilTalks_lifted (os : Os) (started : os.Started) (H : Type) (enc : TypeId × Value → H) :
    ReturnsInHanded {} Try.checked os 5 .any (Rows.veilTalksSpec.pre6 enc Try.prog Try.f5 Rows.veilTalksRow.domain false) (Rows.veilTalksSpec.post enc Try.prog Try.f5 false true false false) := by
  refine returnsInHanded_of_change (C := Try.checked) own started (by kernel_rfl) Try.func5
    (ChangeSpec.witness6 (enc := enc) (C := Try.checked) false ⟨#[], #[.agg (Array.replicate 47 (.int .u8 0) ++ Array.replicate 31 (.int .u32 0)), .int .i64 0, .int .u16 0, .int .u16 0, .int .u16 0, .bool false], []⟩ 8 (by kernel_rfl) (by kernel_rfl) (by kernel_rfl) (by kernel_rfl)) ?_
  intro W base args ds gs before hval0 hW hcnd _
  have hval : ∀ (j : Nat) t v, Try.f5.params[j]? = some t → args[j]? = some v → Value.okWide Try.prog W .any base t v := hval0
  have hW' := hW
  obtain ⟨p, q, hA0, hV, rfl, hfz, hnd⟩ := hW
  have hA : DataW.TrodAll enc Try.prog W 0 (fun _ => true) true Try.f5.params.toList args.toList ds p := hA0
  rw [Try.params5] at hA hval
  obtain ⟨v0, vs0, d0, ds0, p0, q0, hargs, rfl, rfl, h0, r0⟩ := trodAll_cons hA
  obtain ⟨v1, vs1, d1, ds1, p1, q1, rfl, rfl, rfl, h1, r1⟩ := trodAll_cons r0
  obtain ⟨v2, vs2, d2, ds2, p2, q2, rfl, rfl, rfl, h2, r2⟩ := trodAll_cons r1
  obtain ⟨v3, vs3, d3, ds3, p3, q3, rfl, rfl, rfl, h3, r3⟩ := trodAll_cons r2
  obtain ⟨v4, vs4, d4, ds4, p4, q4, rfl, rfl, rfl, h4, r4⟩ := trodAll_cons r3
  obtain ⟨v5, vs5, d5, ds5, p5, q5, rfl, rfl, rfl, h5, r5⟩ := trodAll_cons r4
  obtain ⟨rfl, rfl, rfl⟩ := trodAll_nil r5
  obtain rfl : args = #[v0, v1, v2, v3, v4, v5] := by cases args; simp_all
  obtain ⟨rfl, rfl⟩ := trodVars_none hV
  have k0 := h0
  have lt0 : ∀ x ∈ p0, x.block < W.heap.size := by obtain ⟨m, hm⟩ := k0; exact DataW.trod_lt m _ _ _ hm
  obtain ⟨ns0, hl0, hv0, wf0⟩ := open_flat (ks := dks) (by kernel_rfl) (hval 0 42 v0 rfl rfl)
  have k1 := h1
  have lt1 : ∀ x ∈ p1, x.block < W.heap.size := by obtain ⟨m, hm⟩ := k1; exact DataW.trod_lt m _ _ _ hm
  obtain ⟨a1, rfl, _, _, w1⟩ := open_int Try.underlying3 (hval 1 3 v1 rfl rfl) h1
  have k2 := h2
  have lt2 : ∀ x ∈ p2, x.block < W.heap.size := by obtain ⟨m, hm⟩ := k2; exact DataW.trod_lt m _ _ _ hm
  obtain ⟨a2, rfl, _, _, w2⟩ := open_int Try.underlying27 (hval 2 27 v2 rfl rfl) h2
  have k3 := h3
  have lt3 : ∀ x ∈ p3, x.block < W.heap.size := by obtain ⟨m, hm⟩ := k3; exact DataW.trod_lt m _ _ _ hm
  obtain ⟨a3, rfl, _, _, w3⟩ := open_int Try.underlying27 (hval 3 27 v3 rfl rfl) h3
  have k4 := h4
  have lt4 : ∀ x ∈ p4, x.block < W.heap.size := by obtain ⟨m, hm⟩ := k4; exact DataW.trod_lt m _ _ _ hm
  obtain ⟨a4, rfl, _, _, w4⟩ := open_int Try.underlying27 (hval 4 27 v4 rfl rfl) h4
  have k5 := h5
  have lt5 : ∀ x ∈ p5, x.block < W.heap.size := by obtain ⟨m, hm⟩ := k5; exact DataW.trod_lt m _ _ _ hm
  obtain ⟨a5, rfl, _, _⟩ := open_bool Try.underlying4 (hval 5 4 v5 rfl rfl) h5
  clear hA0 hval0
  obtain ⟨dl0, hdl0, ok0⟩ := deal_of hl0 wf0
  rw [hdl0] at hv0
  subst hv0
  have e2 := uv_of w2
  generalize BitVec.ofNat 16 a2.toNat = x2 at e2
  subst e2
  have e3 := uv_of w3
  generalize BitVec.ofNat 16 a3.toNat = x3 at e3
  subst e3
  have e4 := uv_of w4
  generalize BitVec.ofNat 16 a4.toNat = x4 at e4
  subst e4
  refine (veilTalks_walk dl0 a1 x2 x3 x4 a5 ok0 W).mono fun e W' ⟨he, bel⟩ => ?_
  subst he
  exact ⟨_, rfl, _, _, _, [], _, [], hW', trodAll_mk1 (shut_bool Try.underlying4 _), (trodAll_cons_mk (Below.trod laidOut (by kernel_rfl) (of_decide_eq_true (by kernel_rfl)) k0 bel lt0) (trodAll_cons_mk (Below.trod laidOut (by kernel_rfl) (of_decide_eq_true (by kernel_rfl)) k1 bel lt1) (trodAll_cons_mk (Below.trod laidOut (by kernel_rfl) (of_decide_eq_true (by kernel_rfl)) k2 bel lt2) (trodAll_cons_mk (Below.trod laidOut (by kernel_rfl) (of_decide_eq_true (by kernel_rfl)) k3 bel lt3) (trodAll_cons_mk (Below.trod laidOut (by kernel_rfl) (of_decide_eq_true (by kernel_rfl)) k4 bel lt4) (trodAll_cons_mk (Below.trod laidOut (by kernel_rfl) (of_decide_eq_true (by kernel_rfl)) k5 bel lt5) trodAll_mk0)))))), rfl, Below.frame bel _, fun h => by cases h⟩

theorem veilTalks_holds : Rows.VeilTalksSaid :=
  OpenClaim.holds_of_wide 5 Try.f5 rfl rfl rfl rfl rfl rfl rfl ⟨rfl, rfl, rfl, rfl, rfl⟩ rfl rfl rfl rfl rfl (by kernel_rfl) Try.func5 (by kernel_rfl)
    (of_decide_eq_true (by kernel_rfl)) (by unfold Func.isWrapper; first | (rw [if_pos (by decide +kernel)]; kernel_rfl) | (rw [if_neg (by decide +kernel)]; exact ⟨rfl, rfl⟩))
    (fun os started H enc _ => veilTalks_lifted os started H enc)
end Go.Proofs.Ytfdcapblgdlkaaa
