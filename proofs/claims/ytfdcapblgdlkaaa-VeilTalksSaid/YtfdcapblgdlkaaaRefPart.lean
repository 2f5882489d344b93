/- The reference: the exported parties. -/
import Derived.Test.YtfdcapblgdlkaaaRefDeals
namespace Go.Proofs.Ytfdcapblgdlkaaa
open Go.RowKit

set_option maxRecDepth 100000 in
set_option maxHeartbeats 2000000 in
theorem refParties_any (d : Dl) (lim : Int) (hd : d.ok) (w : World) : Calls Try.prog 22 #[d.val, .int .i64 lim] w fun e w' => e = .returned (.tuple #[.agg (parP d lim), .agg (parQ d lim), .int .i64 (parErr d lim)]) ∧ Ext w w' := by
  have C1 := fun w => validDeal_any d hd w
  have CI := fun w => within_any lim 0 15 w
  have C2 := Lib.hid (fun w => refDealt_any d lim hd w)
  clear hd
  cases hk : d.okB
  · rw [hk] at C1
    have HV := Lib.hid (par_60 (lim := lim) hk)
    have C1 := Lib.hid C1
    clear hk C2 CI
    go_enter Try.func22, Try.ntmps22
    go_wp2_with (refine wpList_load_row rfl 42 (.tmp 2) rfl (w.heap.size) rfl 42 d.cells (0, 0) _ (((Blk.new w 42 d.cells).alloc _).alloc _) Try.underlying42 rfl (info42 d) ?_)
    change Calls _ _ _ (((w.alloc (.cells d.cells 42)).alloc (.cells Z62 26)).alloc (.cells Z62 26)) _
    refine Calls.ext (C1.out _) fun z1 => ?_
    have H0 := Lib.hid ((((Blk.new w 42 d.cells).alloc (.cells Z62 26)).alloc (.cells Z62 26)).ext z1)
    have H1 := Lib.hid (((Blk.new' (w.alloc (.cells d.cells 42)) 26 Z62 (w.heap.size + 1) (by simp)).alloc (.cells Z62 26)).ext z1)
    have H2 := Lib.hid ((Blk.new' ((w.alloc (.cells d.cells 42)).alloc (.cells Z62 26)) 26 Z62 (w.heap.size + 1 + 1) (by simp)).ext z1)
    have HE := Lib.hid (((((Ext.refl w).alloc (.cells d.cells 42)).alloc (.cells Z62 26)).alloc (.cells Z62 26)).ext z1)
    generalize ext (((w.alloc (.cells d.cells 42)).alloc (.cells Z62 26)).alloc (.cells Z62 26)) z1 = W at *
    have G2 := Lib.hid (H2.out.rowFar (k := w.heap.size + 1) (by omega) Z62)
    have GE := Lib.hid ((HE.out.row (g := w.heap.size + 1) (by omega) Z62).row (g := w.heap.size + 1 + 1) (by omega) Z62)
    have G1 := Lib.hid ((H1.out.row Z62).rowFar (k := w.heap.size + 1 + 1) (by omega) Z62)
    go_wp2_with (first | (refine wpList_build_row rfl 26 [] rfl [] rfl Z62 build26z ?_) | (refine wpList_store_row rfl 26 (.tmp 4) (.tmp 12) rfl (w.heap.size + 1) rfl 26 Z62 Z62 rfl H1.out info26z rfl z62_one ?_) | (refine wpList_store_row rfl 26 (.tmp 5) (.tmp 13) rfl (w.heap.size + 1 + 1) rfl 26 Z62 Z62 rfl G2.out info26z rfl z62_one ?_))
    refine bodyPost_ret (results_cell3 rfl _ _ (w.heap.size + 1) (w.heap.size + 1 + 1) 26 26 Z62 Z62 (0, 0) (0, 0) _ _ rfl rfl G1.out (G2.out.row Z62) Try.underlying26 rfl info26z Try.underlying26 rfl info26z) rfl ⟨ret_of (by rw [HV.out.1, HV.out.2.1, HV.out.2.2]; rfl), GE.out⟩
  · rw [hk] at C1
    by_cases hl : 0 ≤ lim ∧ lim ≤ 15
    rotate_left
    · have HV := Lib.hid (par_2 hk hl)
      have C1 := Lib.hid C1
      rw [show inB lim 0 15 = false by simp [inB]; omega] at CI
      have CI := Lib.hid CI
      clear hk C2 hl
      go_enter Try.func22, Try.ntmps22
      go_wp2_with (refine wpList_load_row rfl 42 (.tmp 2) rfl (w.heap.size) rfl 42 d.cells (0, 0) _ (((Blk.new w 42 d.cells).alloc _).alloc _) Try.underlying42 rfl (info42 d) ?_)
      change Calls _ _ _ (((w.alloc (.cells d.cells 42)).alloc (.cells Z62 26)).alloc (.cells Z62 26)) _
      refine Calls.ext (C1.out _) fun z1 => ?_
      have H0 := Lib.hid ((((Blk.new w 42 d.cells).alloc (.cells Z62 26)).alloc (.cells Z62 26)).ext z1)
      have H1 := Lib.hid (((Blk.new' (w.alloc (.cells d.cells 42)) 26 Z62 (w.heap.size + 1) (by simp)).alloc (.cells Z62 26)).ext z1)
      have H2 := Lib.hid ((Blk.new' ((w.alloc (.cells d.cells 42)).alloc (.cells Z62 26)) 26 Z62 (w.heap.size + 1 + 1) (by simp)).ext z1)
      have HE := Lib.hid (((((Ext.refl w).alloc (.cells d.cells 42)).alloc (.cells Z62 26)).alloc (.cells Z62 26)).ext z1)
      generalize ext (((w.alloc (.cells d.cells 42)).alloc (.cells Z62 26)).alloc (.cells Z62 26)) z1 = W at *
      go_wp2_with fail
      refine Calls.same (CI.out _) ?_
      have G2 := Lib.hid (H2.out.rowFar (k := w.heap.size + 1) (by omega) Z62)
      have GE := Lib.hid ((HE.out.row (g := w.heap.size + 1) (by omega) Z62).row (g := w.heap.size + 1 + 1) (by omega) Z62)
      have G1 := Lib.hid ((H1.out.row Z62).rowFar (k := w.heap.size + 1 + 1) (by omega) Z62)
      go_wp2_with (first | (refine wpList_build_row rfl 26 [] rfl [] rfl Z62 build26z ?_) | (refine wpList_store_row rfl 26 (.tmp 4) (.tmp 17) rfl (w.heap.size + 1) rfl 26 Z62 Z62 rfl H1.out info26z rfl z62_one ?_) | (refine wpList_store_row rfl 26 (.tmp 5) (.tmp 18) rfl (w.heap.size + 1 + 1) rfl 26 Z62 Z62 rfl G2.out info26z rfl z62_one ?_))
      refine bodyPost_ret (results_cell3 rfl _ _ (w.heap.size + 1) (w.heap.size + 1 + 1) 26 26 Z62 Z62 (0, 0) (0, 0) _ _ rfl rfl G1.out (G2.out.row Z62) Try.underlying26 rfl info26z Try.underlying26 rfl info26z) rfl ⟨ret_of (by rw [HV.out.1, HV.out.2.1, HV.out.2.2]; rfl), GE.out⟩
    · have HV := Lib.hid (par_0 hk hl)
      have C1 := Lib.hid C1
      rw [show inB lim 0 15 = true by simp [inB]; omega] at CI
      have CI := Lib.hid CI
      clear hk hl
      go_enter Try.func22, Try.ntmps22
      go_wp2_with (refine wpList_load_row rfl 42 (.tmp 2) rfl (w.heap.size) rfl 42 d.cells (0, 0) _ (((Blk.new w 42 d.cells).alloc _).alloc _) Try.underlying42 rfl (info42 d) ?_)
      change Calls _ _ _ (((w.alloc (.cells d.cells 42)).alloc (.cells Z62 26)).alloc (.cells Z62 26)) _
      refine Calls.ext (C1.out _) fun z1 => ?_
      have H0 := Lib.hid ((((Blk.new w 42 d.cells).alloc (.cells Z62 26)).alloc (.cells Z62 26)).ext z1)
      have H1 := Lib.hid (((Blk.new' (w.alloc (.cells d.cells 42)) 26 Z62 (w.heap.size + 1) (by simp)).alloc (.cells Z62 26)).ext z1)
      have H2 := Lib.hid ((Blk.new' ((w.alloc (.cells d.cells 42)).alloc (.cells Z62 26)) 26 Z62 (w.heap.size + 1 + 1) (by simp)).ext z1)
      have HE := Lib.hid (((((Ext.refl w).alloc (.cells d.cells 42)).alloc (.cells Z62 26)).alloc (.cells Z62 26)).ext z1)
      generalize ext (((w.alloc (.cells d.cells 42)).alloc (.cells Z62 26)).alloc (.cells Z62 26)) z1 = W at *
      go_wp2_with fail
      refine Calls.same (CI.out _) ?_
      go_wp2_with (refine wpList_load_row rfl 42 (.tmp 2) rfl (w.heap.size) rfl 42 d.cells (0, 0) _ H0.out Try.underlying42 rfl (info42 d) ?_)
      refine Calls.ext (C2.out _) fun z2 => ?_
      have hS1 := (H2.out.ext z2).lt
      have L7 := Lib.hid ((Blk.new (ext W z2) 26 Z62).alloc (.cells Z62 26))
      have L8 := Lib.hid ((Blk.new' ((ext W z2).alloc (.cells Z62 26)) 26 Z62 ((ext W z2).heap.size + 1) (by simp)).rowFar (k := (ext W z2).heap.size) (by omega) (ptyP d).cells)
      have K7 := Lib.hid ((L7.out.row (ptyP d).cells).rowFar (k := (ext W z2).heap.size + 1) (by omega) (ptyQ d lim).cells)
      have K8 := Lib.hid (L8.out.row (ptyQ d lim).cells)
      have K1 := Lib.hid (((((H1.out.ext z2).alloc (.cells Z62 26)).alloc (.cells Z62 26)).rowFar (k := (ext W z2).heap.size) (by omega) (ptyP d).cells).rowFar (k := (ext W z2).heap.size + 1) (by omega) (ptyQ d lim).cells)
      have K2 := Lib.hid (((((H2.out.ext z2).alloc (.cells Z62 26)).alloc (.cells Z62 26)).rowFar (k := (ext W z2).heap.size) (by omega) (ptyP d).cells).rowFar (k := (ext W z2).heap.size + 1) (by omega) (ptyQ d lim).cells)
      have KE := Lib.hid (((((HE.out.ext z2).alloc (.cells Z62 26)).alloc (.cells Z62 26)).row (g := (ext W z2).heap.size) (by omega) (ptyP d).cells).row (g := (ext W z2).heap.size + 1) (by omega) (ptyQ d lim).cells)
      go_wp2_with (first | ((with_reducible refine pre_op (.store 26 (.tmp 7) (.tmp 23)) ?_); refine wpList_store_row rfl 26 (.tmp 7) (.tmp 23) rfl (ext W z2).heap.size rfl 26 Z62 (ptyP d).cells rfl L7.out (info26 _) (z62_size _) pty_one ?_) | ((with_reducible refine pre_op (.store 26 (.tmp 8) (.tmp 24)) ?_); refine wpList_store_row rfl 26 (.tmp 8) (.tmp 24) rfl ((ext W z2).heap.size + 1) rfl 26 Z62 (ptyQ d lim).cells rfl L8.out (info26 _) (z62_size _) pty_one ?_))
      change Code.wp _ _ _ _ (((((ext W z2).alloc (.cells Z62 26)).alloc (.cells Z62 26)).setRow (ext W z2).heap.size (ptyP d).cells).setRow ((ext W z2).heap.size + 1) (ptyQ d lim).cells)
      generalize ((((ext W z2).alloc (.cells Z62 26)).alloc (.cells Z62 26)).setRow (ext W z2).heap.size (ptyP d).cells).setRow ((ext W z2).heap.size + 1) (ptyQ d lim).cells = V3 at *
      generalize (ext W z2).heap.size = S at *
      clear L7 L8 H1 H2 HE H0
      refine wp_region_rel1 (R := R2 (w.heap.size + 1) (w.heap.size + 1 + 1) 26 26 (ptyP d).cells (ptyQ d lim).cells) (Vof [isV (ptyP d).val, isV (ptyQ d lim).val, isW (w.heap.size + 1) 26 (ptyP d).cells, isW (w.heap.size + 1 + 1) 26 (ptyQ d lim).cells, isV (.int .i64 0)]) (by kernel_rfl) (by kernel_rfl) R2.refl R2.trans (Vof_monoR (by
        intro p hp
        simp only [List.mem_cons, List.not_mem_nil, or_false] at hp
        rcases hp with rfl | rfl | rfl | rfl | rfl
        all_goals first | exact isV_monoR _ _ | exact isW_one | exact isW_two)) ?op ?fin
      case op =>
        intro i o ho a V2 _ _ hfrm hE0 hdep
        have hE : R2 (w.heap.size + 1) (w.heap.size + 1 + 1) 26 26 (ptyP d).cells (ptyQ d lim).cells V3 V2 := R2.trans _ _ _ (R2.of_ext ((Ext.refl V3).drew)) hE0
        match i, ho with
        | 0, ho =>
          injection ho with ho
          subst ho
          have e1 : a.tmps[7]?.getD undef = .pointer (some ⟨S, 0, none⟩) := slot_of (hfrm 7 (frm_of 7 (by kernel_rfl)))
          have hb : Blk V2 S 26 (ptyP d).cells := hE.blk K7.out (by omega) (by omega)
          exact two_row rfl 26 (.tmp 7) rfl _ (by simpa [Act.eval] using e1) 26 (ptyP d).cells _ hb Try.underlying26 rfl (info26 _) rfl
        | 1, ho =>
          injection ho with ho
          subst ho
          have e1 : a.tmps[8]?.getD undef = .pointer (some ⟨S + 1, 0, none⟩) := slot_of (hfrm 8 (frm_of 8 (by kernel_rfl)))
          have hb : Blk V2 (S + 1) 26 (ptyQ d lim).cells := hE.blk K8.out (by omega) (by omega)
          exact two_row rfl 26 (.tmp 8) rfl _ (by simpa [Act.eval] using e1) 26 (ptyQ d lim).cells _ hb Try.underlying26 rfl (info26 _) rfl
        | 2, ho =>
          injection ho with ho
          subst ho
          have e1 : a.tmps[4]?.getD undef = .pointer (some ⟨w.heap.size + 1, 0, none⟩) := slot_of (hfrm 4 (frm_of 4 (by kernel_rfl)))
          have e2 : a.tmps[25]?.getD undef = (ptyP d).val := slot_of (hdep ⟨0, .data⟩ (by simp) (by kernel_rfl))
          rcases hE.one _ K1.out with hb | hb
          · exact two_store1 (by omega) rfl 26 (.tmp 4) (.tmp 25) rfl (by simpa [Act.eval] using e1) (by simpa [Act.eval] using e2) Z62 hb (z62_size _) (info26 _) pty_one (fun _ h => h)
          · exact two_store1 (by omega) rfl 26 (.tmp 4) (.tmp 25) rfl (by simpa [Act.eval] using e1) (by simpa [Act.eval] using e2) _ hb rfl (info26 _) pty_one (fun _ h => h)
        | 3, ho =>
          injection ho with ho
          subst ho
          have e1 : a.tmps[5]?.getD undef = .pointer (some ⟨w.heap.size + 1 + 1, 0, none⟩) := slot_of (hfrm 5 (frm_of 5 (by kernel_rfl)))
          have e2 : a.tmps[26]?.getD undef = (ptyQ d lim).val := slot_of (hdep ⟨1, .data⟩ (by simp) (by kernel_rfl))
          rcases hE.two _ K2.out with hb | hb
          · exact two_store2 (by omega) rfl 26 (.tmp 5) (.tmp 26) rfl (by simpa [Act.eval] using e1) (by simpa [Act.eval] using e2) Z62 hb (z62_size _) (info26 _) pty_one (fun _ h => h)
          · exact two_store2 (by omega) rfl 26 (.tmp 5) (.tmp 26) rfl (by simpa [Act.eval] using e1) (by simpa [Act.eval] using e2) _ hb rfl (info26 _) pty_one (fun _ h => h)
        | 4, ho =>
          injection ho with ho
          subst ho
          exact two_val rfl (by simp [execOp, go_sem]) rfl
        | k + 5, ho => exact absurd (List.getElem?_eq_some_iff.1 ho).1 (by simp)
      case fin =>
        intro vs V4 hE0 hvs
        have hE : R2 (w.heap.size + 1) (w.heap.size + 1 + 1) 26 26 (ptyP d).cells (ptyQ d lim).cells V3 V4 := R2.trans _ _ _ (R2.of_ext ((Ext.refl V3).drew)) hE0
        have s1 : Blk V4 (w.heap.size + 1) 26 (ptyP d).cells := hvs 2 (by simp)
        have s2 : Blk V4 (w.heap.size + 1 + 1) 26 (ptyQ d lim).cells := hvs 3 (by simp)
        have s3 : vs 4 = .int .i64 0 := hvs 4 (by simp)
        have LE := Lib.hid (hE.below KE.out (by omega) (by omega))
        clear hvs hE0 hE
        simp [putAll, Act.put, s3]
        go_wp2_with fail
        exact bodyPost_ret (results_cell3 rfl _ _ (w.heap.size + 1) (w.heap.size + 1 + 1) 26 26 (ptyP d).cells (ptyQ d lim).cells (0, 0) (0, 0) _ _ rfl rfl s1 s2 Try.underlying26 rfl (info26 _) Try.underlying26 rfl (info26 _)) rfl ⟨ret_of (by rw [HV.out.1, HV.out.2.1, HV.out.2.2]; rfl), LE.out⟩
end Go.Proofs.Ytfdcapblgdlkaaa
