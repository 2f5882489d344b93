/- The exported parties. -/
import Derived.Test.YtfdcapblgdlkaaaDeals
namespace Go.Proofs.Ytfdcapblgdlkaaa
open Go.RowKit

theorem z62_one : Z62.all (·.oneCell') = true := by kernel_rfl
theorem info26z : (Try.prog.info? 26).map (·.size) = some Z62.size := by kernel_rfl
theorem build26z (w : World) : (Instr.build 26 (([] : List (Nat × Value)).toArray)).run Try.prog w = .ok (.agg Z62) w := by kernel_rfl
def parErr (d : Dl) (lim : Int) : Int := if d.okB = true then (if 0 ≤ lim ∧ lim ≤ 15 then 0 else 2) else 60
def parP (d : Dl) (lim : Int) : Array Value := if parErr d lim = 0 then (ptyP d).cells else Z62
def parQ (d : Dl) (lim : Int) : Array Value := if parErr d lim = 0 then (ptyQ d lim).cells else Z62
theorem par_0 {d : Dl} {lim : Int} (h : d.okB = true) (hl : 0 ≤ lim ∧ lim ≤ 15) : parErr d lim = 0 ∧ parP d lim = (ptyP d).cells ∧ parQ d lim = (ptyQ d lim).cells := by
  have h0 : parErr d lim = 0 := by unfold parErr; rw [if_pos h, if_pos hl]
  exact ⟨h0, by unfold parP; rw [if_pos h0], by unfold parQ; rw [if_pos h0]⟩
theorem par_60 {d : Dl} {lim : Int} (h : d.okB = false) : parErr d lim = 60 ∧ parP d lim = Z62 ∧ parQ d lim = Z62 := by
  have h0 : parErr d lim = 60 := by unfold parErr; rw [h]; rfl
  exact ⟨h0, by unfold parP; rw [h0]; rfl, by unfold parQ; rw [h0]; rfl⟩
theorem par_2 {d : Dl} {lim : Int} (h : d.okB = true) (hl : ¬ (0 ≤ lim ∧ lim ≤ 15)) : parErr d lim = 2 ∧ parP d lim = Z62 ∧ parQ d lim = Z62 := by
  have h0 : parErr d lim = 2 := by unfold parErr; rw [if_pos h, if_neg hl]
  exact ⟨h0, by unfold parP; rw [h0]; rfl, by unfold parQ; rw [h0]; rfl⟩
set_option maxRecDepth 100000 in
set_option maxHeartbeats 1000000 in
theorem Parties_any (d : Dl) (lim : Int) (hd : d.ok) (w : World) : Calls Try.prog 21 #[d.val, .int .i64 lim] w fun e w' => e = .returned (.tuple #[.agg (parP d lim), .agg (parQ d lim), .int .i64 (parErr d lim)]) ∧ Ext w w' := by
  have C1 := fun w => checkDeal_any d w
  have C2 := Lib.hid (fun w => parties_any d lim hd w)
  clear hd
  cases hk : d.okB
  · rw [show chkD d = 60 by unfold chkD; rw [hk]; rfl] at C1
    have HV := Lib.hid (par_60 (lim := lim) hk)
    have C1 := Lib.hid C1
    clear hk C2
    go_enter Try.func21, Try.ntmps21
    go_wp2_with (refine wpList_load_row rfl 42 (.tmp 2) rfl (w.heap.size) rfl 42 d.cells (0, 0) _ (((Blk.new w 42 d.cells).alloc _).alloc _) Try.underlying42 rfl (info42 d) ?_)
    change Calls _ _ _ (((w.alloc (.cells d.cells 42)).alloc (.cells Z62 26)).alloc (.cells Z62 26)) _
    refine Calls.ext (C1.out _) fun z1 => ?_
    have H0 := Lib.hid ((((Blk.new w 42 d.cells).alloc (.cells Z62 26)).alloc (.cells Z62 26)).ext z1)
    have H1 := Lib.hid (((Blk.new' (w.alloc (.cells d.cells 42)) 26 Z62 (w.heap.size + 1) (by simp)).alloc (.cells Z62 26)).ext z1)
    have H2 := Lib.hid ((Blk.new' ((w.alloc (.cells d.cells 42)).alloc (.cells Z62 26)) 26 Z62 (w.heap.size + 1 + 1) (by simp)).ext z1)
    have HE := Lib.hid (((((Ext.refl w).alloc (.cells d.cells 42)).alloc (.cells Z62 26)).alloc (.cells Z62 26)).ext z1)
    generalize ext (((w.alloc (.cells d.cells 42)).alloc (.cells Z62 26)).alloc (.cells Z62 26)) z1 = W at *
    have G2 := Lib.hid (H2.out.rowFar (k := w.heap.size + 1) (by omega) Z62)
    have GE := Lib.hid ((HE.out.row (g := w.heap.size + 1) (by omega) Z62).row (g := w.heap.size + 1 + 1) (by omega) Z62)
    have G1 := Lib.hid ((H1.out.row Z62).rowFar (k := w.heap.size + 1 + 1) (by omega) Z62)
    go_wp2_with (first | (refine wpList_build_row rfl 26 [] rfl [] rfl Z62 build26z ?_) | (refine wpList_store_row rfl 26 (.tmp 4) (.tmp 12) rfl (w.heap.size + 1) rfl 26 Z62 Z62 rfl H1.out info26z rfl z62_one ?_) | (refine wpList_store_row rfl 26 (.tmp 5) (.tmp 13) rfl (w.heap.size + 1 + 1) rfl 26 Z62 Z62 rfl G2.out info26z rfl z62_one ?_))
    refine bodyPost_ret (results_cell3 rfl _ _ (w.heap.size + 1) (w.heap.size + 1 + 1) 26 26 Z62 Z62 (0, 0) (0, 0) _ _ rfl rfl G1.out (G2.out.row Z62) Try.underlying26 rfl info26z Try.underlying26 rfl info26z) rfl ⟨ret_of (by rw [HV.out.1, HV.out.2.1, HV.out.2.2]; rfl), GE.out⟩
  · rw [show chkD d = 0 by unfold chkD; rw [hk]; rfl] at C1
    by_cases hl : 0 ≤ lim ∧ lim ≤ 15
    rotate_left
    · have HV := Lib.hid (par_2 hk hl)
      have C1 := Lib.hid C1
      clear hk C2
      by_cases h0 : lim < 0
      · have b0 : decide (lim < 0) = true := by simpa using h0
        clear hl
        go_enter Try.func21, Try.ntmps21
        go_wp2_with (refine wpList_load_row rfl 42 (.tmp 2) rfl (w.heap.size) rfl 42 d.cells (0, 0) _ (((Blk.new w 42 d.cells).alloc _).alloc _) Try.underlying42 rfl (info42 d) ?_)
        change Calls _ _ _ (((w.alloc (.cells d.cells 42)).alloc (.cells Z62 26)).alloc (.cells Z62 26)) _
        refine Calls.ext (C1.out _) fun z1 => ?_
        have H0 := Lib.hid ((((Blk.new w 42 d.cells).alloc (.cells Z62 26)).alloc (.cells Z62 26)).ext z1)
        have H1 := Lib.hid (((Blk.new' (w.alloc (.cells d.cells 42)) 26 Z62 (w.heap.size + 1) (by simp)).alloc (.cells Z62 26)).ext z1)
        have H2 := Lib.hid ((Blk.new' ((w.alloc (.cells d.cells 42)).alloc (.cells Z62 26)) 26 Z62 (w.heap.size + 1 + 1) (by simp)).ext z1)
        have HE := Lib.hid (((((Ext.refl w).alloc (.cells d.cells 42)).alloc (.cells Z62 26)).alloc (.cells Z62 26)).ext z1)
        generalize ext (((w.alloc (.cells d.cells 42)).alloc (.cells Z62 26)).alloc (.cells Z62 26)) z1 = W at *
        have G2 := Lib.hid (H2.out.rowFar (k := w.heap.size + 1) (by omega) Z62)
        have GE := Lib.hid ((HE.out.row (g := w.heap.size + 1) (by omega) Z62).row (g := w.heap.size + 1 + 1) (by omega) Z62)
        have G1 := Lib.hid ((H1.out.row Z62).rowFar (k := w.heap.size + 1 + 1) (by omega) Z62)
        go_wp2_with (first | (refine wpList_build_row rfl 26 [] rfl [] rfl Z62 build26z ?_) | (refine wpList_store_row rfl 26 (.tmp 4) (.tmp 21) rfl (w.heap.size + 1) rfl 26 Z62 Z62 rfl H1.out info26z rfl z62_one ?_) | (refine wpList_store_row rfl 26 (.tmp 5) (.tmp 22) rfl (w.heap.size + 1 + 1) rfl 26 Z62 Z62 rfl G2.out info26z rfl z62_one ?_))
        refine bodyPost_ret (results_cell3 rfl _ _ (w.heap.size + 1) (w.heap.size + 1 + 1) 26 26 Z62 Z62 (0, 0) (0, 0) _ _ rfl rfl G1.out (G2.out.row Z62) Try.underlying26 rfl info26z Try.underlying26 rfl info26z) rfl ⟨ret_of (by rw [HV.out.1, HV.out.2.1, HV.out.2.2]; rfl), GE.out⟩
      · have b0 : decide (lim < 0) = false := by simpa using h0
        have b1 : decide (15 < lim) = true := by simp; omega
        clear hl
        go_enter Try.func21, Try.ntmps21
        go_wp2_with (refine wpList_load_row rfl 42 (.tmp 2) rfl (w.heap.size) rfl 42 d.cells (0, 0) _ (((Blk.new w 42 d.cells).alloc _).alloc _) Try.underlying42 rfl (info42 d) ?_)
        change Calls _ _ _ (((w.alloc (.cells d.cells 42)).alloc (.cells Z62 26)).alloc (.cells Z62 26)) _
        refine Calls.ext (C1.out _) fun z1 => ?_
        have H0 := Lib.hid ((((Blk.new w 42 d.cells).alloc (.cells Z62 26)).alloc (.cells Z62 26)).ext z1)
        have H1 := Lib.hid (((Blk.new' (w.alloc (.cells d.cells 42)) 26 Z62 (w.heap.size + 1) (by simp)).alloc (.cells Z62 26)).ext z1)
        have H2 := Lib.hid ((Blk.new' ((w.alloc (.cells d.cells 42)).alloc (.cells Z62 26)) 26 Z62 (w.heap.size + 1 + 1) (by simp)).ext z1)
        have HE := Lib.hid (((((Ext.refl w).alloc (.cells d.cells 42)).alloc (.cells Z62 26)).alloc (.cells Z62 26)).ext z1)
        generalize ext (((w.alloc (.cells d.cells 42)).alloc (.cells Z62 26)).alloc (.cells Z62 26)) z1 = W at *
        have G2 := Lib.hid (H2.out.rowFar (k := w.heap.size + 1) (by omega) Z62)
        have GE := Lib.hid ((HE.out.row (g := w.heap.size + 1) (by omega) Z62).row (g := w.heap.size + 1 + 1) (by omega) Z62)
        have G1 := Lib.hid ((H1.out.row Z62).rowFar (k := w.heap.size + 1 + 1) (by omega) Z62)
        go_wp2_with (first | (refine wpList_build_row rfl 26 [] rfl [] rfl Z62 build26z ?_) | (refine wpList_store_row rfl 26 (.tmp 4) (.tmp 21) rfl (w.heap.size + 1) rfl 26 Z62 Z62 rfl H1.out info26z rfl z62_one ?_) | (refine wpList_store_row rfl 26 (.tmp 5) (.tmp 22) rfl (w.heap.size + 1 + 1) rfl 26 Z62 Z62 rfl G2.out info26z rfl z62_one ?_))
        refine bodyPost_ret (results_cell3 rfl _ _ (w.heap.size + 1) (w.heap.size + 1 + 1) 26 26 Z62 Z62 (0, 0) (0, 0) _ _ rfl rfl G1.out (G2.out.row Z62) Try.underlying26 rfl info26z Try.underlying26 rfl info26z) rfl ⟨ret_of (by rw [HV.out.1, HV.out.2.1, HV.out.2.2]; rfl), GE.out⟩
    · have HV := Lib.hid (par_0 hk hl)
      have C1 := Lib.hid C1
      clear hk
      have b0 : decide (lim < 0) = false := by simp; omega
      have b1 : decide (15 < lim) = false := by simp; omega
      clear hl
      go_enter Try.func21, Try.ntmps21
      go_wp2_with (refine wpList_load_row rfl 42 (.tmp 2) rfl (w.heap.size) rfl 42 d.cells (0, 0) _ (((Blk.new w 42 d.cells).alloc _).alloc _) Try.underlying42 rfl (info42 d) ?_)
      change Calls _ _ _ (((w.alloc (.cells d.cells 42)).alloc (.cells Z62 26)).alloc (.cells Z62 26)) _
      refine Calls.ext (C1.out _) fun z1 => ?_
      have H0 := Lib.hid ((((Blk.new w 42 d.cells).alloc (.cells Z62 26)).alloc (.cells Z62 26)).ext z1)
      have H1 := Lib.hid (((Blk.new' (w.alloc (.cells d.cells 42)) 26 Z62 (w.heap.size + 1) (by simp)).alloc (.cells Z62 26)).ext z1)
      have H2 := Lib.hid ((Blk.new' ((w.alloc (.cells d.cells 42)).alloc (.cells Z62 26)) 26 Z62 (w.heap.size + 1 + 1) (by simp)).ext z1)
      have HE := Lib.hid (((((Ext.refl w).alloc (.cells d.cells 42)).alloc (.cells Z62 26)).alloc (.cells Z62 26)).ext z1)
      generalize ext (((w.alloc (.cells d.cells 42)).alloc (.cells Z62 26)).alloc (.cells Z62 26)) z1 = W at *
      go_wp2_with (refine wpList_load_row rfl 42 (.tmp 2) rfl (w.heap.size) rfl 42 d.cells (0, 0) _ H0.out Try.underlying42 rfl (info42 d) ?_)
      refine Calls.ext (C2.out _) fun z2 => ?_
      have J1 := Lib.hid (H1.out.ext z2)
      have J2 := Lib.hid ((H2.out.ext z2).rowFar (k := w.heap.size + 1) (by omega) (ptyP d).cells)
      have K1 := Lib.hid (((H1.out.ext z2).row (ptyP d).cells).rowFar (k := w.heap.size + 1 + 1) (by omega) (ptyQ d lim).cells)
      have K2 := Lib.hid (((H2.out.ext z2).rowFar (k := w.heap.size + 1) (by omega) (ptyP d).cells).row (ptyQ d lim).cells)
      have KE := Lib.hid (((HE.out.ext z2).row (g := w.heap.size + 1) (by omega) (ptyP d).cells).row (g := w.heap.size + 1 + 1) (by omega) (ptyQ d lim).cells)
      go_wp2_with (first | (refine wpList_store_row rfl 26 (.tmp 4) (.tmp 27) rfl (w.heap.size + 1) rfl 26 Z62 (ptyP d).cells rfl J1.out (info26 _) (z62_size _) pty_one ?_) | (refine wpList_store_row rfl 26 (.tmp 5) (.tmp 28) rfl (w.heap.size + 1 + 1) rfl 26 Z62 (ptyQ d lim).cells rfl J2.out (info26 _) (z62_size _) pty_one ?_))
      generalize ((ext W z2).setRow (w.heap.size + 1) (ptyP d).cells).setRow (w.heap.size + 1 + 1) (ptyQ d lim).cells = V3 at *
      refine wp_region_rel1 (R := R2 (w.heap.size + 1) (w.heap.size + 1 + 1) 26 26 (ptyP d).cells (ptyQ d lim).cells) (Vof [isV (ptyP d).val, isV (ptyQ d lim).val, isW (w.heap.size + 1) 26 (ptyP d).cells, isW (w.heap.size + 1 + 1) 26 (ptyQ d lim).cells, isV (.int .i64 0)]) (by kernel_rfl) (by kernel_rfl) R2.refl R2.trans (Vof_monoR (by
        intro p hp
        simp only [List.mem_cons, List.not_mem_nil, or_false] at hp
        rcases hp with rfl | rfl | rfl | rfl | rfl
        all_goals first | exact isV_monoR _ _ | exact isW_one | exact isW_two)) ?op ?fin
      case op =>
        intro i o ho a V2 _ _ hfrm hE0 hdep
        have hE : R2 (w.heap.size + 1) (w.heap.size + 1 + 1) 26 26 (ptyP d).cells (ptyQ d lim).cells V3 V2 := R2.trans _ _ _ (R2.of_ext ((Ext.refl V3).drew)) hE0
        match i, ho with
        | 0, ho =>
          injection ho with ho
          subst ho
          have e1 : a.tmps[4]?.getD undef = .pointer (some ⟨w.heap.size + 1, 0, none⟩) := slot_of (hfrm 4 (frm_of 4 (by kernel_rfl)))
          have hb : Blk V2 (w.heap.size + 1) 26 ((ptyP d).cells) := (hE.one _ K1.out).elim id id
          exact two_row rfl 26 (.tmp 4) rfl _ (by simpa [Act.eval] using e1) 26 (ptyP d).cells _ hb Try.underlying26 rfl (info26 _) rfl
        | 1, ho =>
          injection ho with ho
          subst ho
          have e1 : a.tmps[5]?.getD undef = .pointer (some ⟨w.heap.size + 1 + 1, 0, none⟩) := slot_of (hfrm 5 (frm_of 5 (by kernel_rfl)))
          have hb : Blk V2 (w.heap.size + 1 + 1) 26 ((ptyQ d lim).cells) := (hE.two _ K2.out).elim id id
          exact two_row rfl 26 (.tmp 5) rfl _ (by simpa [Act.eval] using e1) 26 (ptyQ d lim).cells _ hb Try.underlying26 rfl (info26 _) rfl
        | 2, ho =>
          injection ho with ho
          subst ho
          have e1 : a.tmps[4]?.getD undef = .pointer (some ⟨w.heap.size + 1, 0, none⟩) := slot_of (hfrm 4 (frm_of 4 (by kernel_rfl)))
          have e2 : a.tmps[29]?.getD undef = (ptyP d).val := slot_of (hdep ⟨0, .data⟩ (by simp) (by kernel_rfl))
          have hb : Blk V2 (w.heap.size + 1) 26 ((ptyP d).cells) := (hE.one _ K1.out).elim id id
          exact two_store1 (by omega) rfl 26 (.tmp 4) (.tmp 29) rfl (by simpa [Act.eval] using e1) (by simpa [Act.eval] using e2) _ hb rfl (info26 _) pty_one (fun _ h => h)
        | 3, ho =>
          injection ho with ho
          subst ho
          have e1 : a.tmps[5]?.getD undef = .pointer (some ⟨w.heap.size + 1 + 1, 0, none⟩) := slot_of (hfrm 5 (frm_of 5 (by kernel_rfl)))
          have e2 : a.tmps[30]?.getD undef = (ptyQ d lim).val := slot_of (hdep ⟨1, .data⟩ (by simp) (by kernel_rfl))
          have hb : Blk V2 (w.heap.size + 1 + 1) 26 ((ptyQ d lim).cells) := (hE.two _ K2.out).elim id id
          exact two_store2 (by omega) rfl 26 (.tmp 5) (.tmp 30) rfl (by simpa [Act.eval] using e1) (by simpa [Act.eval] using e2) _ hb rfl (info26 _) pty_one (fun _ h => h)
        | 4, ho =>
          injection ho with ho
          subst ho
          exact two_val rfl (by simp [execOp, go_sem]) rfl
        | k + 5, ho => exact absurd (List.getElem?_eq_some_iff.1 ho).1 (by simp)
      case fin =>
        intro vs V4 hE0 hvs
        have hE : R2 (w.heap.size + 1) (w.heap.size + 1 + 1) 26 26 (ptyP d).cells (ptyQ d lim).cells V3 V4 := R2.trans _ _ _ (R2.of_ext ((Ext.refl V3).drew)) hE0
        have s1 : Blk V4 (w.heap.size + 1) 26 (ptyP d).cells := hvs 2 (by simp)
        have s2 : Blk V4 (w.heap.size + 1 + 1) 26 (ptyQ d lim).cells := hvs 3 (by simp)
        have s3 : vs 4 = .int .i64 0 := hvs 4 (by simp)
        have LE := Lib.hid (hE.below KE.out (by omega) (by omega))
        clear hvs hE0 hE
        simp [putAll, Act.put, s3]
        go_wp2_with fail
        exact bodyPost_ret (results_cell3 rfl _ _ (w.heap.size + 1) (w.heap.size + 1 + 1) 26 26 (ptyP d).cells (ptyQ d lim).cells (0, 0) (0, 0) _ _ rfl rfl s1 s2 Try.underlying26 rfl (info26 _) Try.underlying26 rfl (info26 _)) rfl ⟨ret_of (by rw [HV.out.1, HV.out.2.1, HV.out.2.2]; rfl), LE.out⟩
end Go.Proofs.Ytfdcapblgdlkaaa
