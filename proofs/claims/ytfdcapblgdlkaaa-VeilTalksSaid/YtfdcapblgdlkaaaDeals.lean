/- What a valid deal gives to two parties. -/
import Derived.Test.YtfdcapblgdlkaaaTwo
import Derived.Test.YtfdcapblgdlkaaaOther
namespace Go.Proofs.Ytfdcapblgdlkaaa
open Go.RowKit

def Z62 : Array Value := #[.int .u8 0, .int .u8 0, .int .u8 0, .int .u8 0, .int .u8 0, .int .u8 0, .int .u8 0, .int .u8 0, .int .u8 0, .int .u8 0, .int .u8 0, .int .u8 0, .int .u8 0, .int .u8 0, .int .u8 0, .int .u8 0, .int .u8 0, .int .u8 0, .int .u8 0, .int .u8 0, .int .u8 0, .int .u8 0, .int .u8 0, .int .u8 0, .int .u8 0, .int .u8 0, .int .u8 0, .int .u8 0, .int .u8 0, .int .u8 0, .int .u8 0, .int .u32 0, .int .u32 0, .int .u32 0, .int .u32 0, .int .u32 0, .int .u32 0, .int .u32 0, .int .u32 0, .int .u32 0, .int .u32 0, .int .u32 0, .int .u32 0, .int .u32 0, .int .u32 0, .int .u32 0, .int .u32 0, .int .u32 0, .int .u32 0, .int .u32 0, .int .u32 0, .int .u32 0, .int .u32 0, .int .u32 0, .int .u32 0, .int .u32 0, .int .u32 0, .int .u32 0, .int .u32 0, .int .u32 0, .int .u32 0, .int .u32 0]
theorem z62_size (p : Pty) : Z62.size = p.cells.size := by rw [Pty.size]; rfl
theorem pty_one {p : Pty} : p.cells.all (·.oneCell') = true := by
  unfold Pty.cells
  rw [Array.all_append, Array.all_append, Array.all_append, A15_one, A15_one, A31_one]
  simp [Value.oneCell']
theorem share_eq (d : Dl) : (fun i => ((d.a i * d.b i) % 31 - d.u i) % 31) = (fun i => (d.a i * d.b i - d.u i) % 31) := by
  funext i
  generalize d.a i * d.b i = e
  omega
set_option maxRecDepth 100000 in
set_option maxHeartbeats 400000 in
theorem parties_any (d : Dl) (lim : Int) (hd : d.ok) (w : World) : Calls Try.prog 58 #[d.val, .int .i64 lim] w fun e w' => e = .returned (.tuple #[(ptyP d).val, (ptyQ d lim).val]) ∧ Ext w w' := by
  have hda := hd.a
  have hdb := hd.b
  have hdu := hd.u
  have CT := fun w => other_any d.t d.rc d.rs lim hd.t hd.rc hd.rs w
  have hFT : ∀ i, i < 15 → 0 ≤ (fun i => (d.a i * d.b i) % 31) i ∧ (fun i => (d.a i * d.b i) % 31) i < 256 := fun i _ => by show 0 ≤ (d.a i * d.b i) % 31 ∧ (d.a i * d.b i) % 31 < 256; omega
  have CS := fun w => share_eq d ▸ eachMinus_any (fun i => (d.a i * d.b i) % 31) d.u hFT hdu w
  go_enter Try.func58, Try.ntmps58
  go_wp2_with fail
  have H0 := Lib.hid (((Blk.new w 42 d.cells).alloc (.cells Z62 26)).alloc (.cells Z62 26))
  have H1 := Lib.hid ((Blk.new' (w.alloc (.cells d.cells 42)) 26 Z62 (w.heap.size + 1) (by simp)).alloc (.cells Z62 26))
  have H2 := Lib.hid (Blk.new' ((w.alloc (.cells d.cells 42)).alloc (.cells Z62 26)) 26 Z62 (w.heap.size + 1 + 1) (by simp))
  have HE := Lib.hid ((((Ext.refl w).alloc (.cells d.cells 42)).alloc (.cells Z62 26)).alloc (.cells Z62 26))
  change Code.wp _ _ _ _ (((w.alloc (.cells d.cells 42)).alloc (.cells Z62 26)).alloc (.cells Z62 26))
  generalize ((w.alloc (.cells d.cells 42)).alloc (.cells Z62 26)).alloc (.cells Z62 26) = W at *
  refine wp_region_rel2 9 _ rfl (Vof [isV (.pointer (some ⟨w.heap.size, 0, none⟩)), isV (.agg (A15 d.a)), isV (.pointer (some ⟨w.heap.size, 15, none⟩)), isV (.agg (A15 d.b)), isV (.agg (A15 (fun i => (d.a i * d.b i) % 31))), isV (.pointer (some ⟨w.heap.size, 30, none⟩)), isV (.agg (A15 d.u)), isV (.agg (A15 (fun i => (d.a i * d.b i - d.u i) % 31))), isB (w.heap.size + 1 + 1 + 1) 22 Z15]) (by kernel_rfl) (by kernel_rfl) (Vof_mono (by simp [isV_mono, isB_mono])) ?op ?last
  case op =>
    intro i o ho a V2 _ _ hfrm hE0 hdep
    have hE : Ext W V2 := Ext.trans ((Ext.refl W).drew) hE0
    match i, ho with
    | 0, ho =>
      injection ho with ho
      subst ho
      have e1 : a.tmps[2]?.getD undef = .pointer (some ⟨w.heap.size, 0, none⟩) := slot_of (hfrm 2 (frm_of 2 (by kernel_rfl)))
      exact rel_val (by simp [execOp, go_sem, e1]) rfl
    | 1, ho =>
      injection ho with ho
      subst ho
      have e1 : a.tmps[7]?.getD undef = .pointer (some ⟨w.heap.size, 0, none⟩) := slot_of (hdep ⟨0, .data⟩ (by simp) (by kernel_rfl) 7 (by kernel_rfl))
      exact rel_load 22 (.tmp 7) rfl (w.heap.size) 0 (by simpa [Act.eval] using e1) 15 (u8V d.a) _ (cut_a (H0.out.grow hE)) Try.underlying22 rfl info22 rfl
    | 2, ho =>
      injection ho with ho
      subst ho
      have e1 : a.tmps[2]?.getD undef = .pointer (some ⟨w.heap.size, 0, none⟩) := slot_of (hfrm 2 (frm_of 2 (by kernel_rfl)))
      exact rel_val (by simp [execOp, go_sem, e1]) rfl
    | 3, ho =>
      injection ho with ho
      subst ho
      have e1 : a.tmps[9]?.getD undef = .pointer (some ⟨w.heap.size, 15, none⟩) := slot_of (hdep ⟨2, .data⟩ (by simp) (by kernel_rfl) 9 (by kernel_rfl))
      exact rel_load 22 (.tmp 9) rfl (w.heap.size) 15 (by simpa [Act.eval] using e1) 15 (u8V d.b) _ (cut_b (H0.out.grow hE)) Try.underlying22 rfl info22 rfl
    | 4, ho =>
      injection ho with ho
      subst ho
      have e1 : a.tmps[8]?.getD undef = .agg (A15 d.a) := slot_of (hdep ⟨1, .data⟩ (by simp) (by kernel_rfl) 8 (by kernel_rfl))
      have e2 : a.tmps[10]?.getD undef = .agg (A15 d.b) := slot_of (hdep ⟨3, .data⟩ (by simp) (by kernel_rfl) 10 (by kernel_rfl))
      exact rel_call 60 [.func 63, .tmp 8, .tmp 10] #[98, 22, 22] rfl (by kernel_rfl) [.func (.func 63) #[] #[], .agg (A15 d.a), .agg (A15 d.b)] (by simp [Act.eval, e1, e2]) (ret_val (eachTimes_any d.a d.b hda hdb _))
    | 5, ho =>
      injection ho with ho
      subst ho
      have e1 : a.tmps[2]?.getD undef = .pointer (some ⟨w.heap.size, 0, none⟩) := slot_of (hfrm 2 (frm_of 2 (by kernel_rfl)))
      exact rel_val (by simp [execOp, go_sem, e1]) rfl
    | 6, ho =>
      injection ho with ho
      subst ho
      have e1 : a.tmps[12]?.getD undef = .pointer (some ⟨w.heap.size, 30, none⟩) := slot_of (hdep ⟨5, .data⟩ (by simp) (by kernel_rfl) 12 (by kernel_rfl))
      exact rel_load 22 (.tmp 12) rfl (w.heap.size) 30 (by simpa [Act.eval] using e1) 15 (u8V d.u) _ (cut_u (H0.out.grow hE)) Try.underlying22 rfl info22 rfl
    | 7, ho =>
      injection ho with ho
      subst ho
      have e1 : a.tmps[11]?.getD undef = .agg (A15 (fun i => (d.a i * d.b i) % 31)) := slot_of (hdep ⟨4, .data⟩ (by simp) (by kernel_rfl) 11 (by kernel_rfl))
      have e2 : a.tmps[13]?.getD undef = .agg (A15 d.u) := slot_of (hdep ⟨6, .data⟩ (by simp) (by kernel_rfl) 13 (by kernel_rfl))
      exact rel_call 60 [.func 61, .tmp 11, .tmp 13] #[98, 22, 22] rfl (by kernel_rfl) [.func (.func 61) #[] #[], .agg (A15 (fun i => (d.a i * d.b i) % 31)), .agg (A15 d.u)] (by simp [Act.eval, e1, e2]) (ret_val (CS _))
    | 8, ho =>
      injection ho with ho
      subst ho
      have hsz : w.heap.size + 1 + 1 + 1 ≤ V2.heap.size := (H2.out.grow hE).lt
      simp [Oper.wp, execOp, go_sem]
      exact ⟨_, rfl, ⟨_, rfl, hsz, Blk.new _ _ Z15⟩, (Ext.refl _).alloc _⟩
    | k + 9, ho => exact absurd (List.getElem?_eq_some_iff.1 ho).1 (by simp)
  case last =>
    intro vs V2 hE0 hvs
    have hE : Ext W V2 := Ext.trans ((Ext.refl W).drew) hE0
    have s7 : vs 7 = .agg (A15 (fun i => (d.a i * d.b i - d.u i) % 31)) := hvs 7 (by simp)
    have h8 : isB (w.heap.size + 1 + 1 + 1) 22 Z15 (vs 8) V2 := hvs 8 (by simp)
    clear hvs hE0
    unfold isB at h8
    cases h8 with
    | intro g hh =>
    have s8 := hh.1
    have hg := hh.2.1
    have hG := hh.2.2
    clear hh
    have I0 := Lib.hid ((H0.out.grow hE).rowFar (k := g) (by omega) (A15 (fun i => (d.a i * d.b i - d.u i) % 31)))
    have I1 := Lib.hid ((H1.out.grow hE).rowFar (k := g) (by omega) (A15 (fun i => (d.a i * d.b i - d.u i) % 31)))
    have I2 := Lib.hid ((H2.out.grow hE).rowFar (k := g) (by omega) (A15 (fun i => (d.a i * d.b i - d.u i) % 31)))
    have I3 := Lib.hid (hG.row (A15 (fun i => (d.a i * d.b i - d.u i) % 31)))
    have IE := Lib.hid ((Ext.trans HE.out hE).row (g := g) (by omega) (A15 (fun i => (d.a i * d.b i - d.u i) % 31)))
    simp [putAll, Act.put, s7, s8]
    refine wp_store_row 22 (.tmp 6) (.tmp 14) rfl g (A15 (fun i => (d.a i * d.b i - d.u i) % 31)) (by simp [Act.eval]) (by simp [Act.eval]) 22 Z15 hG info22 rfl A15_one ?_
    clear s7 s8 hE
    generalize V2.setRow g (A15 (fun i => (d.a i * d.b i - d.u i) % 31)) = V3 at *
    simp [Act.put]
    go_wp2_with fail
    refine wp_region_rel1 (R := R2 (w.heap.size + 1) (w.heap.size + 1 + 1) 26 26 (ptyP d).cells (ptyQ d lim).cells) (Vof [isV (.pointer (some ⟨w.heap.size, 0, none⟩)), isV (.agg (A15 d.a)), isV (.pointer (some ⟨w.heap.size, 30, none⟩)), isV (.agg (A15 d.u)), isV (.pointer (some ⟨w.heap.size, 45, none⟩)), isV (.int .u8 d.rc), isV (.pointer (some ⟨w.heap.size, 47, none⟩)), isV (.agg (A31 d.t)), isV (ptyP d).val, isV (.pointer (some ⟨w.heap.size, 15, none⟩)), isV (.agg (A15 d.b)), isV (.agg (A15 (fun i => (d.a i * d.b i - d.u i) % 31))), isV (.pointer (some ⟨w.heap.size, 46, none⟩)), isV (.int .u8 d.rs), isV (.pointer (some ⟨w.heap.size, 47, none⟩)), isV (.agg (A31 d.t)), isV (.pointer (some ⟨w.heap.size, 45, none⟩)), isV (.int .u8 d.rc), isV (.pointer (some ⟨w.heap.size, 46, none⟩)), isV (.int .u8 d.rs), isV (.int .i64 lim), isV (.agg (A31 (tabO d.t d.rc d.rs lim))), isV (ptyQ d lim).val, isW (w.heap.size + 1) 26 (ptyP d).cells, isW (w.heap.size + 1 + 1) 26 (ptyQ d lim).cells]) (by kernel_rfl) (by kernel_rfl) R2.refl R2.trans (Vof_monoR (by
      intro p hp
      simp only [List.mem_cons, List.not_mem_nil, or_false] at hp
      rcases hp with rfl | rfl | rfl | rfl | rfl | rfl | rfl | rfl | rfl | rfl | rfl | rfl | rfl | rfl | rfl | rfl | rfl | rfl | rfl | rfl | rfl | rfl | rfl | rfl | rfl
      all_goals first | exact isV_monoR _ _ | exact isW_one | exact isW_two)) ?op ?fin
    case op =>
      intro i o ho a V2 _ _ hfrm hE0 hdep
      have hE : R2 (w.heap.size + 1) (w.heap.size + 1 + 1) 26 26 (ptyP d).cells (ptyQ d lim).cells V3 V2 := R2.trans _ _ _ (R2.of_ext ((Ext.refl V3).drew)) hE0
      match i, ho with
      | 0, ho =>
        injection ho with ho
        subst ho
        have e1 : a.tmps[2]?.getD undef = .pointer (some ⟨w.heap.size, 0, none⟩) := slot_of (hfrm 2 (frm_of 2 (by kernel_rfl)))
        exact two_val rfl (by simp [execOp, go_sem, e1]) rfl
      | 1, ho =>
        injection ho with ho
        subst ho
        have e1 : a.tmps[15]?.getD undef = .pointer (some ⟨w.heap.size, 0, none⟩) := slot_of (hdep ⟨0, .data⟩ (by simp) (by kernel_rfl))
        exact two_load rfl 22 (.tmp 15) rfl (w.heap.size) 0 (by simpa [Act.eval] using e1) 15 (u8V d.a) _ (cut_a (hE.blk I0.out (by omega) (by omega))) Try.underlying22 rfl info22 rfl
      | 2, ho =>
        injection ho with ho
        subst ho
        have e1 : a.tmps[2]?.getD undef = .pointer (some ⟨w.heap.size, 0, none⟩) := slot_of (hfrm 2 (frm_of 2 (by kernel_rfl)))
        exact two_val rfl (by simp [execOp, go_sem, e1]) rfl
      | 3, ho =>
        injection ho with ho
        subst ho
        have e1 : a.tmps[17]?.getD undef = .pointer (some ⟨w.heap.size, 30, none⟩) := slot_of (hdep ⟨2, .data⟩ (by simp) (by kernel_rfl))
        exact two_load rfl 22 (.tmp 17) rfl (w.heap.size) 30 (by simpa [Act.eval] using e1) 15 (u8V d.u) _ (cut_u (hE.blk I0.out (by omega) (by omega))) Try.underlying22 rfl info22 rfl
      | 4, ho =>
        injection ho with ho
        subst ho
        have e1 : a.tmps[2]?.getD undef = .pointer (some ⟨w.heap.size, 0, none⟩) := slot_of (hfrm 2 (frm_of 2 (by kernel_rfl)))
        exact two_val rfl (by simp [execOp, go_sem, e1]) rfl
      | 5, ho =>
        injection ho with ho
        subst ho
        have e1 : a.tmps[19]?.getD undef = .pointer (some ⟨w.heap.size, 45, none⟩) := slot_of (hdep ⟨4, .data⟩ (by simp) (by kernel_rfl))
        have c1 : V2.cell? ⟨w.heap.size, 45, none⟩ = some (.int .u8 d.rc) := cut_rc (hE.blk I0.out (by omega) (by omega))
        exact two_val rfl (by simp [execOp, go_sem, e1, c1]) rfl
      | 6, ho =>
        injection ho with ho
        subst ho
        have e1 : a.tmps[2]?.getD undef = .pointer (some ⟨w.heap.size, 0, none⟩) := slot_of (hfrm 2 (frm_of 2 (by kernel_rfl)))
        exact two_val rfl (by simp [execOp, go_sem, e1]) rfl
      | 7, ho =>
        injection ho with ho
        subst ho
        have e1 : a.tmps[21]?.getD undef = .pointer (some ⟨w.heap.size, 47, none⟩) := slot_of (hdep ⟨6, .data⟩ (by simp) (by kernel_rfl))
        exact two_load rfl 24 (.tmp 21) rfl (w.heap.size) 47 (by simpa [Act.eval] using e1) 31 (u32V d.t) _ (cut_t (hE.blk I0.out (by omega) (by omega))) Try.underlying24 rfl info24 rfl
      | 8, ho =>
        injection ho with ho
        subst ho
        have e1 : a.tmps[16]?.getD undef = .agg (A15 d.a) := slot_of (hdep ⟨1, .data⟩ (by simp) (by kernel_rfl))
        have e2 : a.tmps[18]?.getD undef = .agg (A15 d.u) := slot_of (hdep ⟨3, .data⟩ (by simp) (by kernel_rfl))
        have e3 : a.tmps[20]?.getD undef = .int .u8 d.rc := slot_of (hdep ⟨5, .data⟩ (by simp) (by kernel_rfl))
        have e4 : a.tmps[22]?.getD undef = .agg (A31 d.t) := slot_of (hdep ⟨7, .data⟩ (by simp) (by kernel_rfl))
        exact two_build rfl 26 [(0, .tmp 16), (1, .tmp 18), (2, .tmp 20), (3, .tmp 22)] rfl [(0, .agg (A15 d.a)), (1, .agg (A15 d.u)), (2, .int .u8 d.rc), (3, .agg (A31 d.t))] (by simp [Act.eval, e1, e2, e3, e4]) _ (build26 d.a d.u d.rc d.t) rfl
      | 9, ho =>
        injection ho with ho
        subst ho
        have e1 : a.tmps[2]?.getD undef = .pointer (some ⟨w.heap.size, 0, none⟩) := slot_of (hfrm 2 (frm_of 2 (by kernel_rfl)))
        exact two_val rfl (by simp [execOp, go_sem, e1]) rfl
      | 10, ho =>
        injection ho with ho
        subst ho
        have e1 : a.tmps[24]?.getD undef = .pointer (some ⟨w.heap.size, 15, none⟩) := slot_of (hdep ⟨9, .data⟩ (by simp) (by kernel_rfl))
        exact two_load rfl 22 (.tmp 24) rfl (w.heap.size) 15 (by simpa [Act.eval] using e1) 15 (u8V d.b) _ (cut_b (hE.blk I0.out (by omega) (by omega))) Try.underlying22 rfl info22 rfl
      | 11, ho =>
        injection ho with ho
        subst ho
        have e1 : a.tmps[6]?.getD undef = .pointer (some ⟨g, 0, none⟩) := slot_of (hfrm 6 (frm_of 6 (by kernel_rfl)))
        exact two_load rfl 22 (.tmp 6) rfl (g) 0 (by simpa [Act.eval] using e1) 15 (u8V (fun i => (d.a i * d.b i - d.u i) % 31)) _ (fun j hj => by rw [Nat.zero_add]; exact ((hE.blk I3.out (by omega) (by omega)).cell j).trans (A15_at _ j hj)) Try.underlying22 rfl info22 rfl
      | 12, ho =>
        injection ho with ho
        subst ho
        have e1 : a.tmps[2]?.getD undef = .pointer (some ⟨w.heap.size, 0, none⟩) := slot_of (hfrm 2 (frm_of 2 (by kernel_rfl)))
        exact two_val rfl (by simp [execOp, go_sem, e1]) rfl
      | 13, ho =>
        injection ho with ho
        subst ho
        have e1 : a.tmps[27]?.getD undef = .pointer (some ⟨w.heap.size, 46, none⟩) := slot_of (hdep ⟨12, .data⟩ (by simp) (by kernel_rfl))
        have c1 : V2.cell? ⟨w.heap.size, 46, none⟩ = some (.int .u8 d.rs) := cut_rs (hE.blk I0.out (by omega) (by omega))
        exact two_val rfl (by simp [execOp, go_sem, e1, c1]) rfl
      | 14, ho =>
        injection ho with ho
        subst ho
        have e1 : a.tmps[2]?.getD undef = .pointer (some ⟨w.heap.size, 0, none⟩) := slot_of (hfrm 2 (frm_of 2 (by kernel_rfl)))
        exact two_val rfl (by simp [execOp, go_sem, e1]) rfl
      | 15, ho =>
        injection ho with ho
        subst ho
        have e1 : a.tmps[29]?.getD undef = .pointer (some ⟨w.heap.size, 47, none⟩) := slot_of (hdep ⟨14, .data⟩ (by simp) (by kernel_rfl))
        exact two_load rfl 24 (.tmp 29) rfl (w.heap.size) 47 (by simpa [Act.eval] using e1) 31 (u32V d.t) _ (cut_t (hE.blk I0.out (by omega) (by omega))) Try.underlying24 rfl info24 rfl
      | 16, ho =>
        injection ho with ho
        subst ho
        have e1 : a.tmps[2]?.getD undef = .pointer (some ⟨w.heap.size, 0, none⟩) := slot_of (hfrm 2 (frm_of 2 (by kernel_rfl)))
        exact two_val rfl (by simp [execOp, go_sem, e1]) rfl
      | 17, ho =>
        injection ho with ho
        subst ho
        have e1 : a.tmps[31]?.getD undef = .pointer (some ⟨w.heap.size, 45, none⟩) := slot_of (hdep ⟨16, .data⟩ (by simp) (by kernel_rfl))
        have c1 : V2.cell? ⟨w.heap.size, 45, none⟩ = some (.int .u8 d.rc) := cut_rc (hE.blk I0.out (by omega) (by omega))
        exact two_val rfl (by simp [execOp, go_sem, e1, c1]) rfl
      | 18, ho =>
        injection ho with ho
        subst ho
        have e1 : a.tmps[2]?.getD undef = .pointer (some ⟨w.heap.size, 0, none⟩) := slot_of (hfrm 2 (frm_of 2 (by kernel_rfl)))
        exact two_val rfl (by simp [execOp, go_sem, e1]) rfl
      | 19, ho =>
        injection ho with ho
        subst ho
        have e1 : a.tmps[33]?.getD undef = .pointer (some ⟨w.heap.size, 46, none⟩) := slot_of (hdep ⟨18, .data⟩ (by simp) (by kernel_rfl))
        have c1 : V2.cell? ⟨w.heap.size, 46, none⟩ = some (.int .u8 d.rs) := cut_rs (hE.blk I0.out (by omega) (by omega))
        exact two_val rfl (by simp [execOp, go_sem, e1, c1]) rfl
      | 20, ho =>
        injection ho with ho
        subst ho
        have e1 : a.tmps[1]?.getD undef = .int .i64 lim := slot_of (hfrm 1 (frm_of 1 (by kernel_rfl)))
        exact two_val rfl (by simp [execOp, go_sem, e1]) rfl
      | 21, ho =>
        injection ho with ho
        subst ho
        have e1 : a.tmps[30]?.getD undef = .agg (A31 d.t) := slot_of (hdep ⟨15, .data⟩ (by simp) (by kernel_rfl))
        have e2 : a.tmps[32]?.getD undef = .int .u8 d.rc := slot_of (hdep ⟨17, .data⟩ (by simp) (by kernel_rfl))
        have e3 : a.tmps[34]?.getD undef = .int .u8 d.rs := slot_of (hdep ⟨19, .data⟩ (by simp) (by kernel_rfl))
        have e4 : a.tmps[35]?.getD undef = .int .i64 lim := slot_of (hdep ⟨20, .data⟩ (by simp) (by kernel_rfl))
        exact two_call rfl 65 [.tmp 30, .tmp 32, .tmp 34, .tmp 35] #[24, 5, 5, 3] rfl (by kernel_rfl) [.agg (A31 d.t), .int .u8 d.rc, .int .u8 d.rs, .int .i64 lim] (by simp [Act.eval, e1, e2, e3, e4]) (CT _) (fun _ => rfl)
      | 22, ho =>
        injection ho with ho
        subst ho
        have e1 : a.tmps[25]?.getD undef = .agg (A15 d.b) := slot_of (hdep ⟨10, .data⟩ (by simp) (by kernel_rfl))
        have e2 : a.tmps[26]?.getD undef = .agg (A15 (fun i => (d.a i * d.b i - d.u i) % 31)) := slot_of (hdep ⟨11, .data⟩ (by simp) (by kernel_rfl))
        have e3 : a.tmps[28]?.getD undef = .int .u8 d.rs := slot_of (hdep ⟨13, .data⟩ (by simp) (by kernel_rfl))
        have e4 : a.tmps[36]?.getD undef = .agg (A31 (tabO d.t d.rc d.rs lim)) := slot_of (hdep ⟨21, .data⟩ (by simp) (by kernel_rfl))
        exact two_build rfl 26 [(0, .tmp 25), (1, .tmp 26), (2, .tmp 28), (3, .tmp 36)] rfl [(0, .agg (A15 d.b)), (1, .agg (A15 (fun i => (d.a i * d.b i - d.u i) % 31))), (2, .int .u8 d.rs), (3, .agg (A31 (tabO d.t d.rc d.rs lim)))] (by simp [Act.eval, e1, e2, e3, e4]) _ (build26 d.b (fun i => (d.a i * d.b i - d.u i) % 31) d.rs (tabO d.t d.rc d.rs lim)) rfl
      | 23, ho =>
        injection ho with ho
        subst ho
        have e1 : a.tmps[4]?.getD undef = .pointer (some ⟨w.heap.size + 1, 0, none⟩) := slot_of (hfrm 4 (frm_of 4 (by kernel_rfl)))
        have e2 : a.tmps[23]?.getD undef = (ptyP d).val := slot_of (hdep ⟨8, .data⟩ (by simp) (by kernel_rfl))
        rcases hE.one _ I1.out with hb | hb
        · exact two_store1 (by omega) rfl 26 (.tmp 4) (.tmp 23) rfl (by simpa [Act.eval] using e1) (by simpa [Act.eval] using e2) Z62 hb (z62_size _) (info26 _) pty_one (fun _ h => h)
        · exact two_store1 (by omega) rfl 26 (.tmp 4) (.tmp 23) rfl (by simpa [Act.eval] using e1) (by simpa [Act.eval] using e2) _ hb rfl (info26 _) pty_one (fun _ h => h)
      | 24, ho =>
        injection ho with ho
        subst ho
        have e1 : a.tmps[5]?.getD undef = .pointer (some ⟨w.heap.size + 1 + 1, 0, none⟩) := slot_of (hfrm 5 (frm_of 5 (by kernel_rfl)))
        have e2 : a.tmps[37]?.getD undef = (ptyQ d lim).val := slot_of (hdep ⟨22, .data⟩ (by simp) (by kernel_rfl))
        rcases hE.two _ I2.out with hb | hb
        · exact two_store2 (by omega) rfl 26 (.tmp 5) (.tmp 37) rfl (by simpa [Act.eval] using e1) (by simpa [Act.eval] using e2) Z62 hb (z62_size _) (info26 _) pty_one (fun _ h => h)
        · exact two_store2 (by omega) rfl 26 (.tmp 5) (.tmp 37) rfl (by simpa [Act.eval] using e1) (by simpa [Act.eval] using e2) _ hb rfl (info26 _) pty_one (fun _ h => h)
      | k + 25, ho => exact absurd (List.getElem?_eq_some_iff.1 ho).1 (by simp)
    case fin =>
      intro vs V4 hE0 hvs
      have hE : R2 (w.heap.size + 1) (w.heap.size + 1 + 1) 26 26 (ptyP d).cells (ptyQ d lim).cells V3 V4 := R2.trans _ _ _ (R2.of_ext ((Ext.refl V3).drew)) hE0
      have s1 : Blk V4 (w.heap.size + 1) 26 (ptyP d).cells := hvs 23 (by simp)
      have s2 : Blk V4 (w.heap.size + 1 + 1) 26 (ptyQ d lim).cells := hvs 24 (by simp)
      have KE := Lib.hid (hE.below IE.out (by omega) (by omega))
      clear hvs hE0 hE
      simp [putAll, Act.put]
      go_wp2_with fail
      exact bodyPost_ret (results_cell2 rfl _ _ (w.heap.size + 1) (w.heap.size + 1 + 1) 26 26 (ptyP d).cells (ptyQ d lim).cells (0, 0) (0, 0) _ _ rfl rfl s1 s2 Try.underlying26 rfl (info26 _) Try.underlying26 rfl (info26 _)) rfl ⟨rfl, KE.out⟩
end Go.Proofs.Ytfdcapblgdlkaaa
