/- The reference: what a deal gives to two parties. -/
import Derived.Test.YtfdcapblgdlkaaaDealing
import Derived.Test.YtfdcapblgdlkaaaTalked
import Derived.Test.YtfdcapblgdlkaaaAllo
namespace Go.Proofs.Ytfdcapblgdlkaaa
open Go.RowKit

def shF (d : Dl) (i : Nat) : Int := (d.a i * d.b i - d.u i) % 31
def qS (d : Dl) (lim : Int) (k : Nat) : Pty := ⟨d.b, upto k (shF d), d.rs, tabO d.t d.rc d.rs lim⟩
theorem qS_zero (d : Dl) (lim : Int) : qS d lim 0 = ⟨d.b, fun _ => 0, d.rs, tabO d.t d.rc d.rs lim⟩ := by unfold qS; rw [upto_zero]
theorem qS_end (d : Dl) (lim : Int) : (qS d lim 15).cells = (ptyQ d lim).cells := by
  unfold Pty.cells qS
  dsimp only
  rw [A15_upto]
  rfl
theorem qS_ne (d : Dl) (lim : Int) (k j : Nat) (h : j ≠ 15 + k) : (qS d lim k).cells[j]? = (qS d lim (k + 1)).cells[j]? := by
  rcases Nat.lt_or_ge j 15 with h1 | h1
  · rw [Pty.at_m _ j h1, Pty.at_m _ j h1]; rfl
  · rcases Nat.lt_or_ge j 30 with h2 | h2
    · obtain ⟨m, rfl⟩ : ∃ m, j = 15 + m := ⟨j - 15, by omega⟩
      rw [Pty.at_s _ m (by omega), Pty.at_s _ m (by omega)]
      show some (Value.int .u8 (upto k (shF d) m)) = some (Value.int .u8 (upto (k + 1) (shF d) m))
      rw [upto_set, if_neg (by omega)]
    · by_cases h3 : j = 30
      · subst h3; rw [Pty.at_sh, Pty.at_sh]; rfl
      · rcases Nat.lt_or_ge j 62 with h4 | h4
        · obtain ⟨m, rfl⟩ : ∃ m, j = 31 + m := ⟨j - 31, by omega⟩
          rw [Pty.at_t _ m (by omega), Pty.at_t _ m (by omega)]; rfl
        · rw [Array.getElem?_eq_none (by rw [Pty.size]; omega), Array.getElem?_eq_none (by rw [Pty.size]; omega)]
theorem build26s (m : Nat → Int) (sh : Int) (t : Nat → Int) (w : World) : (Instr.build 26 #[(0, .agg (valL 15 (u8V m)).toArray), (2, .int .u8 sh), (3, .agg (valL 31 (u32V t)).toArray)]).run Try.prog w = .ok (.agg (Pty.cells ⟨m, fun _ => 0, sh, t⟩)) w := by kernel_rfl
set_option maxRecDepth 100000 in
set_option maxHeartbeats 2000000 in
theorem refDealt_any (d : Dl) (lim : Int) (hd : d.ok) (w : World) : Calls Try.prog 59 #[d.val, .int .i64 lim] w fun e w' => e = .returned (.tuple #[(ptyP d).val, (ptyQ d lim).val]) ∧ Ext w w' := by
  have CT := fun w => turned_any d.t d.rc d.rs lim hd.t hd.rc hd.rs w
  have hrc := hd.rc
  have hrs := hd.rs
  have w1 : IntKind.i64.wrap d.rc = d.rc := IntWalk.i64_in _ (by omega)
  have w2 : IntKind.i64.wrap d.rs = d.rs := IntWalk.i64_in _ (by omega)
  obtain ⟨q0, hq0⟩ : ∃ q0 : Pty, q0 = qS d lim 0 := ⟨_, rfl⟩
  have HQ0 := Lib.hid hq0
  have HB0 := Lib.hid (fun w => show (Instr.build 26 #[(0, .agg (valL 15 (u8V d.b)).toArray), (2, .int .u8 d.rs), (3, .agg (valL 31 (u32V (tabO d.t d.rc d.rs lim))).toArray)]).run Try.prog w = .ok (.agg q0.cells) w by rw [hq0, qS_zero]; exact build26s d.b d.rs (tabO d.t d.rc d.rs lim) w)
  clear hq0
  go_enter Try.func59, Try.ntmps59
  have H0 := Lib.hid (((Blk.new w 42 d.cells).alloc (.cells Z62 26)).alloc (.cells Z62 26))
  have H1 := Lib.hid ((Blk.new' (w.alloc (.cells d.cells 42)) 26 Z62 (w.heap.size + 1) (by simp)).alloc (.cells Z62 26))
  have H2 := Lib.hid (Blk.new' ((w.alloc (.cells d.cells 42)).alloc (.cells Z62 26)) 26 Z62 (w.heap.size + 1 + 1) (by simp))
  have HE := Lib.hid ((((Ext.refl w).alloc (.cells d.cells 42)).alloc (.cells Z62 26)).alloc (.cells Z62 26))
  have H3 := Lib.hid (Blk.new' (((w.alloc (.cells d.cells 42)).alloc (.cells Z62 26)).alloc (.cells Z62 26)) 26 Z62 (w.heap.size + 1 + 1 + 1) (by simp))
  have cR : (((w.alloc (.cells d.cells 42)).alloc (.cells Z62 26)).alloc (.cells Z62 26)).cell? ⟨w.heap.size, 45, none⟩ = some (.int .u8 d.rc) := cut_rc H0.out
  go_wp2_with (first | ((with_reducible refine pre_op (.load 5 (.tmp 13)) ?_); refine wpList_load_one rfl 5 (.tmp 13) rfl agg5 ⟨w.heap.size, 45, none⟩ rfl (.int .u8 d.rc) (cut_rc H0.out) ?_) | (refine wpList_build_row rfl 26 [(0, .tmp 10), (1, .tmp 12), (2, .tmp 14), (3, .tmp 16)] rfl [(0, .agg (valL 15 (u8V d.a)).toArray), (1, .agg (valL 15 (u8V d.u)).toArray), (2, .int .u8 d.rc), (3, .agg (valL 31 (u32V d.t)).toArray)] rfl _ (build26 d.a d.u d.rc d.t) ?_) | ((with_reducible refine pre_op (.load 22 (.tmp 9)) ?_); refine wpList_load_sub rfl 22 (.tmp 9) rfl w.heap.size 0 rfl 15 (u8V d.a) _ (cut_a H0.out) Try.underlying22 rfl info22 ?_) | ((with_reducible refine pre_op (.load 22 (.tmp 11)) ?_); refine wpList_load_sub rfl 22 (.tmp 11) rfl w.heap.size 30 rfl 15 (u8V d.u) _ (cut_u H0.out) Try.underlying22 rfl info22 ?_) | ((with_reducible refine pre_op (.load 24 (.tmp 15)) ?_); refine wpList_load_sub rfl 24 (.tmp 15) rfl w.heap.size 47 rfl 31 (u32V d.t) _ (cut_t H0.out) Try.underlying24 rfl info24 ?_) | ((with_reducible refine pre_op (.store 26 (.tmp 6) (.tmp 17)) ?_); refine wpList_store_row rfl 26 (.tmp 6) (.tmp 17) rfl (w.heap.size + 1 + 1 + 1) rfl 26 Z62 (ptyP d).cells rfl H3.out (info26 _) (z62_size _) pty_one ?_))

  have I0 := Lib.hid ((H0.out.alloc (.cells Z62 26)).rowFar (k := w.heap.size + 1 + 1 + 1) (by omega) (ptyP d).cells)
  have I1 := Lib.hid ((H1.out.alloc (.cells Z62 26)).rowFar (k := w.heap.size + 1 + 1 + 1) (by omega) (ptyP d).cells)
  have I2 := Lib.hid ((H2.out.alloc (.cells Z62 26)).rowFar (k := w.heap.size + 1 + 1 + 1) (by omega) (ptyP d).cells)
  have I3 := Lib.hid (H3.out.row (ptyP d).cells)
  have IE := Lib.hid ((HE.out.alloc (.cells Z62 26)).row (g := w.heap.size + 1 + 1 + 1) (by omega) (ptyP d).cells)
  clear H0 H1 H2 H3 HE cR
  change Code.wp _ _ _ _ (((((w.alloc (.cells d.cells 42)).alloc (.cells Z62 26)).alloc (.cells Z62 26)).alloc (.cells Z62 26)).setRow (w.heap.size + 1 + 1 + 1) (ptyP d).cells)
  generalize ((((w.alloc (.cells d.cells 42)).alloc (.cells Z62 26)).alloc (.cells Z62 26)).alloc (.cells Z62 26)).setRow (w.heap.size + 1 + 1 + 1) (ptyP d).cells = V0 at *
  refine wp_region_rel2 16 _ rfl (Vof [isV (.pointer (some ⟨w.heap.size, 15, none⟩)), isV (.agg (A15 d.b)), isV (.pointer (some ⟨w.heap.size, 46, none⟩)), isV (.int .u8 d.rs), isV (.pointer (some ⟨w.heap.size, 47, none⟩)), isV (.agg (A31 d.t)), isV (.pointer (some ⟨w.heap.size, 45, none⟩)), isV (.int .u8 d.rc), isV (.int .i64 d.rc), isV (.pointer (some ⟨w.heap.size, 46, none⟩)), isV (.int .u8 d.rs), isV (.int .i64 d.rs), isV (.int .i64 lim), isV (.agg (A31 (tabO d.t d.rc d.rs lim))), isV (.agg q0.cells), isB (w.heap.size + 1 + 1 + 1 + 1) 26 Z62]) (by kernel_rfl) (by kernel_rfl) (Vof_mono (by simp [isV_mono, isB_mono])) ?op ?last
  case op =>
    intro i o ho a V2 _ _ hfrm hE0 hdep
    have hE : Ext V0 V2 := Ext.trans ((Ext.refl V0).drew) hE0
    match i, ho with
    | 0, ho =>
      injection ho with ho
      subst ho
      have e1 : a.tmps[2]?.getD undef = .pointer (some ⟨w.heap.size, 0, none⟩) := slot_of (hfrm 2 (frm_of 2 (by kernel_rfl)))
      exact rel_val (by simp [execOp, go_sem, e1]) rfl
    | 1, ho =>
      injection ho with ho
      subst ho
      have e1 : a.tmps[18]?.getD undef = .pointer (some ⟨w.heap.size, 15, none⟩) := slot_of (hdep ⟨0, .data⟩ (by simp) (by kernel_rfl) 18 (by kernel_rfl))
      exact rel_load 22 (.tmp 18) rfl (w.heap.size) 15 (by simpa [Act.eval] using e1) 15 (u8V d.b) _ (cut_b (I0.out.grow hE)) Try.underlying22 rfl info22 rfl
    | 2, ho =>
      injection ho with ho
      subst ho
      have e1 : a.tmps[2]?.getD undef = .pointer (some ⟨w.heap.size, 0, none⟩) := slot_of (hfrm 2 (frm_of 2 (by kernel_rfl)))
      exact rel_val (by simp [execOp, go_sem, e1]) rfl
    | 3, ho =>
      injection ho with ho
      subst ho
      have e1 : a.tmps[20]?.getD undef = .pointer (some ⟨w.heap.size, 46, none⟩) := slot_of (hdep ⟨2, .data⟩ (by simp) (by kernel_rfl) 20 (by kernel_rfl))
      have c1 : V2.cell? ⟨w.heap.size, 46, none⟩ = some (.int .u8 d.rs) := cut_rs (I0.out.grow hE)
      exact rel_val (by simp [execOp, go_sem, e1, c1]) rfl
    | 4, ho =>
      injection ho with ho
      subst ho
      have e1 : a.tmps[2]?.getD undef = .pointer (some ⟨w.heap.size, 0, none⟩) := slot_of (hfrm 2 (frm_of 2 (by kernel_rfl)))
      exact rel_val (by simp [execOp, go_sem, e1]) rfl
    | 5, ho =>
      injection ho with ho
      subst ho
      have e1 : a.tmps[22]?.getD undef = .pointer (some ⟨w.heap.size, 47, none⟩) := slot_of (hdep ⟨4, .data⟩ (by simp) (by kernel_rfl) 22 (by kernel_rfl))
      exact rel_load 24 (.tmp 22) rfl (w.heap.size) 47 (by simpa [Act.eval] using e1) 31 (u32V d.t) _ (cut_t (I0.out.grow hE)) Try.underlying24 rfl info24 rfl
    | 6, ho =>
      injection ho with ho
      subst ho
      have e1 : a.tmps[2]?.getD undef = .pointer (some ⟨w.heap.size, 0, none⟩) := slot_of (hfrm 2 (frm_of 2 (by kernel_rfl)))
      exact rel_val (by simp [execOp, go_sem, e1]) rfl
    | 7, ho =>
      injection ho with ho
      subst ho
      have e1 : a.tmps[24]?.getD undef = .pointer (some ⟨w.heap.size, 45, none⟩) := slot_of (hdep ⟨6, .data⟩ (by simp) (by kernel_rfl) 24 (by kernel_rfl))
      have c1 : V2.cell? ⟨w.heap.size, 45, none⟩ = some (.int .u8 d.rc) := cut_rc (I0.out.grow hE)
      exact rel_val (by simp [execOp, go_sem, e1, c1]) rfl
    | 8, ho =>
      injection ho with ho
      subst ho
      have e1 : a.tmps[25]?.getD undef = .int .u8 d.rc := slot_of (hdep ⟨7, .data⟩ (by simp) (by kernel_rfl) 25 (by kernel_rfl))
      exact rel_val (by simp [execOp, go_sem, e1, w1]) rfl
    | 9, ho =>
      injection ho with ho
      subst ho
      have e1 : a.tmps[2]?.getD undef = .pointer (some ⟨w.heap.size, 0, none⟩) := slot_of (hfrm 2 (frm_of 2 (by kernel_rfl)))
      exact rel_val (by simp [execOp, go_sem, e1]) rfl
    | 10, ho =>
      injection ho with ho
      subst ho
      have e1 : a.tmps[27]?.getD undef = .pointer (some ⟨w.heap.size, 46, none⟩) := slot_of (hdep ⟨9, .data⟩ (by simp) (by kernel_rfl) 27 (by kernel_rfl))
      have c1 : V2.cell? ⟨w.heap.size, 46, none⟩ = some (.int .u8 d.rs) := cut_rs (I0.out.grow hE)
      exact rel_val (by simp [execOp, go_sem, e1, c1]) rfl
    | 11, ho =>
      injection ho with ho
      subst ho
      have e1 : a.tmps[28]?.getD undef = .int .u8 d.rs := slot_of (hdep ⟨10, .data⟩ (by simp) (by kernel_rfl) 28 (by kernel_rfl))
      exact rel_val (by simp [execOp, go_sem, e1, w2]) rfl
    | 12, ho =>
      injection ho with ho
      subst ho
      have e1 : a.tmps[1]?.getD undef = .int .i64 lim := slot_of (hfrm 1 (frm_of 1 (by kernel_rfl)))
      exact rel_val (by simp [execOp, go_sem, e1]) rfl
    | 13, ho =>
      injection ho with ho
      subst ho
      have e1 : a.tmps[23]?.getD undef = .agg (A31 d.t) := slot_of (hdep ⟨5, .data⟩ (by simp) (by kernel_rfl) 23 (by kernel_rfl))
      have e2 : a.tmps[26]?.getD undef = .int .i64 d.rc := slot_of (hdep ⟨8, .data⟩ (by simp) (by kernel_rfl) 26 (by kernel_rfl))
      have e3 : a.tmps[29]?.getD undef = .int .i64 d.rs := slot_of (hdep ⟨11, .data⟩ (by simp) (by kernel_rfl) 29 (by kernel_rfl))
      have e4 : a.tmps[30]?.getD undef = .int .i64 lim := slot_of (hdep ⟨12, .data⟩ (by simp) (by kernel_rfl) 30 (by kernel_rfl))
      exact rel_call 68 [.tmp 23, .tmp 26, .tmp 29, .tmp 30] #[24, 3, 3, 3] rfl (by kernel_rfl) [.agg (A31 d.t), .int .i64 d.rc, .int .i64 d.rs, .int .i64 lim] (by simp [Act.eval, e1, e2, e3, e4]) (ret_val (CT _))
    | 14, ho =>
      injection ho with ho
      subst ho
      have e1 : a.tmps[19]?.getD undef = .agg (A15 d.b) := slot_of (hdep ⟨1, .data⟩ (by simp) (by kernel_rfl) 19 (by kernel_rfl))
      have e2 : a.tmps[21]?.getD undef = .int .u8 d.rs := slot_of (hdep ⟨3, .data⟩ (by simp) (by kernel_rfl) 21 (by kernel_rfl))
      have e3 : a.tmps[31]?.getD undef = .agg (A31 (tabO d.t d.rc d.rs lim)) := slot_of (hdep ⟨13, .data⟩ (by simp) (by kernel_rfl) 31 (by kernel_rfl))
      exact rel_build 26 [(0, .tmp 19), (2, .tmp 21), (3, .tmp 31)] rfl [(0, .agg (A15 d.b)), (2, .int .u8 d.rs), (3, .agg (A31 (tabO d.t d.rc d.rs lim)))] (by simp [Act.eval, e1, e2, e3]) _ HB0.out rfl
    | 15, ho =>
      injection ho with ho
      subst ho
      have hsz : w.heap.size + 1 + 1 + 1 + 1 ≤ V2.heap.size := (I3.out.grow hE).lt
      simp [Oper.wp, execOp, go_sem]
      exact ⟨_, rfl, ⟨_, rfl, hsz, Blk.new _ _ Z62⟩, (Ext.refl _).alloc _⟩
    | k + 16, ho => exact absurd (List.getElem?_eq_some_iff.1 ho).1 (by simp)
  case last =>
    intro vs V2 hE0 hvs
    have hE : Ext V0 V2 := Ext.trans ((Ext.refl V0).drew) hE0
    have s14 : vs 14 = .agg q0.cells := hvs 14 (by simp)
    have h15 : isB (w.heap.size + 1 + 1 + 1 + 1) 26 Z62 (vs 15) V2 := hvs 15 (by simp)
    clear hvs hE0
    unfold isB at h15
    cases h15 with
    | intro g hh =>
    have s15 := hh.1
    have hg := hh.2.1
    have hG := hh.2.2
    clear hh
    have J0 := Lib.hid ((I0.out.grow hE).rowFar (k := g) (by omega) q0.cells)
    have J1 := Lib.hid ((I1.out.grow hE).rowFar (k := g) (by omega) q0.cells)
    have J2 := Lib.hid ((I2.out.grow hE).rowFar (k := g) (by omega) q0.cells)
    have J3 := Lib.hid ((I3.out.grow hE).rowFar (k := g) (by omega) q0.cells)
    have J4 := Lib.hid (hG.row q0.cells)
    have JE := Lib.hid ((Ext.trans IE.out hE).row (g := g) (by omega) q0.cells)
    simp [putAll, Act.put, s14, s15]
    have hx : ∀ (K : Act → World → Prop) (Q : Exit → Act → World → Prop) (A : Act) (o : Oper), o.op = .store 26 (.tmp 7) (.tmp 32) → A.eval (.tmp 7) = .pointer (some ⟨g, 0, none⟩) → A.eval (.tmp 32) = .agg q0.cells → K (A.put o.dst undef) (V2.setRow g q0.cells) → o.wp Try.prog A V2 K Q := fun K Q A o h1 h2 h3 h4 => wp_store_row 26 (.tmp 7) (.tmp 32) h1 g q0.cells h2 h3 26 Z62 hG (info26 _) (z62_size _) pty_one h4
    refine hx _ _ _ _ ?aa ?bb ?cc ?dd
    case aa => rfl
    case bb => rfl
    case cc => rfl
    clear hx
    clear s14 s15 hE hG
    clear I0 I1 I2 I3 IE
    generalize V2.setRow g q0.cells = V3 at *
    have j4 := J4.out
    rw [HQ0.out] at j4
    replace J4 := Lib.hid j4
    clear j4 HQ0 HB0
    simp [Act.put]
    go_wp2_with fail
    have hda := hd.a
    have hdb := hd.b
    have hdu := hd.u
    clear CT w1 w2 hrc hrs hd
    go_loopw [8] (fun i wr => ∃ k : Nat, k ≤ 15 ∧ i = .int .i64 k ∧ Blk wr (w.heap.size) 42 d.cells ∧ Blk wr (w.heap.size + 1) 26 Z62 ∧ Blk wr (w.heap.size + 1 + 1) 26 Z62 ∧ Blk wr (w.heap.size + 1 + 1 + 1) 26 (ptyP d).cells ∧ Blk wr g 26 (qS d lim k).cells ∧ Ext w wr) (fun i _ => 15 - (intOf i).toNat)
    case atStart => exact ⟨0, by omega, rfl, J0.out, J1.out, J2.out, J3.out, J4.out, JE.out⟩
    case round =>
      obtain ⟨k, hk, rfl, b0, b1, b2, b3, b4, bE⟩ := hrel
      have G0 := Lib.hid b0
      have G1 := Lib.hid b1
      have G2 := Lib.hid b2
      have G3 := Lib.hid b3
      have G4 := Lib.hid b4
      have GE := Lib.hid bE
      clear b0 b1 b2 b3 b4 bE J0 J1 J2 J3 J4 JE
      by_cases hk15 : k < 15
      · have hk2 : (k : Int) < 15 := by omega
        have xa := hda k hk15
        have xb := hdb k hk15
        have xu := hdu k hk15
        have g1 := Lib.hid (d.at_a k hk15)
        have g2 := Lib.hid (d.at_b k hk15)
        have g3 := Lib.hid (d.at_u k hk15)
        have HS := Lib.hid (show (qS d lim (k + 1)).cells[15 + k]? = some (.int .u8 ((d.a k * d.b k - d.u k) % 31)) from (Pty.at_s _ k hk15).trans (by show some (Value.int .u8 (upto (k + 1) (shF d) k)) = _; rw [upto_set, if_pos rfl]; rfl))
        have hz4 := Lib.hid (show (qS d lim k).cells.size = (qS d lim (k + 1)).cells.size by rw [Pty.size, Pty.size])
        generalize hfin : (qS d lim (k + 1)).cells = fin at *
        generalize d.a k = ak at *
        generalize d.b k = bk at *
        generalize d.u k = uk at *
        have hmb : 0 ≤ ak * bk ∧ ak * bk ≤ 65025 := ⟨Int.mul_nonneg xa.1 xb.1, by have : ak * bk ≤ 255 * bk := Int.mul_le_mul_of_nonneg_right (by omega) xb.1; omega⟩
        obtain ⟨m, hm⟩ : ∃ m, ak * bk = m := ⟨_, rfl⟩
        rw [hm] at hmb HS
        have CR := Lib.hid (fun w => rest_any (m - uk) (by omega) w)
        obtain ⟨r, hr⟩ : ∃ r, (m - uk) % 31 = r := ⟨_, rfl⟩
        have hrb : 0 ≤ r ∧ r < 31 := by omega
        rw [hr] at CR HS
        clear hr
        have wa : IntKind.i64.wrap ak = ak := IntWalk.i64_in _ (by omega)
        have wb : IntKind.i64.wrap bk = bk := IntWalk.i64_in _ (by omega)
        have wu : IntKind.i64.wrap uk = uk := IntWalk.i64_in _ (by omega)
        have wm : IntKind.i64.wrap m = m := IntWalk.i64_in _ (by omega)
        have ws : IntKind.i64.wrap (m - uk) = m - uk := IntWalk.i64_in _ (by omega)
        have wr8 : IntKind.u8.wrap r = r := by rw [IntKind.wrap_u8]; omega
        go_wp2_with fail
        refine wp_region_rel1 (R := RT (g) 26 (fin)) (Vof [isV (.int .i64 (k : Nat)), isV (.int .i64 (k : Nat)), isV (.pointer (some ⟨w.heap.size, 0, none⟩)), isV (.pointer (some ⟨w.heap.size, k, none⟩)), isV (.int .u8 ak), isV (.int .i64 ak), isV (.int .i64 (k : Nat)), isV (.pointer (some ⟨w.heap.size, 15, none⟩)), isV (.pointer (some ⟨w.heap.size, 15 + k, none⟩)), isV (.int .u8 bk), isV (.int .i64 bk), isV (.int .i64 m), isV (.int .i64 (k : Nat)), isV (.pointer (some ⟨w.heap.size, 30, none⟩)), isV (.pointer (some ⟨w.heap.size, 30 + k, none⟩)), isV (.int .u8 uk), isV (.int .i64 uk), isV (.int .i64 (m - uk)), isV (.int .i64 r), isV (.int .u8 r), isV (.pointer (some ⟨g, 15, none⟩)), isV (.pointer (some ⟨g, 15 + k, none⟩)), isS g 26 fin (15 + k) 1]) (by kernel_rfl) (by kernel_rfl) RT.refl RT.trans (Vof_monoR (by simp [isV_monoR, isS_mono])) ?op ?fin
        case op =>
          intro i o ho a V2 _ _ hfrm hE0 hdep
          have hE : RT (g) 26 (fin) wr V2 := RT.trans _ _ _ (RT.of_ext ((Ext.refl wr).drew)) hE0
          match i, ho with
          | 0, ho =>
            injection ho with ho
            subst ho
            have e1 : a.tmps[8]?.getD undef = .int .i64 (k : Nat) := slot_of (hfrm 8 (frm_of 8 (by kernel_rfl)))
            exact owes_val rfl (by simp [execOp, go_sem, e1]) rfl
          | 1, ho =>
            injection ho with ho
            subst ho
            have e1 : a.tmps[8]?.getD undef = .int .i64 (k : Nat) := slot_of (hfrm 8 (frm_of 8 (by kernel_rfl)))
            exact owes_val rfl (by simp [execOp, go_sem, e1]) rfl
          | 2, ho =>
            injection ho with ho
            subst ho
            have e1 : a.tmps[2]?.getD undef = .pointer (some ⟨w.heap.size, 0, none⟩) := slot_of (hfrm 2 (frm_of 2 (by kernel_rfl)))
            exact owes_val rfl (by simp [execOp, go_sem, e1]) rfl
          | 3, ho =>
            injection ho with ho
            subst ho
            have e1 : a.tmps[39]?.getD undef = .pointer (some ⟨w.heap.size, 0, none⟩) := slot_of (hdep ⟨2, .data⟩ (by simp) (by kernel_rfl))
            have e2 : a.tmps[38]?.getD undef = .int .i64 (k : Nat) := slot_of (hdep ⟨1, .data⟩ (by simp) (by kernel_rfl))
            exact owes_val rfl (by simp [execOp, go_sem, e1, e2, hk2]) rfl
          | 4, ho =>
            injection ho with ho
            subst ho
            have e1 : a.tmps[40]?.getD undef = .pointer (some ⟨w.heap.size, k, none⟩) := slot_of (hdep ⟨3, .data⟩ (by simp) (by kernel_rfl))
            have c1 : V2.cell? ⟨w.heap.size, k, none⟩ = some (.int .u8 ak) := ((hE.blk G0.out (by omega)).cell (k)).trans g1.out
            exact owes_val rfl (by simp [execOp, go_sem, e1, c1]) rfl
          | 5, ho =>
            injection ho with ho
            subst ho
            have e1 : a.tmps[41]?.getD undef = .int .u8 ak := slot_of (hdep ⟨4, .data⟩ (by simp) (by kernel_rfl))
            exact owes_val rfl (by simp [execOp, go_sem, e1, wa]) rfl
          | 6, ho =>
            injection ho with ho
            subst ho
            have e1 : a.tmps[8]?.getD undef = .int .i64 (k : Nat) := slot_of (hfrm 8 (frm_of 8 (by kernel_rfl)))
            exact owes_val rfl (by simp [execOp, go_sem, e1]) rfl
          | 7, ho =>
            injection ho with ho
            subst ho
            have e1 : a.tmps[2]?.getD undef = .pointer (some ⟨w.heap.size, 0, none⟩) := slot_of (hfrm 2 (frm_of 2 (by kernel_rfl)))
            exact owes_val rfl (by simp [execOp, go_sem, e1]) rfl
          | 8, ho =>
            injection ho with ho
            subst ho
            have e1 : a.tmps[44]?.getD undef = .pointer (some ⟨w.heap.size, 15, none⟩) := slot_of (hdep ⟨7, .data⟩ (by simp) (by kernel_rfl))
            have e2 : a.tmps[43]?.getD undef = .int .i64 (k : Nat) := slot_of (hdep ⟨6, .data⟩ (by simp) (by kernel_rfl))
            exact owes_val rfl (by simp [execOp, go_sem, e1, e2, hk2]) rfl
          | 9, ho =>
            injection ho with ho
            subst ho
            have e1 : a.tmps[45]?.getD undef = .pointer (some ⟨w.heap.size, 15 + k, none⟩) := slot_of (hdep ⟨8, .data⟩ (by simp) (by kernel_rfl))
            have c1 : V2.cell? ⟨w.heap.size, 15 + k, none⟩ = some (.int .u8 bk) := ((hE.blk G0.out (by omega)).cell (15 + k)).trans g2.out
            exact owes_val rfl (by simp [execOp, go_sem, e1, c1]) rfl
          | 10, ho =>
            injection ho with ho
            subst ho
            have e1 : a.tmps[46]?.getD undef = .int .u8 bk := slot_of (hdep ⟨9, .data⟩ (by simp) (by kernel_rfl))
            exact owes_val rfl (by simp [execOp, go_sem, e1, wb]) rfl
          | 11, ho =>
            injection ho with ho
            subst ho
            have e1 : a.tmps[42]?.getD undef = .int .i64 ak := slot_of (hdep ⟨5, .data⟩ (by simp) (by kernel_rfl))
            have e2 : a.tmps[47]?.getD undef = .int .i64 bk := slot_of (hdep ⟨10, .data⟩ (by simp) (by kernel_rfl))
            exact owes_val rfl (by simp [execOp, go_sem, e1, e2, hm, wm]) rfl
          | 12, ho =>
            injection ho with ho
            subst ho
            have e1 : a.tmps[8]?.getD undef = .int .i64 (k : Nat) := slot_of (hfrm 8 (frm_of 8 (by kernel_rfl)))
            exact owes_val rfl (by simp [execOp, go_sem, e1]) rfl
          | 13, ho =>
            injection ho with ho
            subst ho
            have e1 : a.tmps[2]?.getD undef = .pointer (some ⟨w.heap.size, 0, none⟩) := slot_of (hfrm 2 (frm_of 2 (by kernel_rfl)))
            exact owes_val rfl (by simp [execOp, go_sem, e1]) rfl
          | 14, ho =>
            injection ho with ho
            subst ho
            have e1 : a.tmps[50]?.getD undef = .pointer (some ⟨w.heap.size, 30, none⟩) := slot_of (hdep ⟨13, .data⟩ (by simp) (by kernel_rfl))
            have e2 : a.tmps[49]?.getD undef = .int .i64 (k : Nat) := slot_of (hdep ⟨12, .data⟩ (by simp) (by kernel_rfl))
            exact owes_val rfl (by simp [execOp, go_sem, e1, e2, hk2]) rfl
          | 15, ho =>
            injection ho with ho
            subst ho
            have e1 : a.tmps[51]?.getD undef = .pointer (some ⟨w.heap.size, 30 + k, none⟩) := slot_of (hdep ⟨14, .data⟩ (by simp) (by kernel_rfl))
            have c1 : V2.cell? ⟨w.heap.size, 30 + k, none⟩ = some (.int .u8 uk) := ((hE.blk G0.out (by omega)).cell (30 + k)).trans g3.out
            exact owes_val rfl (by simp [execOp, go_sem, e1, c1]) rfl
          | 16, ho =>
            injection ho with ho
            subst ho
            have e1 : a.tmps[52]?.getD undef = .int .u8 uk := slot_of (hdep ⟨15, .data⟩ (by simp) (by kernel_rfl))
            exact owes_val rfl (by simp [execOp, go_sem, e1, wu]) rfl
          | 17, ho =>
            injection ho with ho
            subst ho
            have e1 : a.tmps[48]?.getD undef = .int .i64 m := slot_of (hdep ⟨11, .data⟩ (by simp) (by kernel_rfl))
            have e2 : a.tmps[53]?.getD undef = .int .i64 uk := slot_of (hdep ⟨16, .data⟩ (by simp) (by kernel_rfl))
            exact owes_val rfl (by simp [execOp, go_sem, e1, e2, ws]) rfl
          | 18, ho =>
            injection ho with ho
            subst ho
            have e1 : a.tmps[54]?.getD undef = .int .i64 (m - uk) := slot_of (hdep ⟨17, .data⟩ (by simp) (by kernel_rfl))
            exact owes_call rfl 66 [.tmp 54] #[3] rfl (by kernel_rfl) [.int .i64 (m - uk)] (by simp [Act.eval, e1]) ((CR.out _).mono (fun _ _ h => ⟨h.1, h.2 ▸ Ext.refl _⟩)) (fun _ => rfl)
          | 19, ho =>
            injection ho with ho
            subst ho
            have e1 : a.tmps[55]?.getD undef = .int .i64 r := slot_of (hdep ⟨18, .data⟩ (by simp) (by kernel_rfl))
            exact owes_val rfl (by simp [execOp, go_sem, e1, wr8]) rfl
          | 20, ho =>
            injection ho with ho
            subst ho
            have e1 : a.tmps[7]?.getD undef = .pointer (some ⟨g, 0, none⟩) := slot_of (hfrm 7 (frm_of 7 (by kernel_rfl)))
            exact owes_val rfl (by simp [execOp, go_sem, e1]) rfl
          | 21, ho =>
            injection ho with ho
            subst ho
            have e1 : a.tmps[57]?.getD undef = .pointer (some ⟨g, 15, none⟩) := slot_of (hdep ⟨20, .data⟩ (by simp) (by kernel_rfl))
            have e2 : a.tmps[37]?.getD undef = .int .i64 (k : Nat) := slot_of (hdep ⟨0, .data⟩ (by simp) (by kernel_rfl))
            exact owes_val rfl (by simp [execOp, go_sem, e1, e2, hk2]) rfl
          | 22, ho =>
            injection ho with ho
            subst ho
            have e1 : a.tmps[58]?.getD undef = .pointer (some ⟨g, 15 + k, none⟩) := slot_of (hdep ⟨21, .data⟩ (by simp) (by kernel_rfl))
            have e2 : a.tmps[56]?.getD undef = .int .u8 r := slot_of (hdep ⟨19, .data⟩ (by simp) (by kernel_rfl))
            obtain ⟨cur0, kk1, kk2, _⟩ := hE.part _ G4.out hz4.out
            refine owes_store1 rfl (15 + k) (.int .u8 r) (fun cur hB hs => ?_) ⟨cur0, kk1, kk2⟩ (HS.out) (fun _ h => h)
            have hlt : 15 + k < cur.size := by rw [hs]; exact (Array.getElem?_eq_some_iff.1 HS.out).1
            have c1 : V2.cell? ⟨g, 15 + k, none⟩ = some (cur[15 + k]'hlt) := (hB.cell (15 + k)).trans (Array.getElem?_eq_getElem hlt)
            have c2 := hB.frozen (15 + k)
            simp [execOp, go_sem, e1, e2, c1, c2]
          | k + 23, ho => exact absurd (List.getElem?_eq_some_iff.1 ho).1 (by simp)
        case fin =>
          intro vs V4 hE0 hvs
          have hE : RT g 26 fin wr V4 := RT.trans _ _ _ (RT.of_ext ((Ext.refl wr).drew)) hE0
          have s1 := hvs 22 (by simp)
          have f4 := full_gen hE G4.out hz4.out (fun j => by
            by_cases h1 : j = 15 + k
            · exact .inr ⟨15 + k, 1, undef, s1, by omega, by omega⟩
            · exact .inl (by rw [← hfin]; exact qS_ne d lim k j h1))
          rw [← hfin] at f4
          have F4 := Lib.hid f4
          have F0 := Lib.hid (hE.blk G0.out (by omega))
          have F1 := Lib.hid (hE.blk G1.out (by omega))
          have F2 := Lib.hid (hE.blk G2.out (by omega))
          have F3 := Lib.hid (hE.blk G3.out (by omega))
          have FE := Lib.hid (hE.below GE.out (by omega))
          clear hE hE0 hvs s1 f4
          simp [putAll, Act.put]
          go_wp2_with fail
          exact ⟨⟨k + 1, by omega, by go_num, F0.out, F1.out, F2.out, F3.out, F4.out, FE.out⟩, by simp [intOf]; omega⟩
      · obtain rfl : k = 15 := by omega
        have g4 := G4.out
        rw [qS_end] at g4
        have K4 := Lib.hid g4
        clear g4 G4
        go_wp2_with fail
        refine wp_region_rel1 (R := R2 (w.heap.size + 1) (w.heap.size + 1 + 1) 26 26 (ptyP d).cells (ptyQ d lim).cells) (Vof [isV (ptyP d).val, isV (ptyQ d lim).val, isW (w.heap.size + 1) 26 (ptyP d).cells, isW (w.heap.size + 1 + 1) 26 (ptyQ d lim).cells]) (by kernel_rfl) (by kernel_rfl) R2.refl R2.trans (Vof_monoR (by
          intro p hp
          simp only [List.mem_cons, List.not_mem_nil, or_false] at hp
          rcases hp with rfl | rfl | rfl | rfl
          all_goals first | exact isV_monoR _ _ | exact isW_one | exact isW_two)) ?op ?fin
        case op =>
          intro i o ho a V2 _ _ hfrm hE0 hdep
          have hE : R2 (w.heap.size + 1) (w.heap.size + 1 + 1) 26 26 (ptyP d).cells (ptyQ d lim).cells wr V2 := R2.trans _ _ _ (R2.of_ext ((Ext.refl wr).drew)) hE0
          match i, ho with
          | 0, ho =>
            injection ho with ho
            subst ho
            have e1 : a.tmps[6]?.getD undef = .pointer (some ⟨w.heap.size + 1 + 1 + 1, 0, none⟩) := slot_of (hfrm 6 (frm_of 6 (by kernel_rfl)))
            have hb : Blk V2 (w.heap.size + 1 + 1 + 1) 26 (ptyP d).cells := hE.blk G3.out (by omega) (by omega)
            exact two_row rfl 26 (.tmp 6) rfl _ (by simpa [Act.eval] using e1) 26 (ptyP d).cells _ hb Try.underlying26 rfl (info26 _) rfl
          | 1, ho =>
            injection ho with ho
            subst ho
            have e1 : a.tmps[7]?.getD undef = .pointer (some ⟨g, 0, none⟩) := slot_of (hfrm 7 (frm_of 7 (by kernel_rfl)))
            have hb : Blk V2 g 26 (ptyQ d lim).cells := hE.blk K4.out (by omega) (by omega)
            exact two_row rfl 26 (.tmp 7) rfl _ (by simpa [Act.eval] using e1) 26 (ptyQ d lim).cells _ hb Try.underlying26 rfl (info26 _) rfl
          | 2, ho =>
            injection ho with ho
            subst ho
            have e1 : a.tmps[4]?.getD undef = .pointer (some ⟨w.heap.size + 1, 0, none⟩) := slot_of (hfrm 4 (frm_of 4 (by kernel_rfl)))
            have e2 : a.tmps[59]?.getD undef = (ptyP d).val := slot_of (hdep ⟨0, .data⟩ (by simp) (by kernel_rfl))
            rcases hE.one _ G1.out with hb | hb
            · exact two_store1 (by omega) rfl 26 (.tmp 4) (.tmp 59) rfl (by simpa [Act.eval] using e1) (by simpa [Act.eval] using e2) Z62 hb (z62_size _) (info26 _) pty_one (fun _ h => h)
            · exact two_store1 (by omega) rfl 26 (.tmp 4) (.tmp 59) rfl (by simpa [Act.eval] using e1) (by simpa [Act.eval] using e2) _ hb rfl (info26 _) pty_one (fun _ h => h)
          | 3, ho =>
            injection ho with ho
            subst ho
            have e1 : a.tmps[5]?.getD undef = .pointer (some ⟨w.heap.size + 1 + 1, 0, none⟩) := slot_of (hfrm 5 (frm_of 5 (by kernel_rfl)))
            have e2 : a.tmps[60]?.getD undef = (ptyQ d lim).val := slot_of (hdep ⟨1, .data⟩ (by simp) (by kernel_rfl))
            rcases hE.two _ G2.out with hb | hb
            · exact two_store2 (by omega) rfl 26 (.tmp 5) (.tmp 60) rfl (by simpa [Act.eval] using e1) (by simpa [Act.eval] using e2) Z62 hb (z62_size _) (info26 _) pty_one (fun _ h => h)
            · exact two_store2 (by omega) rfl 26 (.tmp 5) (.tmp 60) rfl (by simpa [Act.eval] using e1) (by simpa [Act.eval] using e2) _ hb rfl (info26 _) pty_one (fun _ h => h)
          | k + 4, ho => exact absurd (List.getElem?_eq_some_iff.1 ho).1 (by simp)
        case fin =>
          intro vs V4 hE0 hvs
          have hE : R2 (w.heap.size + 1) (w.heap.size + 1 + 1) 26 26 (ptyP d).cells (ptyQ d lim).cells wr V4 := R2.trans _ _ _ (R2.of_ext ((Ext.refl wr).drew)) hE0
          have s1 : Blk V4 (w.heap.size + 1) 26 (ptyP d).cells := hvs 2 (by simp)
          have s2 : Blk V4 (w.heap.size + 1 + 1) 26 (ptyQ d lim).cells := hvs 3 (by simp)
          have KE := Lib.hid (hE.below GE.out (by omega) (by omega))
          clear hvs hE0 hE
          simp [putAll, Act.put]
          go_wp2_with fail
          exact bodyPost_ret (results_cell2 rfl _ _ (w.heap.size + 1) (w.heap.size + 1 + 1) 26 26 (ptyP d).cells (ptyQ d lim).cells (0, 0) (0, 0) _ _ rfl rfl s1 s2 Try.underlying26 rfl (info26 _) Try.underlying26 rfl (info26 _)) rfl ⟨rfl, KE.out⟩
end Go.Proofs.Ytfdcapblgdlkaaa
