/- The reference's explanation of another word of the first party. -/
import Derived.Test.YtfdcapblgdlkaaaRefExplB
namespace Go.Proofs.Ytfdcapblgdlkaaa
open Go.RowKit

set_option maxRecDepth 100000 in
set_option maxHeartbeats 16000000 in
theorem refExplA_any (d : Dl) (lim : Int) (x y q : BitVec 16) (hd : d.fine) (hl : 0 ≤ lim ∧ lim ≤ 15) (hx : fitB 15 x = true) (hy : fitB 15 y = true) (hq : fitB 15 q = true) (p : Bool) (h1 : decide (far16 x y ≤ lim) = p) (h2 : decide (far16 q y ≤ lim) = p) (w : World) : Calls Try.prog 26 #[d.val, .int .i64 lim, .int .u16 (uv x), .int .u16 (uv y), .int .u16 (uv q), .bool true] w fun e w' => e = .returned (.tuple #[(outA d lim x y q).val, .int .i64 0]) ∧ Ext w w' := by
  have C1 := fun w => validDeal_any d hd.ok w
  rw [hd.okB] at C1
  replace C1 := Lib.hid C1
  have CI := fun w => within_any lim 0 15 w
  rw [show inB lim 0 15 = true by simp [inB]; omega] at CI
  replace CI := Lib.hid CI
  have F1 := Lib.hid (fun w => hx ▸ fits_any 15 (by omega) x w)
  have F2 := Lib.hid (fun w => hy ▸ fits_any 15 (by omega) y w)
  have F3 := Lib.hid (fun w => hq ▸ fits_any 15 (by omega) q w)
  have G1 := fun w => Far_any x y w
  generalize far16 x y = f1 at *
  replace G1 := Lib.hid G1
  have G2 := fun w => Far_any q y w
  generalize far16 q y = f2 at *
  replace G2 := Lib.hid G2
  have e1 := (fun h : d.fine => fine_d1A h x q) hd
  have C59 := Lib.hid (fun w => refDealt_any d lim hd.ok w)
  have D59 := Lib.hid (fun w => refDealt_any (d1A d x q) lim e1.ok w)
  have C53 := fun w => talked_any (ptyP d) (ptyQ d lim) x y (fineP hd).1 (fineQ hd lim).1 (fineP hd).2.1 (fineQ hd lim).2.1 (fineP hd).2.2 (fineQ hd lim).2.2 w
  have D53 := fun w => talked_any (ptyP (d1A d x q)) (ptyQ (d1A d x q) lim) q y (fineP e1).1 (fineQ e1 lim).1 (fineP e1).2.1 (fineQ e1 lim).2.1 (fineP e1).2.2 (fineQ e1 lim).2.2 w
  have hTi := say_in (ptyP d) (ptyQ d lim) x y
  have hT1i := say_in (ptyP (d1A d x q)) (ptyQ (d1A d x q) lim) q y
  obtain ⟨T, hTe⟩ : ∃ T, T = talkOf (ptyP d) (ptyQ d lim) x y := ⟨_, rfl⟩
  obtain ⟨T1, hT1e⟩ : ∃ T1, T1 = talkOf (ptyP (d1A d x q)) (ptyQ (d1A d x q) lim) q y := ⟨_, rfl⟩
  rw [← hTe] at C53 hTi
  rw [← hT1e] at D53 hT1i
  have HR := Lib.hid (show (d.rc + T.c - T1.c) % 31 = rcA d lim x y q from by rw [hTe, hT1e]; rfl)
  replace C53 := Lib.hid C53
  replace D53 := Lib.hid D53
  clear hTe hT1e
  go_enter Try.func26, Try.ntmps26
  go_wp2_with (refine wpList_load_row rfl 42 (.tmp 6) rfl (w.heap.size) rfl 42 d.cells (0, 0) _ ((Blk.new w 42 d.cells).alloc _) Try.underlying42 rfl (info42 d) ?_)
  change Calls _ _ _ ((w.alloc (.cells d.cells 42)).alloc (.cells Z78 42)) _
  refine Calls.ext (C1.out _) fun z1 => ?_
  have H12 := Lib.hid ((Blk.new' (w.alloc (.cells d.cells 42)) 42 Z78 (w.heap.size + 1) (by simp)).ext z1)
  have H6 := Lib.hid (((Blk.new w 42 d.cells).alloc (.cells Z78 42)).ext z1)
  have HE := Lib.hid ((((Ext.refl w).alloc (.cells d.cells 42)).alloc (.cells Z78 42)).ext z1)
  generalize ext ((w.alloc (.cells d.cells 42)).alloc (.cells Z78 42)) z1 = W at *
  go_wp2_with fail
  refine Calls.same (CI.out _) ?_
  go_wp2_with fail
  refine Calls.same (F1.out _) ?_
  go_wp2_with fail
  refine Calls.same (F2.out _) ?_
  go_wp2_with fail
  refine Calls.same (F3.out _) ?_
  go_wp2_with fail
  refine Calls.same (G1.out _) ?_
  go_wp2_with fail
  refine Calls.same (G2.out _) ?_
  have hpp : (p != p) = false := by simp
  go_wp2_with ((with_reducible refine pre_op (.load 42 (.tmp 6)) ?_); refine wpList_load_row rfl 42 (.tmp 6) rfl (w.heap.size) rfl 42 d.cells (0, 0) _ H6.out Try.underlying42 rfl (info42 d) ?_)
  refine Calls.ext (C59.out _) fun z2 => ?_
  have hlt := (H12.out.ext z2).lt
  have P1 := Lib.hid ((Blk.new (ext W z2) 26 Z62).alloc (.cells Z62 26))
  have P2 := Lib.hid ((Blk.new' ((ext W z2).alloc (.cells Z62 26)) 26 Z62 ((ext W z2).heap.size + 1) (by simp)).rowFar (k := (ext W z2).heap.size) (by omega) (ptyP d).cells)
  have K16 := Lib.hid ((P1.out.row (ptyP d).cells).rowFar (k := (ext W z2).heap.size + 1) (by omega) (ptyQ d lim).cells)
  have K17 := Lib.hid (P2.out.row (ptyQ d lim).cells)
  have K6 := Lib.hid (((((H6.out.ext z2).alloc (.cells Z62 26)).alloc (.cells Z62 26)).rowFar (k := (ext W z2).heap.size) (by omega) (ptyP d).cells).rowFar (k := (ext W z2).heap.size + 1) (by omega) (ptyQ d lim).cells)
  have K12 := Lib.hid (((((H12.out.ext z2).alloc (.cells Z62 26)).alloc (.cells Z62 26)).rowFar (k := (ext W z2).heap.size) (by omega) (ptyP d).cells).rowFar (k := (ext W z2).heap.size + 1) (by omega) (ptyQ d lim).cells)
  have KE := Lib.hid (((((HE.out.ext z2).alloc (.cells Z62 26)).alloc (.cells Z62 26)).row (g := (ext W z2).heap.size) (by omega) (ptyP d).cells).row (g := (ext W z2).heap.size + 1) (by omega) (ptyQ d lim).cells)
  go_wp2_with (first | ((with_reducible refine pre_op (.store 26 (.tmp 16) (.tmp 67)) ?_); refine wpList_store_row rfl 26 (.tmp 16) (.tmp 67) rfl ((ext W z2).heap.size) rfl 26 Z62 (ptyP d).cells rfl P1.out (info26 _) (z62_size _) pty_one ?_) | ((with_reducible refine pre_op (.store 26 (.tmp 17) (.tmp 68)) ?_); refine wpList_store_row rfl 26 (.tmp 17) (.tmp 68) rfl ((ext W z2).heap.size + 1) rfl 26 Z62 (ptyQ d lim).cells rfl P2.out (info26 _) (z62_size _) pty_one ?_) | ((with_reducible refine pre_op (.load 26 (.tmp 16)) ?_); refine wpList_load_row rfl 26 (.tmp 16) rfl ((ext W z2).heap.size) rfl 26 (ptyP d).cells (0, 0) _ K16.out Try.underlying26 rfl (info26 _) ?_) | ((with_reducible refine pre_op (.load 26 (.tmp 17)) ?_); refine wpList_load_row rfl 26 (.tmp 17) rfl ((ext W z2).heap.size + 1) rfl 26 (ptyQ d lim).cells (0, 0) _ K17.out Try.underlying26 rfl (info26 _) ?_))
  change Calls _ _ _ (((((ext W z2).alloc (.cells Z62 26)).alloc (.cells Z62 26)).setRow (ext W z2).heap.size (ptyP d).cells).setRow ((ext W z2).heap.size + 1) (ptyQ d lim).cells) _
  generalize ((((ext W z2).alloc (.cells Z62 26)).alloc (.cells Z62 26)).setRow (ext W z2).heap.size (ptyP d).cells).setRow ((ext W z2).heap.size + 1) (ptyQ d lim).cells = V1 at *
  clear P1 P2 H6 H12 HE
  generalize (ext W z2).heap.size = G16 at *
  refine Calls.ext (C53.out _) fun z3 => ?_
  have m17 := (K17.out.ext z3).lt
  have m12 := (K12.out.ext z3).lt
  have me := (KE.out.ext z3).size
  have S18 := Lib.hid (Blk.new (ext V1 z3) 29 Z35)
  have S19 := Lib.hid (Blk.new' (((ext V1 z3).alloc (.cells Z35 29)).setRow (ext V1 z3).heap.size T.cells) 42 Z78 ((ext V1 z3).heap.size + 1) (by simp))
  have L18 := Lib.hid (((S18.out.row T.cells).alloc (.cells Z78 42)).rowFar (k := (ext V1 z3).heap.size + 1) (by omega) d.cells)
  have L19 := Lib.hid (S19.out.row d.cells)
  have M6 := Lib.hid ((((K6.out.ext z3).alloc (.cells Z35 29)).rowFar (k := (ext V1 z3).heap.size) (by omega) T.cells))
  have L6 := Lib.hid (((((K6.out.ext z3).alloc (.cells Z35 29)).rowFar (k := (ext V1 z3).heap.size) (by omega) T.cells).alloc (.cells Z78 42)).rowFar (k := (ext V1 z3).heap.size + 1) (by omega) d.cells)
  have L12 := Lib.hid (((((K12.out.ext z3).alloc (.cells Z35 29)).rowFar (k := (ext V1 z3).heap.size) (by omega) T.cells).alloc (.cells Z78 42)).rowFar (k := (ext V1 z3).heap.size + 1) (by omega) d.cells)
  have L16 := Lib.hid (((((K16.out.ext z3).alloc (.cells Z35 29)).rowFar (k := (ext V1 z3).heap.size) (by omega) T.cells).alloc (.cells Z78 42)).rowFar (k := (ext V1 z3).heap.size + 1) (by omega) d.cells)
  have L17 := Lib.hid (((((K17.out.ext z3).alloc (.cells Z35 29)).rowFar (k := (ext V1 z3).heap.size) (by omega) T.cells).alloc (.cells Z78 42)).rowFar (k := (ext V1 z3).heap.size + 1) (by omega) d.cells)
  have LE := Lib.hid (((((KE.out.ext z3).alloc (.cells Z35 29)).row (g := (ext V1 z3).heap.size) (by omega) T.cells).alloc (.cells Z78 42)).row (g := (ext V1 z3).heap.size + 1) (by omega) d.cells)
  go_wp2_with (first | ((with_reducible refine pre_op (.store 29 (.tmp 18) (.tmp 73)) ?_); refine wpList_store_row rfl 29 (.tmp 18) (.tmp 73) rfl ((ext V1 z3).heap.size) rfl 29 Z35 T.cells rfl S18.out (info29t _) (z35t _) tlk_one ?_) | ((with_reducible refine pre_op (.load 42 (.tmp 6)) ?_); refine wpList_load_row rfl 42 (.tmp 6) rfl (w.heap.size) rfl 42 d.cells (0, 0) _ M6.out Try.underlying42 rfl (info42 d) ?_) | ((with_reducible refine pre_op (.store 42 (.tmp 19) (.tmp 74)) ?_); refine wpList_store_row rfl 42 (.tmp 19) (.tmp 74) rfl ((ext V1 z3).heap.size + 1) rfl 42 Z78 d.cells rfl S19.out (info42 d) (z78_size d) dl_one ?_))
  change Code.wp _ _ _ _ (((((ext V1 z3).alloc (.cells Z35 29)).setRow (ext V1 z3).heap.size T.cells).alloc (.cells Z78 42)).setRow ((ext V1 z3).heap.size + 1) d.cells)
  generalize ((((ext V1 z3).alloc (.cells Z35 29)).setRow (ext V1 z3).heap.size T.cells).alloc (.cells Z78 42)).setRow ((ext V1 z3).heap.size + 1) d.cells = U0 at *
  generalize (ext V1 z3).heap.size = G18 at *
  clear S18 S19 M6 K6 K12 K16 K17 KE
  have hda := hd.a
  have hdb := hd.b
  go_loopw [20] (fun i wr => ∃ k : Nat, k ≤ 15 ∧ i = .int .i64 k ∧ Blk wr w.heap.size 42 d.cells ∧ Blk wr (w.heap.size + 1) 42 Z78 ∧ Blk wr G16 26 (ptyP d).cells ∧ Blk wr (G16 + 1) 26 (ptyQ d lim).cells ∧ Blk wr G18 29 T.cells ∧ Blk wr (G18 + 1) 42 (eA d x q k k).cells ∧ Ext w wr) (fun i _ => 15 - (intOf i).toNat)
  case atStart => exact ⟨0, by omega, rfl, L6.out, L12.out, L16.out, L17.out, L18.out, by rw [eA_zero]; exact L19.out, LE.out⟩
  case round =>
    obtain ⟨k, hk, rfl, b6, b12, b16, b17, b18, b19, bE⟩ := hrel
    have N6 := Lib.hid b6
    have N12 := Lib.hid b12
    have N16 := Lib.hid b16
    have N17 := Lib.hid b17
    have N18 := Lib.hid b18
    have N19 := Lib.hid b19
    have NE := Lib.hid bE
    clear b6 b12 b16 b17 b18 b19 bE L6 L12 L16 L17 L18 L19 LE
    by_cases hk15 : k < 15
    · have hk2 : (k : Int) < 15 := by omega
      have xa := hda k hk15
      have xb := hdb k hk15
      have bq := bitI_in q k
      have bxy := bitI_in x k
      have Bq := fun w => bit_any q k (by omega) w
      have Bo := fun w => bit_any x k (by omega) w
      have g1 := Lib.hid (d.at_a k hk15)
      have g2 := Lib.hid (d.at_b k hk15)
      have g3 := Lib.hid ((ptyQ d lim).at_s k hk15)
      have HS := Lib.hid (show (eA d x q (k + 1) k).cells[k]? = some (.int .u8 ((d.a k + bitI q k - bitI x k) % 31)) from (Dl.at_a _ k hk15).trans (by show some (Value.int .u8 (mixG (d1A d x q).a d.a (k + 1) k)) = _; rw [mixG_lt _ _ (by omega)]; rfl))
      have HS2 := Lib.hid (show (eA d x q (k + 1) (k + 1)).cells[30 + k]? = some (.int .u8 (((d.a k + bitI q k - bitI x k) % 31 * d.b k - (ptyQ d lim).s k) % 31)) from (Dl.at_u _ k hk15).trans (by show some (Value.int .u8 (mixG (d1A d x q).u d.u (k + 1) k)) = _; rw [mixG_lt _ _ (by omega)]; rfl))
      have xs : 0 ≤ (ptyQ d lim).s k ∧ (ptyQ d lim).s k < 31 := (fineQ hd lim).2.1 k hk15
      generalize d.a k = ak at *
      generalize d.b k = bk at *
      generalize (ptyQ d lim).s k = sk at *
      generalize bitI q k = vq at *
      generalize bitI x k = vo at *
      have CR := Lib.hid (fun w => rest_any (ak + vq - vo) (by omega) w)
      obtain ⟨r, hr⟩ : ∃ r, (ak + vq - vo) % 31 = r := ⟨_, rfl⟩
      have hrb : 0 ≤ r ∧ r < 31 := by omega
      rw [hr] at CR HS HS2
      clear hr
      replace Bq := Lib.hid Bq
      replace Bo := Lib.hid Bo
      have wa : IntKind.i64.wrap ak = ak := IntWalk.i64_in _ (by omega)
      have wp1 : IntKind.i64.wrap (ak + vq) = ak + vq := IntWalk.i64_in _ (by omega)
      have wp2 : IntKind.i64.wrap (ak + vq - vo) = ak + vq - vo := IntWalk.i64_in _ (by omega)
      have wr8 : IntKind.u8.wrap r = r := by rw [IntKind.wrap_u8]; omega
      have hmb : 0 ≤ r * bk ∧ r * bk ≤ 65025 := ⟨Int.mul_nonneg hrb.1 xb.1, by have : r * bk ≤ 255 * bk := Int.mul_le_mul_of_nonneg_right (by omega) xb.1; omega⟩
      obtain ⟨m, hm⟩ : ∃ m, r * bk = m := ⟨_, rfl⟩
      rw [hm] at hmb HS2
      have CR2 := Lib.hid (fun w => rest_any (m - sk) (by omega) w)
      obtain ⟨r2, hr2⟩ : ∃ r2, (m - sk) % 31 = r2 := ⟨_, rfl⟩
      have hrb2 : 0 ≤ r2 ∧ r2 < 31 := by omega
      rw [hr2] at CR2 HS2
      clear hr2
      have wr1 : IntKind.i64.wrap r = r := IntWalk.i64_in _ (by omega)
      have wb : IntKind.i64.wrap bk = bk := IntWalk.i64_in _ (by omega)
      have wsk : IntKind.i64.wrap sk = sk := IntWalk.i64_in _ (by omega)
      have wm : IntKind.i64.wrap m = m := IntWalk.i64_in _ (by omega)
      have wm2 : IntKind.i64.wrap (m - sk) = m - sk := IntWalk.i64_in _ (by omega)
      have wr82 : IntKind.u8.wrap r2 = r2 := by rw [IntKind.wrap_u8]; omega
      go_wp2_with fail
      refine wp_region_rel1 (R := RT (G18 + 1) 42 ((eA d x q (k + 1) k).cells)) (Vof [isV (.int .i64 (k : Nat)), isV (.int .i64 (k : Nat)), isV (.pointer (some ⟨w.heap.size, 0, none⟩)), isV (.pointer (some ⟨w.heap.size, k, none⟩)), isV (.int .u8 ak), isV (.int .i64 ak), isV (.int .u16 (uv q)), isV (.int .i64 (k : Nat)), isV (.int .i64 vq), isV (.int .i64 (ak + vq)), isV (.int .u16 (uv x)), isV (.int .i64 (k : Nat)), isV (.int .i64 vo), isV (.int .i64 (ak + vq - vo)), isV (.int .i64 r), isV (.int .u8 r), isV (.pointer (some ⟨G18 + 1, 0, none⟩)), isV (.pointer (some ⟨G18 + 1, k, none⟩)), isS (G18 + 1) 42 (eA d x q (k + 1) k).cells k 1]) (by kernel_rfl) (by kernel_rfl) RT.refl RT.trans (Vof_monoR (by simp [isV_monoR, isS_mono])) ?op ?fin
      case op =>
        intro i o ho a V2 _ _ hfrm hE0 hdep
        have hE : RT (G18 + 1) 42 ((eA d x q (k + 1) k).cells) wr V2 := RT.trans _ _ _ (RT.of_ext ((Ext.refl wr).drew)) hE0
        match i, ho with
        | 0, ho =>
          injection ho with ho
          subst ho
          have e1 : a.tmps[20]?.getD undef = .int .i64 (k : Nat) := slot_of (hfrm 20 (frm_of 20 (by kernel_rfl)))
          exact owes_val rfl (by simp [execOp, go_sem, e1]) rfl
        | 1, ho =>
          injection ho with ho
          subst ho
          have e1 : a.tmps[20]?.getD undef = .int .i64 (k : Nat) := slot_of (hfrm 20 (frm_of 20 (by kernel_rfl)))
          exact owes_val rfl (by simp [execOp, go_sem, e1]) rfl
        | 2, ho =>
          injection ho with ho
          subst ho
          have e1 : a.tmps[6]?.getD undef = .pointer (some ⟨w.heap.size, 0, none⟩) := slot_of (hfrm 6 (frm_of 6 (by kernel_rfl)))
          exact owes_val rfl (by simp [execOp, go_sem, e1]) rfl
        | 3, ho =>
          injection ho with ho
          subst ho
          have e1 : a.tmps[82]?.getD undef = .pointer (some ⟨w.heap.size, 0, none⟩) := slot_of (hdep ⟨2, .data⟩ (by simp) (by kernel_rfl))
          have e2 : a.tmps[81]?.getD undef = .int .i64 (k : Nat) := slot_of (hdep ⟨1, .data⟩ (by simp) (by kernel_rfl))
          exact owes_val rfl (by simp [execOp, go_sem, e1, e2, hk2]) rfl
        | 4, ho =>
          injection ho with ho
          subst ho
          have e1 : a.tmps[83]?.getD undef = .pointer (some ⟨w.heap.size, k, none⟩) := slot_of (hdep ⟨3, .data⟩ (by simp) (by kernel_rfl))
          have c1 : V2.cell? ⟨w.heap.size, k, none⟩ = some (.int .u8 ak) := ((hE.blk N6.out (by omega)).cell (k)).trans g1.out
          exact owes_val rfl (by simp [execOp, go_sem, e1, c1]) rfl
        | 5, ho =>
          injection ho with ho
          subst ho
          have e1 : a.tmps[84]?.getD undef = .int .u8 ak := slot_of (hdep ⟨4, .data⟩ (by simp) (by kernel_rfl))
          exact owes_val rfl (by simp [execOp, go_sem, e1, wa]) rfl
        | 6, ho =>
          injection ho with ho
          subst ho
          have e1 : a.tmps[14]?.getD undef = .int .u16 (uv q) := slot_of (hfrm 14 (frm_of 14 (by kernel_rfl)))
          exact owes_val rfl (by simp [execOp, go_sem, e1]) rfl
        | 7, ho =>
          injection ho with ho
          subst ho
          have e1 : a.tmps[20]?.getD undef = .int .i64 (k : Nat) := slot_of (hfrm 20 (frm_of 20 (by kernel_rfl)))
          exact owes_val rfl (by simp [execOp, go_sem, e1]) rfl
        | 8, ho =>
          injection ho with ho
          subst ho
          have e1 : a.tmps[86]?.getD undef = .int .u16 (uv q) := slot_of (hdep ⟨6, .data⟩ (by simp) (by kernel_rfl))
          have e2 : a.tmps[87]?.getD undef = .int .i64 (k : Nat) := slot_of (hdep ⟨7, .data⟩ (by simp) (by kernel_rfl))
          exact owes_call rfl 67 [.tmp 86, .tmp 87] #[27, 3] rfl (by kernel_rfl) [.int .u16 (uv q), .int .i64 (k : Nat)] (by simp [Act.eval, e1, e2]) ((Bq.out _).mono (fun _ _ h => ⟨h.1, h.2 ▸ Ext.refl _⟩)) (fun _ => rfl)
        | 9, ho =>
          injection ho with ho
          subst ho
          have e1 : a.tmps[85]?.getD undef = .int .i64 ak := slot_of (hdep ⟨5, .data⟩ (by simp) (by kernel_rfl))
          have e2 : a.tmps[88]?.getD undef = .int .i64 vq := slot_of (hdep ⟨8, .data⟩ (by simp) (by kernel_rfl))
          exact owes_val rfl (by simp [execOp, go_sem, e1, e2, wp1]) rfl
        | 10, ho =>
          injection ho with ho
          subst ho
          have e1 : a.tmps[2]?.getD undef = .int .u16 (uv x) := slot_of (hfrm 2 (frm_of 2 (by kernel_rfl)))
          exact owes_val rfl (by simp [execOp, go_sem, e1]) rfl
        | 11, ho =>
          injection ho with ho
          subst ho
          have e1 : a.tmps[20]?.getD undef = .int .i64 (k : Nat) := slot_of (hfrm 20 (frm_of 20 (by kernel_rfl)))
          exact owes_val rfl (by simp [execOp, go_sem, e1]) rfl
        | 12, ho =>
          injection ho with ho
          subst ho
          have e1 : a.tmps[90]?.getD undef = .int .u16 (uv x) := slot_of (hdep ⟨10, .data⟩ (by simp) (by kernel_rfl))
          have e2 : a.tmps[91]?.getD undef = .int .i64 (k : Nat) := slot_of (hdep ⟨11, .data⟩ (by simp) (by kernel_rfl))
          exact owes_call rfl 67 [.tmp 90, .tmp 91] #[27, 3] rfl (by kernel_rfl) [.int .u16 (uv x), .int .i64 (k : Nat)] (by simp [Act.eval, e1, e2]) ((Bo.out _).mono (fun _ _ h => ⟨h.1, h.2 ▸ Ext.refl _⟩)) (fun _ => rfl)
        | 13, ho =>
          injection ho with ho
          subst ho
          have e1 : a.tmps[89]?.getD undef = .int .i64 (ak + vq) := slot_of (hdep ⟨9, .data⟩ (by simp) (by kernel_rfl))
          have e2 : a.tmps[92]?.getD undef = .int .i64 vo := slot_of (hdep ⟨12, .data⟩ (by simp) (by kernel_rfl))
          exact owes_val rfl (by simp [execOp, go_sem, e1, e2, wp2]) rfl
        | 14, ho =>
          injection ho with ho
          subst ho
          have e1 : a.tmps[93]?.getD undef = .int .i64 (ak + vq - vo) := slot_of (hdep ⟨13, .data⟩ (by simp) (by kernel_rfl))
          exact owes_call rfl 66 [.tmp 93] #[3] rfl (by kernel_rfl) [.int .i64 (ak + vq - vo)] (by simp [Act.eval, e1]) ((CR.out _).mono (fun _ _ h => ⟨h.1, h.2 ▸ Ext.refl _⟩)) (fun _ => rfl)
        | 15, ho =>
          injection ho with ho
          subst ho
          have e1 : a.tmps[94]?.getD undef = .int .i64 r := slot_of (hdep ⟨14, .data⟩ (by simp) (by kernel_rfl))
          exact owes_val rfl (by simp [execOp, go_sem, e1, wr8]) rfl
        | 16, ho =>
          injection ho with ho
          subst ho
          have e1 : a.tmps[19]?.getD undef = .pointer (some ⟨G18 + 1, 0, none⟩) := slot_of (hfrm 19 (frm_of 19 (by kernel_rfl)))
          exact owes_val rfl (by simp [execOp, go_sem, e1]) rfl
        | 17, ho =>
          injection ho with ho
          subst ho
          have e1 : a.tmps[96]?.getD undef = .pointer (some ⟨G18 + 1, 0, none⟩) := slot_of (hdep ⟨16, .data⟩ (by simp) (by kernel_rfl))
          have e2 : a.tmps[80]?.getD undef = .int .i64 (k : Nat) := slot_of (hdep ⟨0, .data⟩ (by simp) (by kernel_rfl))
          exact owes_val rfl (by simp [execOp, go_sem, e1, e2, hk2]) rfl
        | 18, ho =>
          injection ho with ho
          subst ho
          have e1 : a.tmps[97]?.getD undef = .pointer (some ⟨G18 + 1, k, none⟩) := slot_of (hdep ⟨17, .data⟩ (by simp) (by kernel_rfl))
          have e2 : a.tmps[95]?.getD undef = .int .u8 r := slot_of (hdep ⟨15, .data⟩ (by simp) (by kernel_rfl))
          obtain ⟨cur0, kk1, kk2, _⟩ := hE.part _ N19.out (by rw [Dl.size, Dl.size])
          refine owes_store1 rfl (k) (.int .u8 r) (fun cur hB hs => ?_) ⟨cur0, kk1, kk2⟩ (HS.out) (fun _ h => h)
          have hlt : k < cur.size := by rw [hs, Dl.size]; omega
          have c1 : V2.cell? ⟨G18 + 1, k, none⟩ = some (cur[k]'hlt) := (hB.cell (k)).trans (Array.getElem?_eq_getElem hlt)
          have c2 := hB.frozen (k)
          simp [execOp, go_sem, e1, e2, c1, c2]
        | k + 19, ho => exact absurd (List.getElem?_eq_some_iff.1 ho).1 (by simp)
      case fin =>
        intro vsV4 V4 hE0 hvs
        have hE : RT (G18 + 1) 42 (eA d x q (k + 1) k).cells wr V4 := RT.trans _ _ _ (RT.of_ext ((Ext.refl wr).drew)) hE0
        have s1 := hvs 18 (by simp)
        have f9 := full_gen hE N19.out (by rw [Dl.size, Dl.size]) (fun j => by
          by_cases h1 : j = k
          · exact .inr ⟨k, 1, undef, s1, by omega, by omega⟩
          · exact .inl (eA_ne d x q k k j h1))
        have Q19 := Lib.hid f9
        have Q6 := Lib.hid (hE.blk N6.out (by omega))
        have Q12 := Lib.hid (hE.blk N12.out (by omega))
        have Q16 := Lib.hid (hE.blk N16.out (by omega))
        have Q17 := Lib.hid (hE.blk N17.out (by omega))
        have Q18 := Lib.hid (hE.blk N18.out (by omega))
        have QE := Lib.hid (hE.below NE.out (by omega))
        clear hE hE0 hvs s1 f9
        simp [putAll, Act.put]
        go_wp2_with fail
        refine wp_region_rel1 (R := RT (G18 + 1) 42 ((eA d x q (k + 1) (k + 1)).cells)) (Vof [isV (.int .i64 (k : Nat)), isV (.int .i64 (k : Nat)), isV (.pointer (some ⟨G18 + 1, 0, none⟩)), isV (.pointer (some ⟨G18 + 1, k, none⟩)), isV (.int .u8 r), isV (.int .i64 r), isV (.int .i64 (k : Nat)), isV (.pointer (some ⟨w.heap.size, 15, none⟩)), isV (.pointer (some ⟨w.heap.size, 15 + k, none⟩)), isV (.int .u8 bk), isV (.int .i64 bk), isV (.int .i64 m), isV (.int .i64 (k : Nat)), isV (.pointer (some ⟨G16 + 1, 15, none⟩)), isV (.pointer (some ⟨G16 + 1, 15 + k, none⟩)), isV (.int .u8 sk), isV (.int .i64 sk), isV (.int .i64 (m - sk)), isV (.int .i64 r2), isV (.int .u8 r2), isV (.pointer (some ⟨G18 + 1, 30, none⟩)), isV (.pointer (some ⟨G18 + 1, 30 + k, none⟩)), isS (G18 + 1) 42 (eA d x q (k + 1) (k + 1)).cells (30 + k) 1]) (by kernel_rfl) (by kernel_rfl) RT.refl RT.trans (Vof_monoR (by simp [isV_monoR, isS_mono])) ?op ?fin
        case op =>
          intro i o ho a V2 _ _ hfrm hE0 hdep
          have hE : RT (G18 + 1) 42 ((eA d x q (k + 1) (k + 1)).cells) V4 V2 := RT.trans _ _ _ (RT.of_ext ((Ext.refl V4).drew)) hE0
          match i, ho with
          | 0, ho =>
            injection ho with ho
            subst ho
            have e1 : a.tmps[20]?.getD undef = .int .i64 (k : Nat) := slot_of (hfrm 20 (frm_of 20 (by kernel_rfl)))
            exact owes_val rfl (by simp [execOp, go_sem, e1]) rfl
          | 1, ho =>
            injection ho with ho
            subst ho
            have e1 : a.tmps[20]?.getD undef = .int .i64 (k : Nat) := slot_of (hfrm 20 (frm_of 20 (by kernel_rfl)))
            exact owes_val rfl (by simp [execOp, go_sem, e1]) rfl
          | 2, ho =>
            injection ho with ho
            subst ho
            have e1 : a.tmps[19]?.getD undef = .pointer (some ⟨G18 + 1, 0, none⟩) := slot_of (hfrm 19 (frm_of 19 (by kernel_rfl)))
            exact owes_val rfl (by simp [execOp, go_sem, e1]) rfl
          | 3, ho =>
            injection ho with ho
            subst ho
            have e1 : a.tmps[100]?.getD undef = .pointer (some ⟨G18 + 1, 0, none⟩) := slot_of (hdep ⟨2, .data⟩ (by simp) (by kernel_rfl))
            have e2 : a.tmps[99]?.getD undef = .int .i64 (k : Nat) := slot_of (hdep ⟨1, .data⟩ (by simp) (by kernel_rfl))
            exact owes_val rfl (by simp [execOp, go_sem, e1, e2, hk2]) rfl
          | 4, ho =>
            injection ho with ho
            subst ho
            have e1 : a.tmps[101]?.getD undef = .pointer (some ⟨G18 + 1, k, none⟩) := slot_of (hdep ⟨3, .data⟩ (by simp) (by kernel_rfl))
            obtain ⟨cur1, kk1, kk2, kk3⟩ := hE.part _ Q19.out (by rw [Dl.size, Dl.size])
            have c1 : V2.cell? ⟨G18 + 1, k, none⟩ = some (.int .u8 r) := (kk1.cell k).trans ((kk3 k).elim (fun h => h.trans HS.out) (fun h => h.trans ((eA_keep d x q (k + 1) k k (by omega)).symm.trans HS.out)))
            exact owes_val rfl (by simp [execOp, go_sem, e1, c1]) rfl
          | 5, ho =>
            injection ho with ho
            subst ho
            have e1 : a.tmps[102]?.getD undef = .int .u8 r := slot_of (hdep ⟨4, .data⟩ (by simp) (by kernel_rfl))
            exact owes_val rfl (by simp [execOp, go_sem, e1, wr1]) rfl
          | 6, ho =>
            injection ho with ho
            subst ho
            have e1 : a.tmps[20]?.getD undef = .int .i64 (k : Nat) := slot_of (hfrm 20 (frm_of 20 (by kernel_rfl)))
            exact owes_val rfl (by simp [execOp, go_sem, e1]) rfl
          | 7, ho =>
            injection ho with ho
            subst ho
            have e1 : a.tmps[6]?.getD undef = .pointer (some ⟨w.heap.size, 0, none⟩) := slot_of (hfrm 6 (frm_of 6 (by kernel_rfl)))
            exact owes_val rfl (by simp [execOp, go_sem, e1]) rfl
          | 8, ho =>
            injection ho with ho
            subst ho
            have e1 : a.tmps[105]?.getD undef = .pointer (some ⟨w.heap.size, 15, none⟩) := slot_of (hdep ⟨7, .data⟩ (by simp) (by kernel_rfl))
            have e2 : a.tmps[104]?.getD undef = .int .i64 (k : Nat) := slot_of (hdep ⟨6, .data⟩ (by simp) (by kernel_rfl))
            exact owes_val rfl (by simp [execOp, go_sem, e1, e2, hk2]) rfl
          | 9, ho =>
            injection ho with ho
            subst ho
            have e1 : a.tmps[106]?.getD undef = .pointer (some ⟨w.heap.size, 15 + k, none⟩) := slot_of (hdep ⟨8, .data⟩ (by simp) (by kernel_rfl))
            have c1 : V2.cell? ⟨w.heap.size, 15 + k, none⟩ = some (.int .u8 bk) := ((hE.blk Q6.out (by omega)).cell (15 + k)).trans g2.out
            exact owes_val rfl (by simp [execOp, go_sem, e1, c1]) rfl
          | 10, ho =>
            injection ho with ho
            subst ho
            have e1 : a.tmps[107]?.getD undef = .int .u8 bk := slot_of (hdep ⟨9, .data⟩ (by simp) (by kernel_rfl))
            exact owes_val rfl (by simp [execOp, go_sem, e1, wb]) rfl
          | 11, ho =>
            injection ho with ho
            subst ho
            have e1 : a.tmps[103]?.getD undef = .int .i64 r := slot_of (hdep ⟨5, .data⟩ (by simp) (by kernel_rfl))
            have e2 : a.tmps[108]?.getD undef = .int .i64 bk := slot_of (hdep ⟨10, .data⟩ (by simp) (by kernel_rfl))
            exact owes_val rfl (by simp [execOp, go_sem, e1, e2, hm, wm]) rfl
          | 12, ho =>
            injection ho with ho
            subst ho
            have e1 : a.tmps[20]?.getD undef = .int .i64 (k : Nat) := slot_of (hfrm 20 (frm_of 20 (by kernel_rfl)))
            exact owes_val rfl (by simp [execOp, go_sem, e1]) rfl
          | 13, ho =>
            injection ho with ho
            subst ho
            have e1 : a.tmps[17]?.getD undef = .pointer (some ⟨G16 + 1, 0, none⟩) := slot_of (hfrm 17 (frm_of 17 (by kernel_rfl)))
            exact owes_val rfl (by simp [execOp, go_sem, e1]) rfl
          | 14, ho =>
            injection ho with ho
            subst ho
            have e1 : a.tmps[111]?.getD undef = .pointer (some ⟨G16 + 1, 15, none⟩) := slot_of (hdep ⟨13, .data⟩ (by simp) (by kernel_rfl))
            have e2 : a.tmps[110]?.getD undef = .int .i64 (k : Nat) := slot_of (hdep ⟨12, .data⟩ (by simp) (by kernel_rfl))
            exact owes_val rfl (by simp [execOp, go_sem, e1, e2, hk2]) rfl
          | 15, ho =>
            injection ho with ho
            subst ho
            have e1 : a.tmps[112]?.getD undef = .pointer (some ⟨G16 + 1, 15 + k, none⟩) := slot_of (hdep ⟨14, .data⟩ (by simp) (by kernel_rfl))
            have c1 : V2.cell? ⟨G16 + 1, 15 + k, none⟩ = some (.int .u8 sk) := ((hE.blk Q17.out (by omega)).cell (15 + k)).trans g3.out
            exact owes_val rfl (by simp [execOp, go_sem, e1, c1]) rfl
          | 16, ho =>
            injection ho with ho
            subst ho
            have e1 : a.tmps[113]?.getD undef = .int .u8 sk := slot_of (hdep ⟨15, .data⟩ (by simp) (by kernel_rfl))
            exact owes_val rfl (by simp [execOp, go_sem, e1, wsk]) rfl
          | 17, ho =>
            injection ho with ho
            subst ho
            have e1 : a.tmps[109]?.getD undef = .int .i64 m := slot_of (hdep ⟨11, .data⟩ (by simp) (by kernel_rfl))
            have e2 : a.tmps[114]?.getD undef = .int .i64 sk := slot_of (hdep ⟨16, .data⟩ (by simp) (by kernel_rfl))
            exact owes_val rfl (by simp [execOp, go_sem, e1, e2, wm2]) rfl
          | 18, ho =>
            injection ho with ho
            subst ho
            have e1 : a.tmps[115]?.getD undef = .int .i64 (m - sk) := slot_of (hdep ⟨17, .data⟩ (by simp) (by kernel_rfl))
            exact owes_call rfl 66 [.tmp 115] #[3] rfl (by kernel_rfl) [.int .i64 (m - sk)] (by simp [Act.eval, e1]) ((CR2.out _).mono (fun _ _ h => ⟨h.1, h.2 ▸ Ext.refl _⟩)) (fun _ => rfl)
          | 19, ho =>
            injection ho with ho
            subst ho
            have e1 : a.tmps[116]?.getD undef = .int .i64 r2 := slot_of (hdep ⟨18, .data⟩ (by simp) (by kernel_rfl))
            exact owes_val rfl (by simp [execOp, go_sem, e1, wr82]) rfl
          | 20, ho =>
            injection ho with ho
            subst ho
            have e1 : a.tmps[19]?.getD undef = .pointer (some ⟨G18 + 1, 0, none⟩) := slot_of (hfrm 19 (frm_of 19 (by kernel_rfl)))
            exact owes_val rfl (by simp [execOp, go_sem, e1]) rfl
          | 21, ho =>
            injection ho with ho
            subst ho
            have e1 : a.tmps[118]?.getD undef = .pointer (some ⟨G18 + 1, 30, none⟩) := slot_of (hdep ⟨20, .data⟩ (by simp) (by kernel_rfl))
            have e2 : a.tmps[98]?.getD undef = .int .i64 (k : Nat) := slot_of (hdep ⟨0, .data⟩ (by simp) (by kernel_rfl))
            exact owes_val rfl (by simp [execOp, go_sem, e1, e2, hk2]) rfl
          | 22, ho =>
            injection ho with ho
            subst ho
            have e1 : a.tmps[119]?.getD undef = .pointer (some ⟨G18 + 1, 30 + k, none⟩) := slot_of (hdep ⟨21, .data⟩ (by simp) (by kernel_rfl))
            have e2 : a.tmps[117]?.getD undef = .int .u8 r2 := slot_of (hdep ⟨19, .data⟩ (by simp) (by kernel_rfl))
            obtain ⟨cur0, kk1, kk2, _⟩ := hE.part _ Q19.out (by rw [Dl.size, Dl.size])
            refine owes_store1 rfl (30 + k) (.int .u8 r2) (fun cur hB hs => ?_) ⟨cur0, kk1, kk2⟩ (HS2.out) (fun _ h => h)
            have hlt : 30 + k < cur.size := by rw [hs, Dl.size]; omega
            have c1 : V2.cell? ⟨G18 + 1, 30 + k, none⟩ = some (cur[30 + k]'hlt) := (hB.cell (30 + k)).trans (Array.getElem?_eq_getElem hlt)
            have c2 := hB.frozen (30 + k)
            simp [execOp, go_sem, e1, e2, c1, c2]
          | k + 23, ho => exact absurd (List.getElem?_eq_some_iff.1 ho).1 (by simp)
        case fin =>
          intro vsV5 V5 hE0 hvs
          have hE : RT (G18 + 1) 42 (eA d x q (k + 1) (k + 1)).cells V4 V5 := RT.trans _ _ _ (RT.of_ext ((Ext.refl V4).drew)) hE0
          have s1 := hvs 22 (by simp)
          have f9 := full_gen hE Q19.out (by rw [Dl.size, Dl.size]) (fun j => by
            by_cases h1 : j = 30 + k
            · exact .inr ⟨30 + k, 1, undef, s1, by omega, by omega⟩
            · exact .inl (eA_ne2 d x q (k + 1) k j h1))
          have J19 := Lib.hid f9
          have J6 := Lib.hid (hE.blk Q6.out (by omega))
          have J12 := Lib.hid (hE.blk Q12.out (by omega))
          have J16 := Lib.hid (hE.blk Q16.out (by omega))
          have J17 := Lib.hid (hE.blk Q17.out (by omega))
          have J18 := Lib.hid (hE.blk Q18.out (by omega))
          have JE := Lib.hid (hE.below QE.out (by omega))
          clear hE hE0 hvs s1 f9
          simp [putAll, Act.put]
          go_wp2_with fail
          exact ⟨⟨k + 1, by omega, by go_num, J6.out, J12.out, J16.out, J17.out, J18.out, J19.out, JE.out⟩, by simp [intOf]; omega⟩
    · obtain rfl : k = 15 := by omega
      have n19 := N19.out
      rw [eA_end] at n19
      replace N19 := Lib.hid n19
      clear n19 hda hdb
      go_wp2_with ((with_reducible refine pre_op (.load 42 (.tmp 19)) ?_); refine wpList_load_row rfl 42 (.tmp 19) rfl (G18 + 1) rfl 42 (d1A d x q).cells (0, 0) _ N19.out Try.underlying42 rfl (info42 _) ?_)
      refine Calls.ext (D59.out _) fun z4 => ?_
      have m3 := (N19.out.ext z4).lt
      have S16 := Lib.hid ((N16.out.ext z4).alloc (.cells Z62 26))
      have S21 := Lib.hid ((Blk.new (ext wr z4) 26 Z62).rowFar (k := G16) (by omega) (ptyP (d1A d x q)).cells)
      have Q16 := Lib.hid ((S16.out.row (ptyP (d1A d x q)).cells).rowFar (k := (ext wr z4).heap.size) (by omega) (ptyQ (d1A d x q) lim).cells)
      have Q21 := Lib.hid (S21.out.row (ptyQ (d1A d x q) lim).cells)
      have Q6 := Lib.hid (((N6.out.ext z4).alloc (.cells Z62 26)).rowFar (k := G16) (by omega) (ptyP (d1A d x q)).cells |>.rowFar (k := (ext wr z4).heap.size) (by omega) (ptyQ (d1A d x q) lim).cells)
      have Q12 := Lib.hid (((N12.out.ext z4).alloc (.cells Z62 26)).rowFar (k := G16) (by omega) (ptyP (d1A d x q)).cells |>.rowFar (k := (ext wr z4).heap.size) (by omega) (ptyQ (d1A d x q) lim).cells)
      have Q17 := Lib.hid (((N17.out.ext z4).alloc (.cells Z62 26)).rowFar (k := G16) (by omega) (ptyP (d1A d x q)).cells |>.rowFar (k := (ext wr z4).heap.size) (by omega) (ptyQ (d1A d x q) lim).cells)
      have Q18 := Lib.hid (((N18.out.ext z4).alloc (.cells Z62 26)).rowFar (k := G16) (by omega) (ptyP (d1A d x q)).cells |>.rowFar (k := (ext wr z4).heap.size) (by omega) (ptyQ (d1A d x q) lim).cells)
      have Q19 := Lib.hid (((N19.out.ext z4).alloc (.cells Z62 26)).rowFar (k := G16) (by omega) (ptyP (d1A d x q)).cells |>.rowFar (k := (ext wr z4).heap.size) (by omega) (ptyQ (d1A d x q) lim).cells)
      have QE := Lib.hid (((NE.out.ext z4).alloc (.cells Z62 26)).row (g := G16) (by omega) (ptyP (d1A d x q)).cells |>.row (g := (ext wr z4).heap.size) (by omega) (ptyQ (d1A d x q) lim).cells)
      go_wp2_with (first | ((with_reducible refine pre_op (.store 26 (.tmp 16) (.tmp 142)) ?_); refine wpList_store_row rfl 26 (.tmp 16) (.tmp 142) rfl (G16) rfl 26 (ptyP d).cells (ptyP (d1A d x q)).cells rfl S16.out (info26 _) ((Pty.size _).trans (Pty.size _).symm) pty_one ?_) | ((with_reducible refine pre_op (.store 26 (.tmp 21) (.tmp 143)) ?_); refine wpList_store_row rfl 26 (.tmp 21) (.tmp 143) rfl ((ext wr z4).heap.size) rfl 26 Z62 (ptyQ (d1A d x q) lim).cells rfl S21.out (info26 _) (z62_size _) pty_one ?_) | ((with_reducible refine pre_op (.load 26 (.tmp 16)) ?_); refine wpList_load_row rfl 26 (.tmp 16) rfl (G16) rfl 26 (ptyP (d1A d x q)).cells (0, 0) _ Q16.out Try.underlying26 rfl (info26 _) ?_) | ((with_reducible refine pre_op (.load 26 (.tmp 21)) ?_); refine wpList_load_row rfl 26 (.tmp 21) rfl ((ext wr z4).heap.size) rfl 26 (ptyQ (d1A d x q) lim).cells (0, 0) _ Q21.out Try.underlying26 rfl (info26 _) ?_))
      change Calls _ _ _ ((((ext wr z4).alloc (.cells Z62 26)).setRow G16 (ptyP (d1A d x q)).cells).setRow (ext wr z4).heap.size (ptyQ (d1A d x q) lim).cells) _
      generalize (((ext wr z4).alloc (.cells Z62 26)).setRow G16 (ptyP (d1A d x q)).cells).setRow (ext wr z4).heap.size (ptyQ (d1A d x q) lim).cells = U1 at *
      generalize (ext wr z4).heap.size = G21 at *
      clear S16 S21 N6 N12 N16 N17 N18 N19 NE
      refine Calls.ext (D53.out _) fun z5 => ?_
      have m4 := (Q21.out.ext z5).lt
      have S22 := Lib.hid (Blk.new (ext U1 z5) 29 Z35)
      have R22 := Lib.hid (S22.out.row T1.cells)
      have R6 := Lib.hid (((Q6.out.ext z5).alloc (.cells Z35 29)).rowFar (k := (ext U1 z5).heap.size) (by omega) T1.cells)
      have R12 := Lib.hid (((Q12.out.ext z5).alloc (.cells Z35 29)).rowFar (k := (ext U1 z5).heap.size) (by omega) T1.cells)
      have R17 := Lib.hid (((Q17.out.ext z5).alloc (.cells Z35 29)).rowFar (k := (ext U1 z5).heap.size) (by omega) T1.cells)
      have R18 := Lib.hid (((Q18.out.ext z5).alloc (.cells Z35 29)).rowFar (k := (ext U1 z5).heap.size) (by omega) T1.cells)
      have R19 := Lib.hid (((Q19.out.ext z5).alloc (.cells Z35 29)).rowFar (k := (ext U1 z5).heap.size) (by omega) T1.cells)
      have RE := Lib.hid (((QE.out.ext z5).alloc (.cells Z35 29)).row (g := (ext U1 z5).heap.size) (by omega) T1.cells)
      have t18 := Lib.hid (((R18.out).cell 30).trans (Tlk.at_x T 0))
      have t22 := Lib.hid (((R22.out).cell 30).trans (Tlk.at_x T1 0))
      have hrs := hd.rc
      have hTs := hTi.1
      have hT1s := hT1i.1
      have w1 : IntKind.i64.wrap d.rc = d.rc := IntWalk.i64_in _ (by omega)
      have w2 : IntKind.i64.wrap T.c = T.c := IntWalk.i64_in _ (by omega)
      have w3 : IntKind.i64.wrap T1.c = T1.c := IntWalk.i64_in _ (by omega)
      have CR := fun w => rest_any (d.rc + T.c - T1.c) (by omega) w
      rw [HR.out] at CR
      replace CR := Lib.hid CR
      have hnb := rcA_in d lim x y q
      have w4 : IntKind.u8.wrap (rcA d lim x y q) = (rcA d lim x y q) := by rw [IntKind.wrap_u8]; omega
      go_wp2_with (first | ((with_reducible refine pre_op (.store 29 (.tmp 22) (.tmp 148)) ?_); refine wpList_store_row rfl 29 (.tmp 22) (.tmp 148) rfl ((ext U1 z5).heap.size) rfl 29 Z35 T1.cells rfl S22.out (info29t _) (z35t _) tlk_one ?_) | ((with_reducible refine pre_op (.load 5 (.tmp 150)) ?_); refine wpList_load_one rfl 5 (.tmp 150) rfl agg5 ⟨w.heap.size, 45, none⟩ rfl (.int .u8 d.rc) (cut_rc R6.out) ?_) | ((with_reducible refine pre_op (.load 5 (.tmp 153)) ?_); refine wpList_load_one rfl 5 (.tmp 153) rfl agg5 ⟨G18, 30, none⟩ rfl (.int .u8 T.c) (t18.out) ?_) | ((with_reducible refine pre_op (.load 5 (.tmp 157)) ?_); refine wpList_load_one rfl 5 (.tmp 157) rfl agg5 ⟨(ext U1 z5).heap.size, 30, none⟩ rfl (.int .u8 T1.c) (t22.out) ?_))
      change Calls _ _ _ (((ext U1 z5).alloc (.cells Z35 29)).setRow (ext U1 z5).heap.size T1.cells) _
      generalize ((ext U1 z5).alloc (.cells Z35 29)).setRow (ext U1 z5).heap.size T1.cells = U2 at *
      clear S22 t18 t22
      refine Calls.same (CR.out _) ?_
      have t19 : U2.cell? ⟨G18 + 1, 45, none⟩ = some (.int .u8 d.rc) := cut_rc (d := (d1A d x q)) R19.out
      have tf := R19.out.frozen
      have to := Old.mk R19.out.lt
      have x19 := dl_ext (d := (Dl.mk (d1A d x q).a d.b (d1A d x q).u (rcA d lim x y q) d.rs d.t)) (R19.out.set_ 45 (.int .u8 (rcA d lim x y q))) (fun j => by
        rw [Array.getElem?_setIfInBounds]
        split
        · rename_i hj
          subst hj
          rw [if_pos (by rw [Dl.size]; omega), Dl.at_rc]
        · rename_i hj
          exact dl_eq j (.inr rfl) (.inr (.inr rfl)) (.inr (.inr rfl)) (.inl (fun h => hj h.symm)) (.inr rfl) (.inr rfl))
      have X19 := Lib.hid x19
      clear x19
      have nT : ∀ b n, b < G18 + 1 → b ≠ (⟨G18 + 1, n, none⟩ : Addr).block := fun b n hb => by show b ≠ G18 + 1; omega
      have X6 := Lib.hid (R6.out.far (nT w.heap.size 45 (by omega)) (.int .u8 (rcA d lim x y q)))
      have X12 := Lib.hid (R12.out.far (nT (w.heap.size + 1) 45 (by omega)) (.int .u8 (rcA d lim x y q)))
      have X17 := Lib.hid (R17.out.far (nT (G16 + 1) 45 (by omega)) (.int .u8 (rcA d lim x y q)))
      have XE := Lib.hid (RE.out.setCell (p := ⟨G18 + 1, 45, none⟩) (by show w.heap.size ≤ G18 + 1; omega) (.int .u8 (rcA d lim x y q)))
      have CT := Lib.hid (fun w => turned_any (ptyQ d lim).t (rcA d lim x y q) d.rs lim (fun i _ => tabO_in _ _ _ _ i) (by unfold rcA; omega) (by have := hd.rs; omega) w)
      have hrs2 := hd.rs
      have w5 : IntKind.i64.wrap d.rs = d.rs := IntWalk.i64_in _ (by omega)
      have w6 : IntKind.i64.wrap (rcA d lim x y q) = rcA d lim x y q := IntWalk.i64_in _ (by omega)
      go_wp2_with (first | ((with_reducible refine pre_op (.load 24 (.tmp 164)) ?_); refine wpList_load_sub rfl 24 (.tmp 164) rfl (G16 + 1) 31 rfl 31 (u32V (ptyQ d lim).t) _ (fun j hj => (X17.out.cell (31 + j)).trans ((ptyQ d lim).at_t j hj)) Try.underlying24 rfl info24 ?_) | ((with_reducible refine pre_op (.load 5 (.tmp 166)) ?_); refine wpList_load_one rfl 5 (.tmp 166) rfl agg5 ⟨G18 + 1, 45, none⟩ rfl (.int .u8 (rcA d lim x y q)) (cut_rc (d := (Dl.mk (d1A d x q).a d.b (d1A d x q).u (rcA d lim x y q) d.rs d.t)) X19.out) ?_) | ((with_reducible refine pre_op (.load 5 (.tmp 169)) ?_); refine wpList_load_one rfl 5 (.tmp 169) rfl agg5 ⟨w.heap.size, 46, none⟩ rfl (.int .u8 d.rs) (cut_rs X6.out) ?_))
      refine Calls.ext (CT.out _) fun z6 => ?_
      have Y19 := Lib.hid (X19.out.ext z6)
      have Y12 := Lib.hid ((X12.out.ext z6).rowFar (k := G18 + 1) (by omega) (Dl.mk (d1A d x q).a d.b (d1A d x q).u (rcA d lim x y q) d.rs (tabO (ptyQ d lim).t (rcA d lim x y q) d.rs lim)).cells)
      have Z19 := Lib.hid ((X19.out.ext z6).row (Dl.mk (d1A d x q).a d.b (d1A d x q).u (rcA d lim x y q) d.rs (tabO (ptyQ d lim).t (rcA d lim x y q) d.rs lim)).cells)
      have YE := Lib.hid ((XE.out.ext z6).row (g := G18 + 1) (by omega) (Dl.mk (d1A d x q).a d.b (d1A d x q).u (rcA d lim x y q) d.rs (tabO (ptyQ d lim).t (rcA d lim x y q) d.rs lim)).cells)
      have HSZ := Lib.hid (show (Dl.mk (d1A d x q).a d.b (d1A d x q).u (rcA d lim x y q) d.rs d.t).cells.size = (Dl.mk (d1A d x q).a d.b (d1A d x q).u (rcA d lim x y q) d.rs (tabO (ptyQ d lim).t (rcA d lim x y q) d.rs lim)).cells.size by rw [Dl.size, Dl.size])
      have HIN := Lib.hid (show ∀ j, j < 31 → (Dl.mk (d1A d x q).a d.b (d1A d x q).u (rcA d lim x y q) d.rs (tabO (ptyQ d lim).t (rcA d lim x y q) d.rs lim)).cells[47 + j]? = some (u32V (tabO (ptyQ d lim).t (rcA d lim x y q) d.rs lim) j) from fun j hj => Dl.at_t (Dl.mk (d1A d x q).a d.b (d1A d x q).u (rcA d lim x y q) d.rs (tabO (ptyQ d lim).t (rcA d lim x y q) d.rs lim)) j hj)
      have HOUT := Lib.hid (show ∀ j : Nat, (j < 47 ∨ 47 + 31 ≤ j) → (Dl.mk (d1A d x q).a d.b (d1A d x q).u (rcA d lim x y q) d.rs (tabO (ptyQ d lim).t (rcA d lim x y q) d.rs lim)).cells[j]? = (Dl.mk (d1A d x q).a d.b (d1A d x q).u (rcA d lim x y q) d.rs d.t).cells[j]? from fun j hj => by
        rcases hj with hj | hj
        · exact dl_eq j (.inr rfl) (.inr (.inr rfl)) (.inr (.inr rfl)) (.inr rfl) (.inr rfl) (.inl (by omega))
        · rw [Array.getElem?_eq_none (by rw [Dl.size]; omega), Array.getElem?_eq_none (by rw [Dl.size]; omega)])
      have HLE := Lib.hid (show 47 + 31 ≤ (Dl.mk (d1A d x q).a d.b (d1A d x q).u (rcA d lim x y q) d.rs (tabO (ptyQ d lim).t (rcA d lim x y q) d.rs lim)).cells.size by rw [Dl.size]; omega)
      go_wp2_with (first | ((with_reducible refine pre_op (.store 24 (.tmp 174) (.tmp 173)) ?_); refine wpList_store_sub rfl 24 (.tmp 174) (.tmp 173) rfl (G18 + 1) 47 rfl 31 (u32V (tabO (ptyQ d lim).t (rcA d lim x y q) d.rs lim)) rfl info24 (fun _ _ => rfl) 42 (Dl.mk (d1A d x q).a d.b (d1A d x q).u (rcA d lim x y q) d.rs d.t).cells (Dl.mk (d1A d x q).a d.b (d1A d x q).u (rcA d lim x y q) d.rs (tabO (ptyQ d lim).t (rcA d lim x y q) d.rs lim)).cells Y19.out HSZ.out HIN.out HOUT.out HLE.out ?_) | ((with_reducible refine pre_op (.load 42 (.tmp 19)) ?_); refine wpList_load_row rfl 42 (.tmp 19) rfl (G18 + 1) rfl 42 (Dl.mk (d1A d x q).a d.b (d1A d x q).u (rcA d lim x y q) d.rs (tabO (ptyQ d lim).t (rcA d lim x y q) d.rs lim)).cells (0, 0) _ Z19.out Try.underlying42 rfl (info42 _) ?_) | ((with_reducible refine pre_op (.store 42 (.tmp 12) (.tmp 189)) ?_); refine wpList_store_row rfl 42 (.tmp 12) (.tmp 189) rfl (w.heap.size + 1) rfl 42 Z78 (Dl.mk (d1A d x q).a d.b (d1A d x q).u (rcA d lim x y q) d.rs (tabO (ptyQ d lim).t (rcA d lim x y q) d.rs lim)).cells rfl Y12.out (info42 _) (z78_size _) dl_one ?_))
      refine bodyPost_ret (results_cell_tmp rfl _ _ (w.heap.size + 1) 42 (Dl.mk (d1A d x q).a d.b (d1A d x q).u (rcA d lim x y q) d.rs (tabO (ptyQ d lim).t (rcA d lim x y q) d.rs lim)).cells (0, 0) _ rfl (Y12.out.row (Dl.mk (d1A d x q).a d.b (d1A d x q).u (rcA d lim x y q) d.rs (tabO (ptyQ d lim).t (rcA d lim x y q) d.rs lim)).cells) Try.underlying42 rfl (info42 _)) rfl ⟨ret_of (by rw [outA_eq]; rfl), YE.out.row (by omega) _⟩
end Go.Proofs.Ytfdcapblgdlkaaa
