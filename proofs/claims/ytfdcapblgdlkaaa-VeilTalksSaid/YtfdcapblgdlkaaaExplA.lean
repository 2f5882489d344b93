/- The deal that explains another word of the first party. -/
import Derived.Test.YtfdcapblgdlkaaaExplHead
namespace Go.Proofs.Ytfdcapblgdlkaaa
open Go.RowKit

set_option maxRecDepth 100000 in
set_option maxHeartbeats 16000000 in
theorem explA_any (d : Dl) (lim : Int) (x y q : BitVec 16) (hd : d.fine) (hl : 0 ≤ lim ∧ lim ≤ 15) (hx : fitB 15 x = true) (hy : fitB 15 y = true) (ho : fitB 15 q = true) (b : Bool) (hb : b = (decide (farS x y ≤ lim) == decide (farS q y ≤ lim))) (w : World) : Calls Try.prog 25 #[d.val, .int .i64 lim, .int .u16 (uv x), .int .u16 (uv y), .int .u16 (uv q), .bool true] w fun e w' => e = .returned (explV b (outA d lim x y q).cells) ∧ Ext w w' := by
  obtain ⟨p1, p2, p3⟩ := par_0 hd.okB hl
  have C1 := fun w => Parties_any d lim hd.ok w
  rw [p1, p2, p3] at C1
  have hP := ptyP_ok hd.ok
  have hQ := ptyQ_ok hd.ok lim
  have h1 := fine_d1A hd x q
  have hP1 := ptyP_ok h1.ok
  have hQ1 := ptyQ_ok h1.ok lim
  have h2 := fine_outA hd lim x y q
  have hP2 := ptyP_ok h2.ok
  have hQ2 := ptyQ_ok h2.ok lim
  have C2 := Lib.hid (fun w => play_any (ptyP d) (ptyQ d lim) x y hP.m hQ.m hP.s hQ.s hP.sh hQ.sh w)
  have C3 := Lib.hid (fun w => parties_any (d1A d x q) lim h1.ok w)
  have C4 := Lib.hid (fun w => play_any (ptyP (d1A d x q)) (ptyQ (d1A d x q) lim) q y hP1.m hQ1.m hP1.s hQ1.s hP1.sh hQ1.sh w)
  have C5 := Lib.hid (fun w => parties_any (outA d lim x y q) lim h2.ok w)
  have C6 := Lib.hid (fun w => play_any (ptyP (outA d lim x y q)) (ptyQ (outA d lim x y q) lim) q y hP2.m hQ2.m hP2.s hQ2.s hP2.sh hQ2.sh w)
  have CE := Lib.hid (fun w => talk_cmp (talk_ok (ptyP (outA d lim x y q)) (ptyQ (outA d lim x y q) lim) q y) (talk_ok (ptyP d) (ptyQ d lim) x y) b (fun e => outA_same hd lim x y q (by rw [hb] at e; simpa using e)) (fun e => by
    rw [match_law (outA d lim x y q) h2.ok lim, match_law d hd.ok lim]
    rw [hb] at e
    intro hh
    rw [hh] at e
    simp at e) w)
  have C1 := Lib.hid C1
  have hbo : ∀ i, i < 15 → 0 ≤ bitI q i ∧ bitI q i < 256 := fun i _ => by have := bitI_in q i; omega
  have hT := talk_ok (ptyP d) (ptyQ d lim) x y
  have hT1 := talk_ok (ptyP (d1A d x q)) (ptyQ (d1A d x q) lim) q y
  have hmx : decide (32768 ≤ mx (mx (uv x) (uv y)) (uv q)) = false := by
    have h1 := fit15 hx
    have h2 := fit15 hy
    have h3 := fit15 ho
    simp only [mx_max, decide_eq_false_iff_not]; omega
  have CA := Lib.hid (fun w => d1A_a d x q ▸ eachMinus_any (bitI q) (talkOf (ptyP d) (ptyQ d lim) x y).d hbo hT.d w)
  have hF : ∀ i, i < 15 → 0 ≤ (fun i => ((d1A d x q).a i * d.b i) % 31) i ∧ (fun i => ((d1A d x q).a i * d.b i) % 31) i < 256 := fun i _ => by show 0 ≤ ((d1A d x q).a i * d.b i) % 31 ∧ ((d1A d x q).a i * d.b i) % 31 < 256; omega
  have CT := Lib.hid (fun w => eachTimes_any (d1A d x q).a d.b h1.ok.a hd.ok.b w)
  have CU := Lib.hid (fun w => d1A_u d x q ▸ eachMinus_any (fun i => ((d1A d x q).a i * d.b i) % 31) (ptyQ d lim).s hF hQ.s w)
  have CO := Lib.hid (fun w => other_any (ptyQ d lim).t (rcA d lim x y q) d.rs lim hQ.t (by unfold rcA; omega) hd.ok.rs w)
  have CP := Lib.hid (fun w => plus_any d.rc (talkOf (ptyP d) (ptyQ d lim) x y).c (by have := hd.rc; omega) (by have := hT.c; omega) w)
  have CM := Lib.hid (show ∀ w, Calls Try.prog 61 #[.int .i64 ((d.rc + (talkOf (ptyP d) (ptyQ d lim) x y).c) % 31), .int .i64 (talkOf (ptyP (d1A d x q)) (ptyQ (d1A d x q) lim) q y).c] w fun e w' => e = .returned (.int .i64 (rcA d lim x y q)) ∧ w = w' from fun w => by
    have h3 := minus_any ((d.rc + (talkOf (ptyP d) (ptyQ d lim) x y).c) % 31) (talkOf (ptyP (d1A d x q)) (ptyQ (d1A d x q) lim) q y).c (by omega) (by have := hT1.c; omega) w
    have e : ((d.rc + (talkOf (ptyP d) (ptyQ d lim) x y).c) % 31 - (talkOf (ptyP (d1A d x q)) (ptyQ (d1A d x q) lim) q y).c) % 31 = rcA d lim x y q := by
      show ((d.rc + sayC (ptyP d) (ptyQ d lim) x y) % 31 - sayC (ptyP (d1A d x q)) (ptyQ (d1A d x q) lim) q y) % 31 = (d.rc + sayC (ptyP d) (ptyQ d lim) x y - sayC (ptyP (d1A d x q)) (ptyQ (d1A d x q) lim) q y) % 31
      omega
    rwa [e] at h3)
  have hnb := rcA_in d lim x y q
  have WS := Lib.hid (show ∀ n : Int, 0 ≤ n ∧ n < 256 → IntKind.i64.wrap n = n ∧ IntKind.u8.wrap n = n from fun n hn => ⟨IntWalk.i64_in _ (by omega), by rw [IntKind.wrap_u8]; omega⟩)
  have hrc := hd.ok.rc
  have hrs := hd.ok.rs
  have hTc := hT.c
  have hTs := hT.s
  have hT1c := hT1.c
  have hT1s := hT1.s
  obtain ⟨cb, hcb⟩ : ∃ cb, cb = b := ⟨_, rfl⟩
  rw [← hcb] at CE
  have HCB := Lib.hid hcb
  clear hcb hb hP hQ hP1 hQ1 hP2 hQ2 h1 h2 hT hT1 hbo p1 p2 p3 hx hy ho hl hd hF
  obtain ⟨T, hTe⟩ : ∃ T, T = talkOf (ptyP d) (ptyQ d lim) x y := ⟨_, rfl⟩
  obtain ⟨T1, hT1e⟩ : ∃ T1, T1 = talkOf (ptyP (d1A d x q)) (ptyQ (d1A d x q) lim) q y := ⟨_, rfl⟩
  obtain ⟨T2, hT2e⟩ : ∃ T2, T2 = talkOf (ptyP (outA d lim x y q)) (ptyQ (outA d lim x y q) lim) q y := ⟨_, rfl⟩
  rw [← hTe] at C2 CE CA CP CM hTc hTs
  rw [← hT1e] at C4 CM hT1c hT1s
  rw [← hT2e] at C6 CE
  clear hTe hT1e hT2e
  go_enter Try.func25, Try.ntmps25
  go_wp2_with (refine wpList_load_row rfl 42 (.tmp 6) rfl (w.heap.size) rfl 42 d.cells (0, 0) _ ((Blk.new w 42 d.cells).alloc _) Try.underlying42 rfl (info42 d) ?_)
  change Calls _ _ _ ((w.alloc (.cells d.cells 42)).alloc (.cells Z78 42)) _
  refine Calls.ext (C1.out _) fun z1 => ?_
  have H6 := Lib.hid (((Blk.new w 42 d.cells).alloc (.cells Z78 42)).ext z1)
  have H12 := Lib.hid ((Blk.new' (w.alloc (.cells d.cells 42)) 42 Z78 (w.heap.size + 1) (by simp)).ext z1)
  have HE := Lib.hid ((((Ext.refl w).alloc (.cells d.cells 42)).alloc (.cells Z78 42)).ext z1)
  generalize ext ((w.alloc (.cells d.cells 42)).alloc (.cells Z78 42)) z1 = W at *
  have hlt := H12.out.lt
  have P1 := Lib.hid ((Blk.new W 26 Z62).alloc (.cells Z62 26))
  have P2 := Lib.hid ((Blk.new' (W.alloc (.cells Z62 26)) 26 Z62 (W.heap.size + 1) (by simp)).rowFar (k := W.heap.size) (by omega) (ptyP d).cells)
  have K14 := Lib.hid ((P1.out.row (ptyP d).cells).rowFar (k := W.heap.size + 1) (by omega) (ptyQ d lim).cells)
  have K15 := Lib.hid (P2.out.row (ptyQ d lim).cells)
  have K6 := Lib.hid ((((H6.out.alloc (.cells Z62 26)).alloc (.cells Z62 26)).rowFar (k := W.heap.size) (by omega) (ptyP d).cells).rowFar (k := W.heap.size + 1) (by omega) (ptyQ d lim).cells)
  have K12 := Lib.hid ((((H12.out.alloc (.cells Z62 26)).alloc (.cells Z62 26)).rowFar (k := W.heap.size) (by omega) (ptyP d).cells).rowFar (k := W.heap.size + 1) (by omega) (ptyQ d lim).cells)
  have KE := Lib.hid ((((HE.out.alloc (.cells Z62 26)).alloc (.cells Z62 26)).row (g := W.heap.size) (by omega) (ptyP d).cells).row (g := W.heap.size + 1) (by omega) (ptyQ d lim).cells)
  go_wp2_with (first | (refine wpList_max3 rfl (.tmp 34) (.tmp 35) (.tmp 36) #[27, 27, 27] rfl .u16 (uv x) (uv y) (uv q) rfl rfl rfl ?_) | (refine wpList_store_row rfl 26 (.tmp 14) (.tmp 27) rfl W.heap.size rfl 26 Z62 (ptyP d).cells rfl P1.out (info26 _) (z62_size _) pty_one ?_) | (refine wpList_store_row rfl 26 (.tmp 15) (.tmp 28) rfl (W.heap.size + 1) rfl 26 Z62 (ptyQ d lim).cells rfl P2.out (info26 _) (z62_size _) pty_one ?_) | (refine wpList_load_row rfl 26 (.tmp 14) rfl W.heap.size rfl 26 (ptyP d).cells (0, 0) _ K14.out Try.underlying26 rfl (info26 _) ?_) | (refine wpList_load_row rfl 26 (.tmp 15) rfl (W.heap.size + 1) rfl 26 (ptyQ d lim).cells (0, 0) _ K15.out Try.underlying26 rfl (info26 _) ?_))
  change Calls _ _ _ ((((W.alloc (.cells Z62 26)).alloc (.cells Z62 26)).setRow W.heap.size (ptyP d).cells).setRow (W.heap.size + 1) (ptyQ d lim).cells) _
  generalize (((W.alloc (.cells Z62 26)).alloc (.cells Z62 26)).setRow W.heap.size (ptyP d).cells).setRow (W.heap.size + 1) (ptyQ d lim).cells = V1 at *
  clear P1 P2 H6 H12 HE hmx
  generalize W.heap.size = G14 at *
  refine Calls.ext (C2.out _) fun z2 => ?_
  have m15 := (K15.out.ext z2).lt
  have m12 := (K12.out.ext z2).lt
  have me := (KE.out.ext z2).size
  have S17 := Lib.hid (Blk.new (ext V1 z2) 29 Z35)
  have S18 := Lib.hid (Blk.new' (((ext V1 z2).alloc (.cells Z35 29)).setRow (ext V1 z2).heap.size T.cells) 42 Z78 ((ext V1 z2).heap.size + 1) (by simp))
  have L17 := Lib.hid (((S17.out.row T.cells).alloc (.cells Z78 42)).rowFar (k := (ext V1 z2).heap.size + 1) (by omega) d.cells)
  have L18 := Lib.hid (S18.out.row d.cells)
  have M6 := Lib.hid ((((K6.out.ext z2).alloc (.cells Z35 29)).rowFar (k := (ext V1 z2).heap.size) (by omega) T.cells))
  have L6 := Lib.hid (((((K6.out.ext z2).alloc (.cells Z35 29)).rowFar (k := (ext V1 z2).heap.size) (by omega) T.cells).alloc (.cells Z78 42)).rowFar (k := (ext V1 z2).heap.size + 1) (by omega) d.cells)
  have L12 := Lib.hid (((((K12.out.ext z2).alloc (.cells Z35 29)).rowFar (k := (ext V1 z2).heap.size) (by omega) T.cells).alloc (.cells Z78 42)).rowFar (k := (ext V1 z2).heap.size + 1) (by omega) d.cells)
  have L14 := Lib.hid (((((K14.out.ext z2).alloc (.cells Z35 29)).rowFar (k := (ext V1 z2).heap.size) (by omega) T.cells).alloc (.cells Z78 42)).rowFar (k := (ext V1 z2).heap.size + 1) (by omega) d.cells)
  have L15 := Lib.hid (((((K15.out.ext z2).alloc (.cells Z35 29)).rowFar (k := (ext V1 z2).heap.size) (by omega) T.cells).alloc (.cells Z78 42)).rowFar (k := (ext V1 z2).heap.size + 1) (by omega) d.cells)
  have LE := Lib.hid (((((KE.out.ext z2).alloc (.cells Z35 29)).row (g := (ext V1 z2).heap.size) (by omega) T.cells).alloc (.cells Z78 42)).row (g := (ext V1 z2).heap.size + 1) (by omega) d.cells)
  go_wp2_with (first | (refine wpList_store_row rfl 29 (.tmp 17) (.tmp 44) rfl (ext V1 z2).heap.size rfl 29 Z35 T.cells rfl S17.out (info29t _) (z35t _) tlk_one ?_) | (refine wpList_load_row rfl 42 (.tmp 6) rfl w.heap.size rfl 42 d.cells (0, 0) _ M6.out Try.underlying42 rfl (info42 d) ?_) | (refine wpList_store_row rfl 42 (.tmp 18) (.tmp 45) rfl ((ext V1 z2).heap.size + 1) rfl 42 Z78 d.cells rfl S18.out (info42 d) (z78_size d) dl_one ?_))
  change Code.wp _ _ _ _ (((((ext V1 z2).alloc (.cells Z35 29)).setRow (ext V1 z2).heap.size T.cells).alloc (.cells Z78 42)).setRow ((ext V1 z2).heap.size + 1) d.cells)
  generalize ((((ext V1 z2).alloc (.cells Z35 29)).setRow (ext V1 z2).heap.size T.cells).alloc (.cells Z78 42)).setRow ((ext V1 z2).heap.size + 1) d.cells = U0 at *
  generalize (ext V1 z2).heap.size = G17 at *
  clear S17 S18 M6 K6 K12 K14 K15 KE
  refine wp_region_rel1 (R := RT (G17 + 1) 42 ((Dl.mk (d1A d x q).a d.b d.u d.rc d.rs d.t).cells)) (Vof [isV (.int .u16 (uv q)), isV (.agg (A15 (bitI q))), isV (.pointer (some ⟨G17, 0, none⟩)), isV (.agg (A15 T.d)), isV (.agg (A15 (d1A d x q).a)), isV (.pointer (some ⟨G17 + 1, 0, none⟩)), isS (G17 + 1) 42 ((Dl.mk (d1A d x q).a d.b d.u d.rc d.rs d.t).cells) 0 15]) (by kernel_rfl) (by kernel_rfl) RT.refl RT.trans (Vof_monoR (by simp [isV_monoR, isS_mono])) ?op ?fin
  case op =>
    intro i o ho a V2 _ _ hfrm hE0 hdep
    have hE : RT (G17 + 1) 42 ((Dl.mk (d1A d x q).a d.b d.u d.rc d.rs d.t).cells) U0 V2 := RT.trans _ _ _ (RT.of_ext ((Ext.refl U0).drew)) hE0
    match i, ho with
    | 0, ho =>
      injection ho with ho
      subst ho
      have e1 : a.tmps[4]?.getD undef = .int .u16 (uv q) := slot_of (hfrm 4 (frm_of 4 (by kernel_rfl)))
      exact owes_val rfl (by simp [execOp, go_sem, e1]) rfl
    | 1, ho =>
      injection ho with ho
      subst ho
      have e1 : a.tmps[51]?.getD undef = .int .u16 (uv q) := slot_of (hdep ⟨0, .data⟩ (by simp) (by kernel_rfl))
      exact owes_call rfl 62 [.tmp 51] #[27] rfl (by kernel_rfl) [.int .u16 (uv q)] (by simp [Act.eval, e1]) (masks_any q _) (fun _ => rfl)
    | 2, ho =>
      injection ho with ho
      subst ho
      have e1 : a.tmps[17]?.getD undef = .pointer (some ⟨G17, 0, none⟩) := slot_of (hfrm 17 (frm_of 17 (by kernel_rfl)))
      exact owes_val rfl (by simp [execOp, go_sem, e1]) rfl
    | 3, ho =>
      injection ho with ho
      subst ho
      have e1 : a.tmps[53]?.getD undef = .pointer (some ⟨G17, 0, none⟩) := slot_of (hdep ⟨2, .data⟩ (by simp) (by kernel_rfl))
      exact owes_load rfl 22 (.tmp 53) rfl (G17) 0 (by simpa [Act.eval] using e1) 15 (u8V T.d) _ (fun j hj => by rw [Nat.zero_add]; exact ((hE.blk L17.out (by omega)).cell j).trans (T.at_d j hj)) Try.underlying22 rfl info22 rfl
    | 4, ho =>
      injection ho with ho
      subst ho
      have e1 : a.tmps[52]?.getD undef = .agg (A15 (bitI q)) := slot_of (hdep ⟨1, .data⟩ (by simp) (by kernel_rfl))
      have e2 : a.tmps[54]?.getD undef = .agg (A15 T.d) := slot_of (hdep ⟨3, .data⟩ (by simp) (by kernel_rfl))
      exact owes_call rfl 60 [.func 61, .tmp 52, .tmp 54] #[98, 22, 22] rfl (by kernel_rfl) [.func (.func 61) #[] #[], .agg (A15 (bitI q)), .agg (A15 T.d)] (by simp [Act.eval, e1, e2]) (CA.out _) (fun _ => rfl)
    | 5, ho =>
      injection ho with ho
      subst ho
      have e1 : a.tmps[18]?.getD undef = .pointer (some ⟨G17 + 1, 0, none⟩) := slot_of (hfrm 18 (frm_of 18 (by kernel_rfl)))
      exact owes_val rfl (by simp [execOp, go_sem, e1]) rfl
    | 6, ho =>
      injection ho with ho
      subst ho
      have e1 : a.tmps[56]?.getD undef = .pointer (some ⟨G17 + 1, 0, none⟩) := slot_of (hdep ⟨5, .data⟩ (by simp) (by kernel_rfl))
      have e2 : a.tmps[55]?.getD undef = .agg (A15 (d1A d x q).a) := slot_of (hdep ⟨4, .data⟩ (by simp) (by kernel_rfl))
      have hT : ∃ cur, Blk V2 (G17 + 1) 42 cur ∧ cur.size = ((Dl.mk (d1A d x q).a d.b d.u d.rc d.rs d.t).cells).size := by
        obtain ⟨c2, k1, k2, _⟩ := hE.part _ L18.out (by rw [Dl.size, Dl.size])
        exact ⟨c2, k1, k2⟩
      exact owes_store rfl 22 (.tmp 56) (.tmp 55) rfl 0 (by simpa [Act.eval] using e1) 15 (u8V (d1A d x q).a) (by simp only [Act.eval, Array.getD_eq_getD_getElem?]; exact e2) info22 (fun _ _ => rfl) hT (fun j hj => by rw [Nat.zero_add]; exact Dl.at_a _ j hj) (by rw [Dl.size]; omega) (fun _ h => h)
    | k + 7, ho => exact absurd (List.getElem?_eq_some_iff.1 ho).1 (by simp)
  case fin =>
    intro vs V3 hE0 hvs
    have hE : RT (G17 + 1) 42 ((Dl.mk (d1A d x q).a d.b d.u d.rc d.rs d.t).cells) U0 V3 := RT.trans _ _ _ (RT.of_ext ((Ext.refl U0).drew)) hE0
    have s1 := hvs 6 (by simp)
    have M18 := Lib.hid (full_gen hE L18.out (by rw [Dl.size, Dl.size]) (fun j => by
      by_cases h1 : 0 ≤ j ∧ j < 15
      · exact .inr ⟨0, 15, undef, s1, by omega, by omega⟩
      · exact .inl (dl_eq j (.inl (by omega)) (.inr (.inr rfl)) (.inr (.inr rfl)) (.inr rfl) (.inr rfl) (.inr rfl))))
    have M6 := Lib.hid (hE.blk L6.out (by omega))
    have M12 := Lib.hid (hE.blk L12.out (by omega))
    have M14 := Lib.hid (hE.blk L14.out (by omega))
    have M15 := Lib.hid (hE.blk L15.out (by omega))
    have M17 := Lib.hid (hE.blk L17.out (by omega))
    have ME := Lib.hid (hE.below LE.out (by omega))
    clear hE hE0 hvs s1 L6 L12 L14 L15 L17 L18 LE
    simp [putAll, Act.put]
    go_wp2_with fail
    refine wp_region_rel1 (R := RT (G17 + 1) 42 ((d1A d x q).cells)) (Vof [isV (.pointer (some ⟨G17 + 1, 0, none⟩)), isV (.agg (A15 (d1A d x q).a)), isV (.pointer (some ⟨w.heap.size, 15, none⟩)), isV (.agg (A15 d.b)), isV (.agg (A15 (fun i => ((d1A d x q).a i * d.b i) % 31))), isV (.pointer (some ⟨G14 + 1, 15, none⟩)), isV (.agg (A15 (ptyQ d lim).s)), isV (.agg (A15 (d1A d x q).u)), isV (.pointer (some ⟨G17 + 1, 30, none⟩)), isS (G17 + 1) 42 ((d1A d x q).cells) 30 15]) (by kernel_rfl) (by kernel_rfl) RT.refl RT.trans (Vof_monoR (by simp [isV_monoR, isS_mono])) ?op ?fin
    case op =>
      intro i o ho a V2 _ _ hfrm hE0 hdep
      have hE : RT (G17 + 1) 42 ((d1A d x q).cells) V3 V2 := RT.trans _ _ _ (RT.of_ext ((Ext.refl V3).drew)) hE0
      match i, ho with
      | 0, ho =>
        injection ho with ho
        subst ho
        have e1 : a.tmps[18]?.getD undef = .pointer (some ⟨G17 + 1, 0, none⟩) := slot_of (hfrm 18 (frm_of 18 (by kernel_rfl)))
        exact owes_val rfl (by simp [execOp, go_sem, e1]) rfl
      | 1, ho =>
        injection ho with ho
        subst ho
        have e1 : a.tmps[57]?.getD undef = .pointer (some ⟨G17 + 1, 0, none⟩) := slot_of (hdep ⟨0, .data⟩ (by simp) (by kernel_rfl))
        obtain ⟨cur0, kk1, kk2, kk3⟩ := hE.part _ M18.out (by rw [Dl.size, Dl.size])
        exact owes_load rfl 22 (.tmp 57) rfl (G17 + 1) 0 (by simpa [Act.eval] using e1) 15 (u8V (d1A d x q).a) _ (fun j hj => by rw [Nat.zero_add]; exact (kk1.cell j).trans ((kk3 j).elim (fun h => h.trans (Dl.at_a _ j hj)) (fun h => h.trans (Dl.at_a _ j hj)))) Try.underlying22 rfl info22 rfl
      | 2, ho =>
        injection ho with ho
        subst ho
        have e1 : a.tmps[6]?.getD undef = .pointer (some ⟨w.heap.size, 0, none⟩) := slot_of (hfrm 6 (frm_of 6 (by kernel_rfl)))
        exact owes_val rfl (by simp [execOp, go_sem, e1]) rfl
      | 3, ho =>
        injection ho with ho
        subst ho
        have e1 : a.tmps[59]?.getD undef = .pointer (some ⟨w.heap.size, 15, none⟩) := slot_of (hdep ⟨2, .data⟩ (by simp) (by kernel_rfl))
        exact owes_load rfl 22 (.tmp 59) rfl (w.heap.size) 15 (by simpa [Act.eval] using e1) 15 (u8V d.b) _ (cut_b (hE.blk M6.out (by omega))) Try.underlying22 rfl info22 rfl
      | 4, ho =>
        injection ho with ho
        subst ho
        have e1 : a.tmps[58]?.getD undef = .agg (A15 (d1A d x q).a) := slot_of (hdep ⟨1, .data⟩ (by simp) (by kernel_rfl))
        have e2 : a.tmps[60]?.getD undef = .agg (A15 d.b) := slot_of (hdep ⟨3, .data⟩ (by simp) (by kernel_rfl))
        exact owes_call rfl 60 [.func 63, .tmp 58, .tmp 60] #[98, 22, 22] rfl (by kernel_rfl) [.func (.func 63) #[] #[], .agg (A15 (d1A d x q).a), .agg (A15 d.b)] (by simp [Act.eval, e1, e2]) (CT.out _) (fun _ => rfl)
      | 5, ho =>
        injection ho with ho
        subst ho
        have e1 : a.tmps[15]?.getD undef = .pointer (some ⟨G14 + 1, 0, none⟩) := slot_of (hfrm 15 (frm_of 15 (by kernel_rfl)))
        exact owes_val rfl (by simp [execOp, go_sem, e1]) rfl
      | 6, ho =>
        injection ho with ho
        subst ho
        have e1 : a.tmps[62]?.getD undef = .pointer (some ⟨G14 + 1, 15, none⟩) := slot_of (hdep ⟨5, .data⟩ (by simp) (by kernel_rfl))
        exact owes_load rfl 22 (.tmp 62) rfl (G14 + 1) 15 (by simpa [Act.eval] using e1) 15 (u8V (ptyQ d lim).s) _ (fun j hj => ((hE.blk M15.out (by omega)).cell (15 + j)).trans ((ptyQ d lim).at_s j hj)) Try.underlying22 rfl info22 rfl
      | 7, ho =>
        injection ho with ho
        subst ho
        have e1 : a.tmps[61]?.getD undef = .agg (A15 (fun i => ((d1A d x q).a i * d.b i) % 31)) := slot_of (hdep ⟨4, .data⟩ (by simp) (by kernel_rfl))
        have e2 : a.tmps[63]?.getD undef = .agg (A15 (ptyQ d lim).s) := slot_of (hdep ⟨6, .data⟩ (by simp) (by kernel_rfl))
        exact owes_call rfl 60 [.func 61, .tmp 61, .tmp 63] #[98, 22, 22] rfl (by kernel_rfl) [.func (.func 61) #[] #[], .agg (A15 (fun i => ((d1A d x q).a i * d.b i) % 31)), .agg (A15 (ptyQ d lim).s)] (by simp [Act.eval, e1, e2]) (CU.out _) (fun _ => rfl)
      | 8, ho =>
        injection ho with ho
        subst ho
        have e1 : a.tmps[18]?.getD undef = .pointer (some ⟨G17 + 1, 0, none⟩) := slot_of (hfrm 18 (frm_of 18 (by kernel_rfl)))
        exact owes_val rfl (by simp [execOp, go_sem, e1]) rfl
      | 9, ho =>
        injection ho with ho
        subst ho
        have e1 : a.tmps[65]?.getD undef = .pointer (some ⟨G17 + 1, 30, none⟩) := slot_of (hdep ⟨8, .data⟩ (by simp) (by kernel_rfl))
        have e2 : a.tmps[64]?.getD undef = .agg (A15 (d1A d x q).u) := slot_of (hdep ⟨7, .data⟩ (by simp) (by kernel_rfl))
        have hT : ∃ cur, Blk V2 (G17 + 1) 42 cur ∧ cur.size = ((d1A d x q).cells).size := by
          obtain ⟨c2, k1, k2, _⟩ := hE.part _ M18.out (by rw [Dl.size, Dl.size])
          exact ⟨c2, k1, k2⟩
        exact owes_store rfl 22 (.tmp 65) (.tmp 64) rfl 30 (by simpa [Act.eval] using e1) 15 (u8V (d1A d x q).u) (by simp only [Act.eval, Array.getD_eq_getD_getElem?]; exact e2) info22 (fun _ _ => rfl) hT (fun j hj => Dl.at_u _ j hj) (by rw [Dl.size]; omega) (fun _ h => h)
      | k + 10, ho => exact absurd (List.getElem?_eq_some_iff.1 ho).1 (by simp)
    case fin =>
      intro vs V4 hE0 hvs
      have hE : RT (G17 + 1) 42 ((d1A d x q).cells) V3 V4 := RT.trans _ _ _ (RT.of_ext ((Ext.refl V3).drew)) hE0
      have s1 := hvs 9 (by simp)
      have N18 := Lib.hid (full_gen hE M18.out (by rw [Dl.size, Dl.size]) (fun j => by
        by_cases h1 : 30 ≤ j ∧ j < 45
        · exact .inr ⟨30, 15, undef, s1, by omega, by omega⟩
        · exact .inl (dl_eq j (.inr rfl) (.inr (.inr rfl)) (by omega) (.inr rfl) (.inr rfl) (.inr rfl))))
      have N6 := Lib.hid (hE.blk M6.out (by omega))
      have N12 := Lib.hid (hE.blk M12.out (by omega))
      have N14 := Lib.hid (hE.blk M14.out (by omega))
      have N15 := Lib.hid (hE.blk M15.out (by omega))
      have N17 := Lib.hid (hE.blk M17.out (by omega))
      have NE := Lib.hid (hE.below ME.out (by omega))
      clear hE hE0 hvs s1 M6 M12 M14 M15 M17 M18 ME
      simp [putAll, Act.put]
      go_wp2_with (refine wpList_load_row rfl 42 (.tmp 18) rfl (G17 + 1) rfl 42 (d1A d x q).cells (0, 0) _ N18.out Try.underlying42 rfl (info42 _) ?_)
      refine Calls.ext (C3.out _) fun z3 => ?_
      have m3 := (N18.out.ext z3).lt
      have S14 := Lib.hid ((N14.out.ext z3).alloc (.cells Z62 26))
      have S21 := Lib.hid ((Blk.new (ext V4 z3) 26 Z62).rowFar (k := G14) (by omega) (ptyP (d1A d x q)).cells)
      have Q14 := Lib.hid ((S14.out.row (ptyP (d1A d x q)).cells).rowFar (k := (ext V4 z3).heap.size) (by omega) (ptyQ (d1A d x q) lim).cells)
      have Q21 := Lib.hid (S21.out.row (ptyQ (d1A d x q) lim).cells)
      have Q6 := Lib.hid (((N6.out.ext z3).alloc (.cells Z62 26)).rowFar (k := G14) (by omega) (ptyP (d1A d x q)).cells |>.rowFar (k := (ext V4 z3).heap.size) (by omega) (ptyQ (d1A d x q) lim).cells)
      have Q12 := Lib.hid (((N12.out.ext z3).alloc (.cells Z62 26)).rowFar (k := G14) (by omega) (ptyP (d1A d x q)).cells |>.rowFar (k := (ext V4 z3).heap.size) (by omega) (ptyQ (d1A d x q) lim).cells)
      have Q15 := Lib.hid (((N15.out.ext z3).alloc (.cells Z62 26)).rowFar (k := G14) (by omega) (ptyP (d1A d x q)).cells |>.rowFar (k := (ext V4 z3).heap.size) (by omega) (ptyQ (d1A d x q) lim).cells)
      have Q17 := Lib.hid (((N17.out.ext z3).alloc (.cells Z62 26)).rowFar (k := G14) (by omega) (ptyP (d1A d x q)).cells |>.rowFar (k := (ext V4 z3).heap.size) (by omega) (ptyQ (d1A d x q) lim).cells)
      have Q18 := Lib.hid (((N18.out.ext z3).alloc (.cells Z62 26)).rowFar (k := G14) (by omega) (ptyP (d1A d x q)).cells |>.rowFar (k := (ext V4 z3).heap.size) (by omega) (ptyQ (d1A d x q) lim).cells)
      have QE := Lib.hid (((NE.out.ext z3).alloc (.cells Z62 26)).row (g := G14) (by omega) (ptyP (d1A d x q)).cells |>.row (g := (ext V4 z3).heap.size) (by omega) (ptyQ (d1A d x q) lim).cells)
      go_wp2_with (first | (refine wpList_store_row rfl 26 (.tmp 14) (.tmp 76) rfl G14 rfl 26 (ptyP d).cells (ptyP (d1A d x q)).cells rfl S14.out (info26 _) ((Pty.size _).trans (Pty.size _).symm) pty_one ?_) | (refine wpList_store_row rfl 26 (.tmp 21) (.tmp 77) rfl (ext V4 z3).heap.size rfl 26 Z62 (ptyQ (d1A d x q) lim).cells rfl S21.out (info26 _) (z62_size _) pty_one ?_) | (refine wpList_load_row rfl 26 (.tmp 14) rfl G14 rfl 26 (ptyP (d1A d x q)).cells (0, 0) _ Q14.out Try.underlying26 rfl (info26 _) ?_) | (refine wpList_load_row rfl 26 (.tmp 21) rfl (ext V4 z3).heap.size rfl 26 (ptyQ (d1A d x q) lim).cells (0, 0) _ Q21.out Try.underlying26 rfl (info26 _) ?_))
      change Calls _ _ _ ((((ext V4 z3).alloc (.cells Z62 26)).setRow G14 (ptyP (d1A d x q)).cells).setRow (ext V4 z3).heap.size (ptyQ (d1A d x q) lim).cells) _
      generalize (((ext V4 z3).alloc (.cells Z62 26)).setRow G14 (ptyP (d1A d x q)).cells).setRow (ext V4 z3).heap.size (ptyQ (d1A d x q) lim).cells = U1 at *
      generalize (ext V4 z3).heap.size = G21 at *
      clear S14 S21 N6 N12 N14 N15 N17 N18 NE
      refine Calls.ext (C4.out _) fun z4 => ?_
      have m4 := (Q21.out.ext z4).lt
      have S22 := Lib.hid (Blk.new (ext U1 z4) 29 Z35)
      have R22 := Lib.hid (S22.out.row T1.cells)
      have R6 := Lib.hid (((Q6.out.ext z4).alloc (.cells Z35 29)).rowFar (k := (ext U1 z4).heap.size) (by omega) T1.cells)
      have R12 := Lib.hid (((Q12.out.ext z4).alloc (.cells Z35 29)).rowFar (k := (ext U1 z4).heap.size) (by omega) T1.cells)
      have R14 := Lib.hid (((Q14.out.ext z4).alloc (.cells Z35 29)).rowFar (k := (ext U1 z4).heap.size) (by omega) T1.cells)
      have R15 := Lib.hid (((Q15.out.ext z4).alloc (.cells Z35 29)).rowFar (k := (ext U1 z4).heap.size) (by omega) T1.cells)
      have R17 := Lib.hid (((Q17.out.ext z4).alloc (.cells Z35 29)).rowFar (k := (ext U1 z4).heap.size) (by omega) T1.cells)
      have R18 := Lib.hid (((Q18.out.ext z4).alloc (.cells Z35 29)).rowFar (k := (ext U1 z4).heap.size) (by omega) T1.cells)
      have R21 := Lib.hid (((Q21.out.ext z4).alloc (.cells Z35 29)).rowFar (k := (ext U1 z4).heap.size) (by omega) T1.cells)
      have RE := Lib.hid (((QE.out.ext z4).alloc (.cells Z35 29)).row (g := (ext U1 z4).heap.size) (by omega) T1.cells)
      go_wp2_with (refine wpList_store_row rfl 29 (.tmp 22) (.tmp 82) rfl (ext U1 z4).heap.size rfl 29 Z35 T1.cells rfl S22.out (info29t _) (z35t _) tlk_one ?_)
      change Code.wp _ _ _ _ (((ext U1 z4).alloc (.cells Z35 29)).setRow (ext U1 z4).heap.size T1.cells)
      generalize ((ext U1 z4).alloc (.cells Z35 29)).setRow (ext U1 z4).heap.size T1.cells = U2 at *
      generalize (ext U1 z4).heap.size = G22 at *
      clear S22 Q6 Q12 Q14 Q15 Q17 Q18 Q21 QE
      refine wp_region_rel1 (R := RT (G17 + 1) 42 ((Dl.mk (d1A d x q).a d.b (d1A d x q).u (rcA d lim x y q) d.rs d.t).cells)) (Vof [isV (.pointer (some ⟨w.heap.size, 45, none⟩)), isV (.int .u8 d.rc), isV (.int .i64 d.rc), isV (.pointer (some ⟨G17, 30, none⟩)), isV (.int .u8 T.c), isV (.int .i64 T.c), isV (.int .i64 ((d.rc + T.c) % 31)), isV (.pointer (some ⟨G22, 30, none⟩)), isV (.int .u8 T1.c), isV (.int .i64 T1.c), isV (.int .i64 (rcA d lim x y q)), isV (.int .u8 (rcA d lim x y q)), isV (.pointer (some ⟨G17 + 1, 45, none⟩)), isS (G17 + 1) 42 ((Dl.mk (d1A d x q).a d.b (d1A d x q).u (rcA d lim x y q) d.rs d.t).cells) 45 1]) (by kernel_rfl) (by kernel_rfl) RT.refl RT.trans (Vof_monoR (by simp [isV_monoR, isS_mono])) ?op ?fin
      case op =>
        intro i o ho a V2 _ _ hfrm hE0 hdep
        have hE : RT (G17 + 1) 42 ((Dl.mk (d1A d x q).a d.b (d1A d x q).u (rcA d lim x y q) d.rs d.t).cells) U2 V2 := RT.trans _ _ _ (RT.of_ext ((Ext.refl U2).drew)) hE0
        match i, ho with
        | 0, ho =>
          injection ho with ho
          subst ho
          have e1 : a.tmps[6]?.getD undef = .pointer (some ⟨w.heap.size, 0, none⟩) := slot_of (hfrm 6 (frm_of 6 (by kernel_rfl)))
          exact owes_val rfl (by simp [execOp, go_sem, e1]) rfl
        | 1, ho =>
          injection ho with ho
          subst ho
          have e1 : a.tmps[84]?.getD undef = .pointer (some ⟨w.heap.size, 45, none⟩) := slot_of (hdep ⟨0, .data⟩ (by simp) (by kernel_rfl))
          have c1 : V2.cell? ⟨w.heap.size, 45, none⟩ = some (.int .u8 d.rc) := cut_rc (hE.blk R6.out (by omega))
          exact owes_val rfl (by simp [execOp, go_sem, e1, c1]) rfl
        | 2, ho =>
          injection ho with ho
          subst ho
          have e1 : a.tmps[85]?.getD undef = .int .u8 d.rc := slot_of (hdep ⟨1, .data⟩ (by simp) (by kernel_rfl))
          have w1 := (WS.out _ hrc).1
          exact owes_val rfl (by simp [execOp, go_sem, e1, w1]) rfl
        | 3, ho =>
          injection ho with ho
          subst ho
          have e1 : a.tmps[17]?.getD undef = .pointer (some ⟨G17, 0, none⟩) := slot_of (hfrm 17 (frm_of 17 (by kernel_rfl)))
          exact owes_val rfl (by simp [execOp, go_sem, e1]) rfl
        | 4, ho =>
          injection ho with ho
          subst ho
          have e1 : a.tmps[87]?.getD undef = .pointer (some ⟨G17, 30, none⟩) := slot_of (hdep ⟨3, .data⟩ (by simp) (by kernel_rfl))
          have c1 : V2.cell? ⟨G17, 30, none⟩ = some (.int .u8 T.c) := ((hE.blk R17.out (by omega)).cell 30).trans (T.at_x 0)
          exact owes_val rfl (by simp [execOp, go_sem, e1, c1]) rfl
        | 5, ho =>
          injection ho with ho
          subst ho
          have e1 : a.tmps[88]?.getD undef = .int .u8 T.c := slot_of (hdep ⟨4, .data⟩ (by simp) (by kernel_rfl))
          have w1 := (WS.out _ hTc).1
          exact owes_val rfl (by simp [execOp, go_sem, e1, w1]) rfl
        | 6, ho =>
          injection ho with ho
          subst ho
          have e1 : a.tmps[86]?.getD undef = .int .i64 d.rc := slot_of (hdep ⟨2, .data⟩ (by simp) (by kernel_rfl))
          have e2 : a.tmps[89]?.getD undef = .int .i64 T.c := slot_of (hdep ⟨5, .data⟩ (by simp) (by kernel_rfl))
          exact owes_call rfl 64 [.tmp 86, .tmp 89] #[100, 100] rfl (by kernel_rfl) [.int .i64 d.rc, .int .i64 T.c] (by simp [Act.eval, e1, e2]) (Calls.ext_of_same (CP.out _)) (fun _ => rfl)
        | 7, ho =>
          injection ho with ho
          subst ho
          have e1 : a.tmps[22]?.getD undef = .pointer (some ⟨G22, 0, none⟩) := slot_of (hfrm 22 (frm_of 22 (by kernel_rfl)))
          exact owes_val rfl (by simp [execOp, go_sem, e1]) rfl
        | 8, ho =>
          injection ho with ho
          subst ho
          have e1 : a.tmps[91]?.getD undef = .pointer (some ⟨G22, 30, none⟩) := slot_of (hdep ⟨7, .data⟩ (by simp) (by kernel_rfl))
          have c1 : V2.cell? ⟨G22, 30, none⟩ = some (.int .u8 T1.c) := ((hE.blk R22.out (by omega)).cell 30).trans (T1.at_x 0)
          exact owes_val rfl (by simp [execOp, go_sem, e1, c1]) rfl
        | 9, ho =>
          injection ho with ho
          subst ho
          have e1 : a.tmps[92]?.getD undef = .int .u8 T1.c := slot_of (hdep ⟨8, .data⟩ (by simp) (by kernel_rfl))
          have w1 := (WS.out _ hT1c).1
          exact owes_val rfl (by simp [execOp, go_sem, e1, w1]) rfl
        | 10, ho =>
          injection ho with ho
          subst ho
          have e1 : a.tmps[90]?.getD undef = .int .i64 ((d.rc + T.c) % 31) := slot_of (hdep ⟨6, .data⟩ (by simp) (by kernel_rfl))
          have e2 : a.tmps[93]?.getD undef = .int .i64 T1.c := slot_of (hdep ⟨9, .data⟩ (by simp) (by kernel_rfl))
          exact owes_call rfl 61 [.tmp 90, .tmp 93] #[100, 100] rfl (by kernel_rfl) [.int .i64 ((d.rc + T.c) % 31), .int .i64 T1.c] (by simp [Act.eval, e1, e2]) (Calls.ext_of_same (CM.out _)) (fun _ => rfl)
        | 11, ho =>
          injection ho with ho
          subst ho
          have e1 : a.tmps[94]?.getD undef = .int .i64 (rcA d lim x y q) := slot_of (hdep ⟨10, .data⟩ (by simp) (by kernel_rfl))
          have w1 := (WS.out _ hnb).2
          exact owes_val rfl (by simp [execOp, go_sem, e1, w1]) rfl
        | 12, ho =>
          injection ho with ho
          subst ho
          have e1 : a.tmps[18]?.getD undef = .pointer (some ⟨G17 + 1, 0, none⟩) := slot_of (hfrm 18 (frm_of 18 (by kernel_rfl)))
          exact owes_val rfl (by simp [execOp, go_sem, e1]) rfl
        | 13, ho =>
          injection ho with ho
          subst ho
          have e1 : a.tmps[96]?.getD undef = .pointer (some ⟨G17 + 1, 45, none⟩) := slot_of (hdep ⟨12, .data⟩ (by simp) (by kernel_rfl))
          have e2 : a.tmps[95]?.getD undef = .int .u8 (rcA d lim x y q) := slot_of (hdep ⟨11, .data⟩ (by simp) (by kernel_rfl))
          obtain ⟨cur0, kk1, kk2, _⟩ := hE.part _ R18.out (by rw [Dl.size, Dl.size])
          refine owes_store1 rfl 45 (.int .u8 (rcA d lim x y q)) (fun cur hB hs => ?_) ⟨cur0, kk1, kk2⟩ (Dl.at_rc _) (fun _ h => h)
          have hlt : 45 < cur.size := by rw [hs, Dl.size]; omega
          have c1 := (hB.cell 45).trans (Array.getElem?_eq_getElem hlt)
          have c2 := hB.frozen 45
          simp [execOp, go_sem, e1, e2, c1, c2]
        | k + 14, ho => exact absurd (List.getElem?_eq_some_iff.1 ho).1 (by simp)
      case fin =>
        intro vs U3 hE0 hvs
        have hE : RT (G17 + 1) 42 ((Dl.mk (d1A d x q).a d.b (d1A d x q).u (rcA d lim x y q) d.rs d.t).cells) U2 U3 := RT.trans _ _ _ (RT.of_ext ((Ext.refl U2).drew)) hE0
        have s1 := hvs 13 (by simp)
        have L18 := Lib.hid (full_gen hE R18.out (by rw [Dl.size, Dl.size]) (fun j => by
          by_cases h1 : j = 45
          · exact .inr ⟨45, 1, undef, s1, by omega, by omega⟩
          · exact .inl (dl_eq j (.inr rfl) (.inr (.inr rfl)) (.inr (.inr rfl)) (by omega) (.inr rfl) (.inr rfl))))
        have L6 := Lib.hid (hE.blk R6.out (by omega))
        have L12 := Lib.hid (hE.blk R12.out (by omega))
        have L14 := Lib.hid (hE.blk R14.out (by omega))
        have L15 := Lib.hid (hE.blk R15.out (by omega))
        have L17 := Lib.hid (hE.blk R17.out (by omega))
        have L21 := Lib.hid (hE.blk R21.out (by omega))
        have L22 := Lib.hid (hE.blk R22.out (by omega))
        have LE := Lib.hid (hE.below RE.out (by omega))
        clear hE hE0 hvs s1 R6 R12 R14 R15 R17 R21 R22 R18 RE
        simp [putAll, Act.put]
        have HL15 := Lib.hid (show ∀ j, j < 31 → U3.cell? ⟨G14 + 1, 31 + j, none⟩ = some (u32V (ptyQ d lim).t j) from fun j hj => (L15.out.cell (31 + j)).trans ((ptyQ d lim).at_t j hj))
        have c45 : U3.cell? ⟨G17 + 1, 45, none⟩ = some (.int .u8 (rcA d lim x y q)) := (L18.out.cell 45).trans (Dl.at_rc _)
        have c46 : U3.cell? ⟨w.heap.size, 46, none⟩ = some (.int .u8 d.rs) := cut_rs L6.out
        go_wp2_with (refine wpList_load_sub rfl 24 (.tmp 97) rfl (G14 + 1) 31 rfl 31 (u32V (ptyQ d lim).t) _ HL15.out Try.underlying24 rfl info24 ?_)
        refine Calls.ext (CO.out _) fun z5 => ?_
        clear c45 c46 HL15
        have S18 := Lib.hid (L18.out.ext z5)
        have HIN := Lib.hid (show ∀ j, j < 31 → (Dl.mk (d1A d x q).a d.b (d1A d x q).u (rcA d lim x y q) d.rs (tabO (ptyQ d lim).t (rcA d lim x y q) d.rs lim)).cells[47 + j]? = some (u32V (tabO (ptyQ d lim).t (rcA d lim x y q) d.rs lim) j) from fun j hj => Dl.at_t _ j hj)
        have HOUT := Lib.hid (show ∀ j : Nat, (j < 47 ∨ 47 + 31 ≤ j) → (Dl.mk (d1A d x q).a d.b (d1A d x q).u (rcA d lim x y q) d.rs (tabO (ptyQ d lim).t (rcA d lim x y q) d.rs lim)).cells[j]? = (Dl.mk (d1A d x q).a d.b (d1A d x q).u (rcA d lim x y q) d.rs d.t).cells[j]? from fun j hj => hj.elim (fun h => dl_eq j (.inr rfl) (.inr (.inr rfl)) (.inr (.inr rfl)) (.inr rfl) (.inr rfl) (.inl h)) (fun h => by rw [Array.getElem?_eq_none (by rw [Dl.size]; omega), Array.getElem?_eq_none (by rw [Dl.size]; omega)]))
        have HSZ := Lib.hid (show (Dl.mk (d1A d x q).a d.b (d1A d x q).u (rcA d lim x y q) d.rs d.t).cells.size = (Dl.mk (d1A d x q).a d.b (d1A d x q).u (rcA d lim x y q) d.rs (tabO (ptyQ d lim).t (rcA d lim x y q) d.rs lim)).cells.size from by rw [Dl.size, Dl.size])
        have HLE := Lib.hid (show 47 + 31 ≤ (Dl.mk (d1A d x q).a d.b (d1A d x q).u (rcA d lim x y q) d.rs (tabO (ptyQ d lim).t (rcA d lim x y q) d.rs lim)).cells.size from by rw [Dl.size]; omega)
        have M18 := Lib.hid (S18.out.row (Dl.mk (d1A d x q).a d.b (d1A d x q).u (rcA d lim x y q) d.rs (tabO (ptyQ d lim).t (rcA d lim x y q) d.rs lim)).cells)
        have M12 := Lib.hid ((L12.out.ext z5).rowFar (k := G17 + 1) (by omega) (Dl.mk (d1A d x q).a d.b (d1A d x q).u (rcA d lim x y q) d.rs (tabO (ptyQ d lim).t (rcA d lim x y q) d.rs lim)).cells)
        have M14 := Lib.hid ((L14.out.ext z5).rowFar (k := G17 + 1) (by omega) (Dl.mk (d1A d x q).a d.b (d1A d x q).u (rcA d lim x y q) d.rs (tabO (ptyQ d lim).t (rcA d lim x y q) d.rs lim)).cells)
        have M17 := Lib.hid ((L17.out.ext z5).rowFar (k := G17 + 1) (by omega) (Dl.mk (d1A d x q).a d.b (d1A d x q).u (rcA d lim x y q) d.rs (tabO (ptyQ d lim).t (rcA d lim x y q) d.rs lim)).cells)
        have M21 := Lib.hid ((L21.out.ext z5).rowFar (k := G17 + 1) (by omega) (Dl.mk (d1A d x q).a d.b (d1A d x q).u (rcA d lim x y q) d.rs (tabO (ptyQ d lim).t (rcA d lim x y q) d.rs lim)).cells)
        have ME := Lib.hid ((LE.out.ext z5).row (g := G17 + 1) (by omega) (Dl.mk (d1A d x q).a d.b (d1A d x q).u (rcA d lim x y q) d.rs (tabO (ptyQ d lim).t (rcA d lim x y q) d.rs lim)).cells)
        go_wp2_with (first | (refine wpList_store_sub rfl 24 (.tmp 105) (.tmp 104) rfl (G17 + 1) 47 rfl 31 (u32V (tabO (ptyQ d lim).t (rcA d lim x y q) d.rs lim)) rfl info24 (fun _ _ => rfl) 42 (Dl.mk (d1A d x q).a d.b (d1A d x q).u (rcA d lim x y q) d.rs d.t).cells (Dl.mk (d1A d x q).a d.b (d1A d x q).u (rcA d lim x y q) d.rs (tabO (ptyQ d lim).t (rcA d lim x y q) d.rs lim)).cells S18.out HSZ.out HIN.out HOUT.out HLE.out ?_) | (refine wpList_load_row rfl 42 (.tmp 18) rfl (G17 + 1) rfl 42 (Dl.mk (d1A d x q).a d.b (d1A d x q).u (rcA d lim x y q) d.rs (tabO (ptyQ d lim).t (rcA d lim x y q) d.rs lim)).cells (0, 0) _ M18.out Try.underlying42 rfl (info42 _) ?_))
        change Calls _ _ _ ((ext U3 z5).setRow (G17 + 1) (Dl.mk (d1A d x q).a d.b (d1A d x q).u (rcA d lim x y q) d.rs (tabO (ptyQ d lim).t (rcA d lim x y q) d.rs lim)).cells) _
        generalize (ext U3 z5).setRow (G17 + 1) (Dl.mk (d1A d x q).a d.b (d1A d x q).u (rcA d lim x y q) d.rs (tabO (ptyQ d lim).t (rcA d lim x y q) d.rs lim)).cells = U4 at *
        clear S18 HIN HOUT HSZ HLE L6 L12 L14 L15 L17 L21 L22 L18 LE
        have HOE := Lib.hid (outA_eq d lim x y q)
        refine Calls.ext (C5.out _) fun z6 => ?_
        have S14 := Lib.hid (M14.out.ext z6)
        have S21 := Lib.hid ((M21.out.ext z6).rowFar (k := G14) (by omega) (ptyP (outA d lim x y q)).cells)
        have O14 := Lib.hid ((S14.out.row (ptyP (outA d lim x y q)).cells).rowFar (k := G21) (by omega) (ptyQ (outA d lim x y q) lim).cells)
        have O21 := Lib.hid (S21.out.row (ptyQ (outA d lim x y q) lim).cells)
        have O12 := Lib.hid (((M12.out.ext z6).rowFar (k := G14) (by omega) (ptyP (outA d lim x y q)).cells).rowFar (k := G21) (by omega) (ptyQ (outA d lim x y q) lim).cells)
        have O17 := Lib.hid (((M17.out.ext z6).rowFar (k := G14) (by omega) (ptyP (outA d lim x y q)).cells).rowFar (k := G21) (by omega) (ptyQ (outA d lim x y q) lim).cells)
        have O18 := Lib.hid (((M18.out.ext z6).rowFar (k := G14) (by omega) (ptyP (outA d lim x y q)).cells).rowFar (k := G21) (by omega) (ptyQ (outA d lim x y q) lim).cells)
        have OE := Lib.hid (((ME.out.ext z6).row (g := G14) (by omega) (ptyP (outA d lim x y q)).cells).row (g := G21) (by omega) (ptyQ (outA d lim x y q) lim).cells)
        go_wp2_with (first | (refine wpList_store_row rfl 26 (.tmp 14) (.tmp 123) rfl G14 rfl 26 (ptyP (d1A d x q)).cells (ptyP (outA d lim x y q)).cells rfl S14.out (info26 _) ((Pty.size _).trans (Pty.size _).symm) pty_one ?_) | (refine wpList_store_row rfl 26 (.tmp 21) (.tmp 124) rfl G21 rfl 26 (ptyQ (d1A d x q) lim).cells (ptyQ (outA d lim x y q) lim).cells rfl S21.out (info26 _) ((Pty.size _).trans (Pty.size _).symm) pty_one ?_))
        change Code.wp _ _ _ _ (((ext U4 z6).setRow G14 (ptyP (outA d lim x y q)).cells).setRow G21 (ptyQ (outA d lim x y q) lim).cells)
        generalize ((ext U4 z6).setRow G14 (ptyP (outA d lim x y q)).cells).setRow G21 (ptyQ (outA d lim x y q) lim).cells = U5 at *
        clear S14 S21 M12 M14 M17 M21 M18 ME
        refine wp_region_rel0 (Vof [isV (.agg (ptyP (outA d lim x y q)).cells), isV (.agg (ptyQ (outA d lim x y q) lim).cells), isV (.int .u16 (uv q)), isV (.int .u16 (uv y)), isV (.agg T2.cells), isV (.agg T.cells), isV (.bool !cb)]) (by kernel_rfl) (by kernel_rfl) (Vof_mono (by simp [isV_mono])) ?op ?fin
        case op =>
          intro i o ho a V2 _ _ hfrm hE0 hdep
          have hE : Ext U5 V2 := Ext.trans ((Ext.refl U5).drew) hE0
          match i, ho with
          | 0, ho =>
            injection ho with ho
            subst ho
            have e1 : a.tmps[14]?.getD undef = .pointer (some ⟨G14, 0, none⟩) := slot_of (hfrm 14 (frm_of 14 (by kernel_rfl)))
            exact rel_row 26 (.tmp 14) rfl _ (by simpa [Act.eval] using e1) 26 (ptyP (outA d lim x y q)).cells _ (O14.out.grow hE) Try.underlying26 rfl (info26 _) rfl
          | 1, ho =>
            injection ho with ho
            subst ho
            have e1 : a.tmps[21]?.getD undef = .pointer (some ⟨G21, 0, none⟩) := slot_of (hfrm 21 (frm_of 21 (by kernel_rfl)))
            exact rel_row 26 (.tmp 21) rfl _ (by simpa [Act.eval] using e1) 26 (ptyQ (outA d lim x y q) lim).cells _ (O21.out.grow hE) Try.underlying26 rfl (info26 _) rfl
          | 2, ho =>
            injection ho with ho
            subst ho
            have e1 : a.tmps[19]?.getD undef = .int .u16 (uv q) := slot_of (hfrm 19 (frm_of 19 (by kernel_rfl)))
            exact rel_val (by simp [execOp, go_sem, e1]) rfl
          | 3, ho =>
            injection ho with ho
            subst ho
            have e1 : a.tmps[20]?.getD undef = .int .u16 (uv y) := slot_of (hfrm 20 (frm_of 20 (by kernel_rfl)))
            exact rel_val (by simp [execOp, go_sem, e1]) rfl
          | 4, ho =>
            injection ho with ho
            subst ho
            have e1 : a.tmps[125]?.getD undef = .agg (ptyP (outA d lim x y q)).cells := slot_of (hdep ⟨0, .data⟩ (by simp) (by kernel_rfl) 125 (by kernel_rfl))
            have e2 : a.tmps[126]?.getD undef = .agg (ptyQ (outA d lim x y q) lim).cells := slot_of (hdep ⟨1, .data⟩ (by simp) (by kernel_rfl) 126 (by kernel_rfl))
            have e3 : a.tmps[127]?.getD undef = .int .u16 (uv q) := slot_of (hdep ⟨2, .data⟩ (by simp) (by kernel_rfl) 127 (by kernel_rfl))
            have e4 : a.tmps[128]?.getD undef = .int .u16 (uv y) := slot_of (hdep ⟨3, .data⟩ (by simp) (by kernel_rfl) 128 (by kernel_rfl))
            exact rel_call 51 [.tmp 125, .tmp 126, .tmp 127, .tmp 128] #[26, 26, 27, 27] rfl (by kernel_rfl) [.agg (ptyP (outA d lim x y q)).cells, .agg (ptyQ (outA d lim x y q) lim).cells, .int .u16 (uv q), .int .u16 (uv y)] (by simp [Act.eval, e1, e2, e3, e4]) (ret_val (C6.out _))
          | 5, ho =>
            injection ho with ho
            subst ho
            have e1 : a.tmps[17]?.getD undef = .pointer (some ⟨G17, 0, none⟩) := slot_of (hfrm 17 (frm_of 17 (by kernel_rfl)))
            exact rel_row 29 (.tmp 17) rfl _ (by simpa [Act.eval] using e1) 29 T.cells _ (O17.out.grow hE) Try.underlying29 rfl (info29t _) rfl
          | 6, ho =>
            injection ho with ho
            subst ho
            have e1 : a.tmps[129]?.getD undef = .agg T2.cells := slot_of (hdep ⟨4, .data⟩ (by simp) (by kernel_rfl) 129 (by kernel_rfl))
            have e2 : a.tmps[130]?.getD undef = .agg T.cells := slot_of (hdep ⟨5, .data⟩ (by simp) (by kernel_rfl) 130 (by kernel_rfl))
            exact rel_neq_row 29 (.tmp 129) (.tmp 130) rfl T2.cells T.cells (by simpa [Act.eval] using e1) (by simpa [Act.eval] using e2) eg29 cb CE.out rfl
          | k + 7, ho => exact absurd (List.getElem?_eq_some_iff.1 ho).1 (by simp)
        case fin =>
          intro vs U6 hE0 hvs
          have hE : Ext U5 U6 := Ext.trans ((Ext.refl U5).drew) hE0
          have s6 : vs 6 = .bool !cb := hvs 6 (by simp)
          have F12 := Lib.hid (O12.out.grow hE)
          have F18 := Lib.hid (O18.out.grow hE)
          have FE := Lib.hid (Ext.trans OE.out hE)
          clear hvs hE0 hE O12 O14 O17 O18 O21 OE
          cases cb
          · have s6' : vs 6 = .bool true := s6
            simp [putAll, Act.put, s6']
            clear s6 s6'
            go_wp2_with (first | (refine wpList_build_row rfl 42 [] rfl [] rfl Z78 build42y ?_) | (refine wpList_store_row rfl 42 (.tmp 12) (.tmp 132) rfl (w.heap.size + 1) rfl 42 Z78 Z78 rfl F12.out info42z rfl z78_one ?_))
            refine bodyPost_ret (results_cell_tmp rfl _ _ (w.heap.size + 1) 42 Z78 (0, 0) _ rfl (F12.out.row Z78) Try.underlying42 rfl info42z) rfl ⟨ret_of (by rw [← HCB.out, explV_f]; rfl), FE.out.row (by omega) Z78⟩
          · have s6' : vs 6 = .bool false := s6
            simp [putAll, Act.put, s6']
            clear s6 s6'
            go_wp2_with (first | (refine wpList_load_row rfl 42 (.tmp 18) rfl (G17 + 1) rfl 42 (Dl.mk (d1A d x q).a d.b (d1A d x q).u (rcA d lim x y q) d.rs (tabO (ptyQ d lim).t (rcA d lim x y q) d.rs lim)).cells (0, 0) _ F18.out Try.underlying42 rfl (info42 _) ?_) | (refine wpList_store_row rfl 42 (.tmp 12) (.tmp 133) rfl (w.heap.size + 1) rfl 42 Z78 (Dl.mk (d1A d x q).a d.b (d1A d x q).u (rcA d lim x y q) d.rs (tabO (ptyQ d lim).t (rcA d lim x y q) d.rs lim)).cells rfl F12.out (info42 _) (z78_size _) dl_one ?_))
            refine bodyPost_ret (results_cell_tmp rfl _ _ (w.heap.size + 1) 42 (Dl.mk (d1A d x q).a d.b (d1A d x q).u (rcA d lim x y q) d.rs (tabO (ptyQ d lim).t (rcA d lim x y q) d.rs lim)).cells (0, 0) _ rfl (F12.out.row (Dl.mk (d1A d x q).a d.b (d1A d x q).u (rcA d lim x y q) d.rs (tabO (ptyQ d lim).t (rcA d lim x y q) d.rs lim)).cells) Try.underlying42 rfl (info42 _)) rfl ⟨ret_of (by rw [← HCB.out, explV_t, HOE.out]; rfl), FE.out.row (by omega) _⟩
end Go.Proofs.Ytfdcapblgdlkaaa
