/- Proved: for all deals, limits and words, the call of whorllaw06.VeilRight returns true and leaves its arguments as they were. No conditions. -/
import Derived.Test.YtfdcapblgdlkaaaPlayed
import Derived.Test.YtfdcapblgdlkaaaFar
import Derived.Test.YtfdcapblgdlkaaaArgs3
namespace Go.Proofs.Ytfdcapblgdlkaaa
open Go.Joins Go.ChangeShapes Go.WideShapes Go.RowKit Go.Deep Go.ChangeAt

set_option maxRecDepth 100000 in
set_option maxHeartbeats 4000000 in
theorem veilRight_walk (d : Dl) (lim : Int) (x y : BitVec 16) (hd : d.ok) (w : World) : Calls Try.prog 10 #[d.val, .int .i64 lim, .int .u16 (uv x), .int .u16 (uv y)] w fun e w' => e = .returned (.bool true) ∧ Ext w w' := by
  have CV := fun w => validDeal_any d hd w
  cases hk : d.okB
  · rw [hk] at CV
    have CV := Lib.hid CV
    clear hk hd
    go_enter Try.func10, Try.ntmps10
    go_wp2_with fail
    refine Calls.ext (alive_any _) fun z0 => ?_
    have HB := Lib.hid ((Blk.new w 42 d.cells).ext z0)
    have HE := Lib.hid (((Ext.refl w).alloc (.cells d.cells 42)).ext z0)
    generalize ext (w.alloc (.cells d.cells 42)) z0 = V0 at *
    go_wp2_with (refine wpList_load_row rfl 42 (.tmp 4) rfl w.heap.size rfl 42 d.cells (0, 0) _ HB.out Try.underlying42 rfl (info42 d) ?_)
    refine Calls.ext (CV.out _) fun z1 => ?_
    go_wp2_with fail
    go_ret
    exact ⟨rfl, HE.out.ext z1⟩
  rw [hk] at CV
  have CV := Lib.hid CV
  by_cases h0 : lim < 0
  · have b0 : decide (lim < 0) = true := by simpa using h0
    clear hk hd
    go_enter Try.func10, Try.ntmps10
    go_wp2_with fail
    refine Calls.ext (alive_any _) fun z0 => ?_
    have HB := Lib.hid ((Blk.new w 42 d.cells).ext z0)
    have HE := Lib.hid (((Ext.refl w).alloc (.cells d.cells 42)).ext z0)
    generalize ext (w.alloc (.cells d.cells 42)) z0 = V0 at *
    go_wp2_with (refine wpList_load_row rfl 42 (.tmp 4) rfl w.heap.size rfl 42 d.cells (0, 0) _ HB.out Try.underlying42 rfl (info42 d) ?_)
    refine Calls.ext (CV.out _) fun z1 => ?_
    go_wp2_with fail
    go_ret
    exact ⟨rfl, HE.out.ext z1⟩
  have b0 : decide (lim < 0) = false := by simpa using h0
  by_cases h1 : 15 < lim
  · have b1 : decide (15 < lim) = true := by simpa using h1
    clear hk hd
    go_enter Try.func10, Try.ntmps10
    go_wp2_with fail
    refine Calls.ext (alive_any _) fun z0 => ?_
    have HB := Lib.hid ((Blk.new w 42 d.cells).ext z0)
    have HE := Lib.hid (((Ext.refl w).alloc (.cells d.cells 42)).ext z0)
    generalize ext (w.alloc (.cells d.cells 42)) z0 = V0 at *
    go_wp2_with (refine wpList_load_row rfl 42 (.tmp 4) rfl w.heap.size rfl 42 d.cells (0, 0) _ HB.out Try.underlying42 rfl (info42 d) ?_)
    refine Calls.ext (CV.out _) fun z1 => ?_
    go_wp2_with fail
    go_ret
    exact ⟨rfl, HE.out.ext z1⟩
  have b1 : decide (15 < lim) = false := by simpa using h1
  have FX := fun w => fits_any 15 (by omega) x w
  have FY := fun w => fits_any 15 (by omega) y w
  cases hx : fitB 15 x
  · rw [hx] at FX
    have FX := Lib.hid FX
    clear hk FY hx hd
    go_enter Try.func10, Try.ntmps10
    go_wp2_with fail
    refine Calls.ext (alive_any _) fun z0 => ?_
    have HB := Lib.hid ((Blk.new w 42 d.cells).ext z0)
    have HE := Lib.hid (((Ext.refl w).alloc (.cells d.cells 42)).ext z0)
    generalize ext (w.alloc (.cells d.cells 42)) z0 = V0 at *
    go_wp2_with (refine wpList_load_row rfl 42 (.tmp 4) rfl w.heap.size rfl 42 d.cells (0, 0) _ HB.out Try.underlying42 rfl (info42 d) ?_)
    refine Calls.ext (CV.out _) fun z1 => ?_
    go_wp2_with fail
    refine Calls.same (FX.out _) ?_
    go_wp2_with fail
    go_ret
    exact ⟨rfl, HE.out.ext z1⟩
  rw [hx] at FX
  have FX := Lib.hid FX
  cases hy : fitB 15 y
  · rw [hy] at FY
    have FY := Lib.hid FY
    clear hk hx hy hd
    go_enter Try.func10, Try.ntmps10
    go_wp2_with fail
    refine Calls.ext (alive_any _) fun z0 => ?_
    have HB := Lib.hid ((Blk.new w 42 d.cells).ext z0)
    have HE := Lib.hid (((Ext.refl w).alloc (.cells d.cells 42)).ext z0)
    generalize ext (w.alloc (.cells d.cells 42)) z0 = V0 at *
    go_wp2_with (refine wpList_load_row rfl 42 (.tmp 4) rfl w.heap.size rfl 42 d.cells (0, 0) _ HB.out Try.underlying42 rfl (info42 d) ?_)
    refine Calls.ext (CV.out _) fun z1 => ?_
    go_wp2_with fail
    refine Calls.same (FX.out _) ?_
    go_wp2_with fail
    refine Calls.same (FY.out _) ?_
    go_wp2_with fail
    go_ret
    exact ⟨rfl, HE.out.ext z1⟩
  rw [hy] at FY
  have FY := Lib.hid FY
  have hf := fine_of hd hk
  have CP := Lib.hid (fun w => played_any d lim x y hf (by omega) hx hy w)
  have hm := match_law d hd lim x y
  have CF := fun w => Far_any x y w
  rw [far_15 hx hy] at CF
  have CF := Lib.hid CF
  have hlr : (talkOf (ptyP d) (ptyQ d lim) x y).m = ((talkOf (ptyP d) (ptyQ d lim) x y).l != (talkOf (ptyP d) (ptyQ d lim) x y).r) := rfl
  clear hx hy hf hd hk
  generalize farS x y = far at *
  generalize talkOf (ptyP d) (ptyQ d lim) x y = T at *
  obtain ⟨fl, hfl⟩ : ∃ fl : Bool, fl = decide (far ≤ lim) := ⟨_, rfl⟩
  rw [← hfl] at hm
  have h6 := T.at_x 4
  have h4 := T.at_x 2
  have h5 := T.at_x 3
  have T6 : T.cells[34]? = some (.bool fl) := by rw [hm] at h6; exact h6
  have T4 : T.cells[32]? = some (.bool T.l) := h4
  have T5 : T.cells[33]? = some (.bool T.r) := h5
  rw [hm] at hlr
  clear h4 h5 h6 hm
  go_enter Try.func10, Try.ntmps10
  go_wp2_with fail
  refine Calls.ext (alive_any _) fun z0 => ?_
  have HB := Lib.hid ((Blk.new w 42 d.cells).ext z0)
  have HE := Lib.hid (((Ext.refl w).alloc (.cells d.cells 42)).ext z0)
  generalize ext (w.alloc (.cells d.cells 42)) z0 = V0 at *
  go_wp2_with (refine wpList_load_row rfl 42 (.tmp 4) rfl w.heap.size rfl 42 d.cells (0, 0) _ HB.out Try.underlying42 rfl (info42 d) ?_)
  refine Calls.ext (CV.out _) fun z1 => ?_
  go_wp2_with fail
  refine Calls.same (FX.out _) ?_
  go_wp2_with fail
  refine Calls.same (FY.out _) ?_
  go_wp2_with (refine wpList_load_row rfl 42 (.tmp 4) rfl w.heap.size rfl 42 d.cells (0, 0) _ (HB.out.ext z1) Try.underlying42 rfl (info42 d) ?_)
  refine Calls.ext (CP.out _) fun z2 => ?_
  have hsz := ((HE.out.ext z1).ext z2).size
  have P1 := Lib.hid (((Blk.new (ext (ext V0 z1) z2) 26 Z62).alloc (.cells Z62 26)).alloc (.cells Z35 29))
  have P2 := Lib.hid (((Blk.new' ((ext (ext V0 z1) z2).alloc (.cells Z62 26)) 26 Z62 ((ext (ext V0 z1) z2).heap.size + 1) (by simp)).alloc (.cells Z35 29)).rowFar (k := (ext (ext V0 z1) z2).heap.size) (by omega) (ptyP d).cells)
  have P3 := Lib.hid (((Blk.new' (((ext (ext V0 z1) z2).alloc (.cells Z62 26)).alloc (.cells Z62 26)) 29 Z35 ((ext (ext V0 z1) z2).heap.size + 1 + 1) (by simp)).rowFar (k := (ext (ext V0 z1) z2).heap.size) (by omega) (ptyP d).cells).rowFar (k := (ext (ext V0 z1) z2).heap.size + 1) (by omega) (ptyQ d lim).cells)
  have N1 := Lib.hid (((P1.out.row (ptyP d).cells).rowFar (k := (ext (ext V0 z1) z2).heap.size + 1) (by omega) (ptyQ d lim).cells).rowFar (k := (ext (ext V0 z1) z2).heap.size + 1 + 1) (by omega) T.cells)
  have N2 := Lib.hid ((P2.out.row (ptyQ d lim).cells).rowFar (k := (ext (ext V0 z1) z2).heap.size + 1 + 1) (by omega) T.cells)
  have N3 := Lib.hid (P3.out.row T.cells)
  have NE := Lib.hid ((((((((HE.out.ext z1).ext z2).alloc (.cells Z62 26)).alloc (.cells Z62 26)).alloc (.cells Z35 29)).row (g := (ext (ext V0 z1) z2).heap.size) (by omega) (ptyP d).cells).row (g := (ext (ext V0 z1) z2).heap.size + 1) (by omega) (ptyQ d lim).cells).row (g := (ext (ext V0 z1) z2).heap.size + 1 + 1) (by omega) T.cells)
  go_wp2_with (first | (refine wpList_store_row rfl 26 (.tmp 10) (.tmp 43) rfl (ext (ext V0 z1) z2).heap.size rfl 26 Z62 (ptyP d).cells rfl P1.out (info26 _) (z62_size _) pty_one ?_) | (refine wpList_store_row rfl 26 (.tmp 11) (.tmp 44) rfl ((ext (ext V0 z1) z2).heap.size + 1) rfl 26 Z62 (ptyQ d lim).cells rfl P2.out (info26 _) (z62_size _) pty_one ?_) | (refine wpList_store_row rfl 29 (.tmp 12) (.tmp 45) rfl ((ext (ext V0 z1) z2).heap.size + 1 + 1) rfl 29 Z35 T.cells rfl P3.out (info29t _) (z35t _) tlk_one ?_))
  change Code.wp _ _ _ _ (((((((ext (ext V0 z1) z2).alloc (.cells Z62 26)).alloc (.cells Z62 26)).alloc (.cells Z35 29)).setRow (ext (ext V0 z1) z2).heap.size (ptyP d).cells).setRow ((ext (ext V0 z1) z2).heap.size + 1) (ptyQ d lim).cells).setRow ((ext (ext V0 z1) z2).heap.size + 1 + 1) T.cells)
  generalize ((((((ext (ext V0 z1) z2).alloc (.cells Z62 26)).alloc (.cells Z62 26)).alloc (.cells Z35 29)).setRow (ext (ext V0 z1) z2).heap.size (ptyP d).cells).setRow ((ext (ext V0 z1) z2).heap.size + 1) (ptyQ d lim).cells).setRow ((ext (ext V0 z1) z2).heap.size + 1 + 1) T.cells = V at *
  generalize (ext (ext V0 z1) z2).heap.size = G at *
  have c6 : V.cell? ⟨G + 1 + 1, 34, none⟩ = some (.bool fl) := (N3.out.cell 34).trans T6
  have c4 : V.cell? ⟨G + 1 + 1, 32, none⟩ = some (.bool T.l) := (N3.out.cell 32).trans T4
  have c5 : V.cell? ⟨G + 1 + 1, 33, none⟩ = some (.bool T.r) := (N3.out.cell 33).trans T5
  have oT := Old.mk N3.out.lt
  clear P1 P2 P3 N1 N2 N3 T4 T5 T6 hsz
  generalize T.l = tl at *
  generalize T.r = tr at *
  cases fl <;> cases tl <;> cases tr <;> first | (exfalso; revert hlr; decide) | skip
  all_goals
    have hfl2 := hfl.symm
    clear hfl hlr
    refine wp_region_ext (by kernel_rfl) (by kernel_rfl) ?_
    repeat (go_big_quiet_step (first | (go_at_call 43; exact Calls.quiet_same (CF.out _))))
    refine wpQuiet_nil ?_
    rintro _ ⟨z3, rfl⟩
    go_wp2_with fail
    go_ret
    exact ⟨rfl, NE.out.ext z3⟩
set_option maxRecDepth 100000 in
theorem veilRight_lifted (os : Os) (started : os.Started) (H : Type) (enc : TypeId × Value → H) :
    ReturnsInHanded {} Try.checked os 10 .any (Rows.veilRightSpec.pre6 enc Try.prog Try.f10 Rows.veilRightRow.domain false) (Rows.veilRightSpec.post enc Try.prog Try.f10 false true false false) := by
  refine returnsInHanded_of_change (C := Try.checked) own started (by kernel_rfl) Try.func10
    (ChangeSpec.witness6 (enc := enc) (C := Try.checked) false ⟨#[], #[.agg (Array.replicate 47 (.int .u8 0) ++ Array.replicate 31 (.int .u32 0)), .int .i64 0, .int .u16 0, .int .u16 0], []⟩ 8 (by kernel_rfl) (by kernel_rfl) (by kernel_rfl) (by kernel_rfl)) ?_
  intro W base args ds gs before hval0 hW hcnd _
  have hval : ∀ (j : Nat) t v, Try.f10.params[j]? = some t → args[j]? = some v → Value.okWide Try.prog W .any base t v := hval0
  have hW' := hW
  obtain ⟨p, q, hA0, hV, rfl, hfz, hnd⟩ := hW
  have hA : DataW.TrodAll enc Try.prog W 0 (fun _ => true) true Try.f10.params.toList args.toList ds p := hA0
  rw [Try.params10] at hA hval
  obtain ⟨v0, vs0, d0, ds0, p0, q0, hargs, rfl, rfl, h0, r0⟩ := trodAll_cons hA
  obtain ⟨v1, vs1, d1, ds1, p1, q1, rfl, rfl, rfl, h1, r1⟩ := trodAll_cons r0
  obtain ⟨v2, vs2, d2, ds2, p2, q2, rfl, rfl, rfl, h2, r2⟩ := trodAll_cons r1
  obtain ⟨v3, vs3, d3, ds3, p3, q3, rfl, rfl, rfl, h3, r3⟩ := trodAll_cons r2
  obtain ⟨rfl, rfl, rfl⟩ := trodAll_nil r3
  obtain rfl : args = #[v0, v1, v2, v3] := by cases args; simp_all
  obtain ⟨rfl, rfl⟩ := trodVars_none hV
  have k0 := h0
  have lt0 : ∀ x ∈ p0, x.block < W.heap.size := by obtain ⟨m, hm⟩ := k0; exact DataW.trod_lt m _ _ _ hm
  obtain ⟨ns0, hl0, hv0, wf0⟩ := open_flat (ks := dks) (by kernel_rfl) (hval 0 42 v0 rfl rfl)
  have k1 := h1
  have lt1 : ∀ x ∈ p1, x.block < W.heap.size := by obtain ⟨m, hm⟩ := k1; exact DataW.trod_lt m _ _ _ hm
  obtain ⟨a1, rfl, _, _, w1⟩ := open_int Try.underlying3 (hval 1 3 v1 rfl rfl) h1
  have k2 := h2
  have lt2 : ∀ x ∈ p2, x.block < W.heap.size := by obtain ⟨m, hm⟩ := k2; exact DataW.trod_lt m _ _ _ hm
  obtain ⟨a2, rfl, _, _, w2⟩ := open_int Try.underlying27 (hval 2 27 v2 rfl rfl) h2
  have k3 := h3
  have lt3 : ∀ x ∈ p3, x.block < W.heap.size := by obtain ⟨m, hm⟩ := k3; exact DataW.trod_lt m _ _ _ hm
  obtain ⟨a3, rfl, _, _, w3⟩ := open_int Try.underlying27 (hval 3 27 v3 rfl rfl) h3
  clear hA0 hval0
  obtain ⟨dl0, hdl0, ok0⟩ := deal_of hl0 wf0
  rw [hdl0] at hv0
  subst hv0
  have e2 := uv_of w2
  generalize BitVec.ofNat 16 a2.toNat = x2 at e2
  subst e2
  have e3 := uv_of w3
  generalize BitVec.ofNat 16 a3.toNat = x3 at e3
  subst e3
  refine (veilRight_walk dl0 a1 x2 x3 ok0 W).mono fun e W' ⟨he, bel⟩ => ?_
  subst he
  exact ⟨_, rfl, _, _, _, [], _, [], hW', trodAll_mk1 (shut_bool Try.underlying4 _), (trodAll_cons_mk (Below.trod laidOut (by kernel_rfl) (of_decide_eq_true (by kernel_rfl)) k0 bel lt0) (trodAll_cons_mk (Below.trod laidOut (by kernel_rfl) (of_decide_eq_true (by kernel_rfl)) k1 bel lt1) (trodAll_cons_mk (Below.trod laidOut (by kernel_rfl) (of_decide_eq_true (by kernel_rfl)) k2 bel lt2) (trodAll_cons_mk (Below.trod laidOut (by kernel_rfl) (of_decide_eq_true (by kernel_rfl)) k3 bel lt3) trodAll_mk0)))), rfl, Below.frame bel _, fun h => by cases h⟩

theorem veilRight_holds : Rows.VeilRightSaid :=
  OpenClaim.holds_of_wide 10 Try.f10 rfl rfl rfl rfl rfl rfl rfl ⟨rfl, rfl, rfl, rfl, rfl⟩ rfl rfl rfl rfl rfl (by kernel_rfl) Try.func10 (by kernel_rfl)
    (of_decide_eq_true (by kernel_rfl)) (by unfold Func.isWrapper; first | (rw [if_pos (by decide +kernel)]; kernel_rfl) | (rw [if_neg (by decide +kernel)]; exact ⟨rfl, rfl⟩))
    (fun os started H enc _ => veilRight_lifted os started H enc)
end Go.Proofs.Ytfdcapblgdlkaaa
