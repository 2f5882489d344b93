/- Proved: for all parties and words, the call of whorllaw06.VeilParties returns true and leaves its arguments as they were. No conditions. -/
import Derived.Test.YtfdcapblgdlkaaaArgs2
namespace Go.Proofs.Ytfdcapblgdlkaaa
open Go.Joins Go.ChangeShapes Go.WideShapes Go.RowKit Go.Deep Go.ChangeAt
theorem eg29 : Try.prog.eqGuardType Try.prog.depth 29 = false := by kernel_rfl
set_option maxRecDepth 100000 in
set_option maxHeartbeats 4000000 in
theorem veilParties_walk (p q : Pty) (x y : BitVec 16) (hp : p.ok) (hq : q.ok) (w : World) : Calls Try.prog 3 #[p.val, q.val, .int .u16 (uv x), .int .u16 (uv y)] w fun e w' => e = .returned (.bool true) ∧ Ext w w' := by
  have C1 := Lib.hid (fun w => Play_any p q x y hp hq w)
  have C2 := Lib.hid (fun w => refPlay_any p q x y hp hq w)
  obtain ⟨t, ht, hc⟩ := play_tlk p q x y
  rw [hc] at C1 C2
  generalize talkErr p q x y = n at *
  have HT := Lib.hid (fun w => eq29 t ht w)
  clear ht hc
  go_enter Try.func3, Try.ntmps3
  go_wp2_with (first | (refine wpList_load_row rfl 26 (.tmp 4) rfl (w.heap.size) rfl 26 p.cells (0, 0) _ ((Blk.new w 26 p.cells).alloc _) Try.underlying26 rfl (info26 p) ?_) | (refine wpList_load_row rfl 26 (.tmp 5) rfl (w.heap.size + 1) rfl 26 q.cells (0, 0) _ (Blk.new' (w.alloc (.cells p.cells 26)) 26 q.cells (w.heap.size + 1) (by simp)) Try.underlying26 rfl (info26 q) ?_))
  change Calls _ _ _ ((w.alloc (.cells p.cells 26)).alloc (.cells q.cells 26)) _
  refine Calls.ext (C1.out _) fun z1 => ?_
  have H4 := Lib.hid (((Blk.new w 26 p.cells).alloc (.cells q.cells 26)).ext z1)
  have H5 := Lib.hid ((Blk.new' (w.alloc (.cells p.cells 26)) 26 q.cells (w.heap.size + 1) (by simp)).ext z1)
  have HE := Lib.hid ((((Ext.refl w).alloc (.cells p.cells 26)).alloc (.cells q.cells 26)).ext z1)
  generalize ext ((w.alloc (.cells p.cells 26)).alloc (.cells q.cells 26)) z1 = W at *
  go_wp2_with (first | (refine wpList_store_row rfl 29 (.tmp 9) (.tmp 19) rfl (W.heap.size) rfl 29 Z35 t.cells rfl (Blk.new W 29 Z35) (info29t _) (z35t _) tlk_one ?_) | (refine wpList_load_row rfl 26 (.tmp 4) rfl (w.heap.size) rfl 26 p.cells (0, 0) _ (Blk.rowFar (H4.out.alloc _) (Nat.ne_of_lt H4.out.lt) _) Try.underlying26 rfl (info26 p) ?_) | (refine wpList_load_row rfl 26 (.tmp 5) rfl (w.heap.size + 1) rfl 26 q.cells (0, 0) _ (Blk.rowFar (H5.out.alloc _) (Nat.ne_of_lt H5.out.lt) _) Try.underlying26 rfl (info26 q) ?_))
  change Calls _ _ _ ((W.alloc (.cells Z35 29)).setRow W.heap.size t.cells) _
  refine Calls.ext (C2.out _) fun z2 => ?_
  have H9 := Lib.hid (((Blk.new W 29 Z35).row t.cells).ext z2)
  have HE2 := Lib.hid (((HE.out.alloc (.cells Z35 29)).row (g := W.heap.size) HE.out.size t.cells).ext z2)
  generalize ext ((W.alloc (.cells Z35 29)).setRow W.heap.size t.cells) z2 = V at *
  go_wp2_with (first | (refine wpList_store_row rfl 29 (.tmp 11) (.tmp 27) rfl (V.heap.size) rfl 29 Z35 t.cells rfl (Blk.new V 29 Z35) (info29t _) (z35t _) tlk_one ?_) | (refine wpList_load_row rfl 29 (.tmp 9) rfl (W.heap.size) rfl 29 t.cells (0, 0) _ (Blk.rowFar (H9.out.alloc _) (Nat.ne_of_lt H9.out.lt) _) Try.underlying29 rfl (info29t _) ?_) | (refine wpList_load_row rfl 29 (.tmp 11) rfl (V.heap.size) rfl 29 t.cells (0, 0) _ ((Blk.new V 29 Z35).row _) Try.underlying29 rfl (info29t _) ?_) | (refine wpList_eql_row rfl 29 (.tmp 29) (.tmp 30) rfl t.cells t.cells rfl rfl eg29 true HT.out ?_))
  go_ret
  exact ⟨rfl, (HE2.out.alloc _).row HE2.out.size _⟩
set_option maxRecDepth 100000 in
theorem veilParties_lifted (os : Os) (started : os.Started) (H : Type) (enc : TypeId × Value → H) :
    ReturnsInHanded {} Try.checked os 3 .any (Rows.veilPartiesSpec.pre6 enc Try.prog Try.f3 Rows.veilPartiesRow.domain false) (Rows.veilPartiesSpec.post enc Try.prog Try.f3 false true false false) := by
  refine returnsInHanded_of_change (C := Try.checked) own started (by kernel_rfl) Try.func3
    (ChangeSpec.witness6 (enc := enc) (C := Try.checked) false ⟨#[], #[.agg (Array.replicate 31 (.int .u8 0) ++ Array.replicate 31 (.int .u32 0)), .agg (Array.replicate 31 (.int .u8 0) ++ Array.replicate 31 (.int .u32 0)), .int .u16 0, .int .u16 0], []⟩ 8 (by kernel_rfl) (by kernel_rfl) (by kernel_rfl) (by kernel_rfl)) ?_
  intro W base args ds gs before hval0 hW hcnd _
  have hval : ∀ (j : Nat) t v, Try.f3.params[j]? = some t → args[j]? = some v → Value.okWide Try.prog W .any base t v := hval0
  have hW' := hW
  obtain ⟨p, q, hA0, hV, rfl, hfz, hnd⟩ := hW
  have hA : DataW.TrodAll enc Try.prog W 0 (fun _ => true) true Try.f3.params.toList args.toList ds p := hA0
  rw [Try.params3] at hA hval
  obtain ⟨v0, vs0, d0, ds0, p0, q0, hargs, rfl, rfl, h0, r0⟩ := trodAll_cons hA
  obtain ⟨v1, vs1, d1, ds1, p1, q1, rfl, rfl, rfl, h1, r1⟩ := trodAll_cons r0
  obtain ⟨v2, vs2, d2, ds2, p2, q2, rfl, rfl, rfl, h2, r2⟩ := trodAll_cons r1
  obtain ⟨v3, vs3, d3, ds3, p3, q3, rfl, rfl, rfl, h3, r3⟩ := trodAll_cons r2
  obtain ⟨rfl, rfl, rfl⟩ := trodAll_nil r3
  obtain rfl : args = #[v0, v1, v2, v3] := by cases args; simp_all
  obtain ⟨rfl, rfl⟩ := trodVars_none hV
  have k0 := h0
  have lt0 : ∀ x ∈ p0, x.block < W.heap.size := by obtain ⟨m, hm⟩ := k0; exact DataW.trod_lt m _ _ _ hm
  obtain ⟨ns0, hl0, hv0, wf0⟩ := open_flat (ks := pks) (by kernel_rfl) (hval 0 26 v0 rfl rfl)
  have k1 := h1
  have lt1 : ∀ x ∈ p1, x.block < W.heap.size := by obtain ⟨m, hm⟩ := k1; exact DataW.trod_lt m _ _ _ hm
  obtain ⟨ns1, hl1, hv1, wf1⟩ := open_flat (ks := pks) (by kernel_rfl) (hval 1 26 v1 rfl rfl)
  have k2 := h2
  have lt2 : ∀ x ∈ p2, x.block < W.heap.size := by obtain ⟨m, hm⟩ := k2; exact DataW.trod_lt m _ _ _ hm
  obtain ⟨a2, rfl, _, _, w2⟩ := open_int Try.underlying27 (hval 2 27 v2 rfl rfl) h2
  have k3 := h3
  have lt3 : ∀ x ∈ p3, x.block < W.heap.size := by obtain ⟨m, hm⟩ := k3; exact DataW.trod_lt m _ _ _ hm
  obtain ⟨a3, rfl, _, _, w3⟩ := open_int Try.underlying27 (hval 3 27 v3 rfl rfl) h3
  clear hA0 hval0
  obtain ⟨pt0, hpt0, ok0⟩ := pty_of hl0 wf0
  rw [hpt0] at hv0
  subst hv0
  obtain ⟨pt1, hpt1, ok1⟩ := pty_of hl1 wf1
  rw [hpt1] at hv1
  subst hv1
  have e2 := uv_of w2
  generalize BitVec.ofNat 16 a2.toNat = x2 at e2
  subst e2
  have e3 := uv_of w3
  generalize BitVec.ofNat 16 a3.toNat = x3 at e3
  subst e3
  refine (veilParties_walk pt0 pt1 x2 x3 ok0 ok1 W).mono fun e W' ⟨he, bel⟩ => ?_
  subst he
  exact ⟨_, rfl, _, _, _, [], _, [], hW', trodAll_mk1 (shut_bool Try.underlying4 _), (trodAll_cons_mk (Below.trod laidOut (by kernel_rfl) (of_decide_eq_true (by kernel_rfl)) k0 bel lt0) (trodAll_cons_mk (Below.trod laidOut (by kernel_rfl) (of_decide_eq_true (by kernel_rfl)) k1 bel lt1) (trodAll_cons_mk (Below.trod laidOut (by kernel_rfl) (of_decide_eq_true (by kernel_rfl)) k2 bel lt2) (trodAll_cons_mk (Below.trod laidOut (by kernel_rfl) (of_decide_eq_true (by kernel_rfl)) k3 bel lt3) trodAll_mk0)))), rfl, Below.frame bel _, fun h => by cases h⟩

theorem veilParties_holds : Rows.VeilPartiesSaid :=
  OpenClaim.holds_of_wide 3 Try.f3 rfl rfl rfl rfl rfl rfl rfl ⟨rfl, rfl, rfl, rfl, rfl⟩ rfl rfl rfl rfl rfl (by kernel_rfl) Try.func3 (by kernel_rfl)
    (of_decide_eq_true (by kernel_rfl)) (by unfold Func.isWrapper; first | (rw [if_pos (by decide +kernel)]; kernel_rfl) | (rw [if_neg (by decide +kernel)]; exact ⟨rfl, rfl⟩))
    (fun os started H enc _ => veilParties_lifted os started H enc)
end Go.Proofs.Ytfdcapblgdlkaaa
