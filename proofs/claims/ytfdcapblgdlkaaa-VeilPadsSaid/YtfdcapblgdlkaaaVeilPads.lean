/- Proved: for all keys k, words w, hidden and pads, the call of whorllaw06.VeilPads returns true and leaves its arguments as they were. No conditions. -/
import Derived.Test.YtfdcapblgdlkaaaAlive
import Derived.Test.YtfdcapblgdlkaaaKeyLaw2
import Derived.Test.YtfdcapblgdlkaaaArgs
namespace Go.Proofs.Ytfdcapblgdlkaaa
open Go.Joins Go.ChangeShapes Go.WideShapes Go.RowKit Go.Deep Go.ChangeAt

theorem pads_law (k x y : BitVec 16) : ((k ^^^ x) == y) = ((k ^^^ y) == x) := by
  rw [Bool.eq_iff_iff, beq_iff_eq, beq_iff_eq]
  constructor
  · intro h; rw [← h, ← BitVec.xor_assoc, BitVec.xor_self, BitVec.zero_xor]
  · intro h; rw [← h, ← BitVec.xor_assoc, BitVec.xor_self, BitVec.zero_xor]
theorem pads_ok {a : K} (ha : okK a = true) {p : BitVec 16} (hp : fitB a.n p = true) : okK ⟨a.bits, a.perm, p⟩ = true := by
  obtain ⟨n, q, pad, rfl, hn, hq, hf⟩ := ok_split ha
  simp only [okK, Int.toNat_natCast, inB, Bool.and_eq_true, decide_eq_true_eq]
  refine ⟨⟨by omega, by omega⟩, ?_⟩
  exact hp
theorem pads_hide {a : K} (ha : okK a = true) {p x : BitVec 16} (hp : fitB a.n p = true) (hx : fitB a.n x = true) : askV ⟨a.bits, a.perm, p⟩ x = 0 ∧ hideX ⟨a.bits, a.perm, p⟩ x = perW (ordN a.n a.p) x ^^^ p := by
  obtain ⟨h1, h2, -⟩ := hide_law (a := ⟨a.bits, a.perm, p⟩) (pads_ok ha hp) hx
  exact ⟨h1, h2⟩
set_option maxRecDepth 100000 in
set_option maxHeartbeats 4000000 in
theorem veilPads_walk (a : K) (x y p : BitVec 16) (w : World) : Calls Try.prog 9 #[a.val, .int .u16 (uv x), .int .u16 (uv y), .int .u16 (uv p)] w fun e w' => e = .returned (.bool true) ∧ Ext w w' := by
  have D1 := fun w => refValid_any a w
  cases ka : okK a
  · rw [ka] at D1
    have D1 := Lib.hid D1
    clear ka
    go_enter Try.func9, Try.ntmps9
    go_wp2_with fail
    refine Calls.ext (alive_any _) fun z0 => ?_
    have HA := Lib.hid ((Blk.new w 55 #[.int .i64 a.bits, .int .i64 a.perm, .int .u16 (uv a.pad)]).ext z0)
    have HE := Lib.hid (((Ext.refl w).alloc (.cells #[.int .i64 a.bits, .int .i64 a.perm, .int .u16 (uv a.pad)] 55)).ext z0)
    generalize ext (w.alloc (.cells #[.int .i64 a.bits, .int .i64 a.perm, .int .u16 (uv a.pad)] 55)) z0 = V0 at *
    have c0 : V0.cell? ⟨w.heap.size, 0, none⟩ = some (.int .i64 a.bits) := HA.out.cell 0
    have c1 : V0.cell? ⟨w.heap.size, 1, none⟩ = some (.int .i64 a.perm) := HA.out.cell 1
    have c2 : V0.cell? ⟨w.heap.size, 2, none⟩ = some (.int .u16 (uv a.pad)) := HA.out.cell 2
    have oa := Old.mk HA.out.lt
    have fa := HA.out.frozen
    go_wp2_with fail
    refine Calls.ext (D1.out _) fun z1 => ?_
    go_wp2_with fail
    go_ret
    exact ⟨rfl, HE.out.ext z1⟩
  rw [ka] at D1
  have D1 := Lib.hid D1
  obtain ⟨pa, pn, ha15, hfa, hbits, -⟩ := ok_perm ka
  have F1 : ∀ w, Calls Try.prog 44 #[.int .i64 a.bits, .int .u16 (uv x)] w fun e w' => e = .returned (.bool (fitB a.n x)) ∧ w = w' := fun w => by rw [hbits]; exact fits_any a.n (by omega) x w
  have F2 : ∀ w, Calls Try.prog 44 #[.int .i64 a.bits, .int .u16 (uv y)] w fun e w' => e = .returned (.bool (fitB a.n y)) ∧ w = w' := fun w => by rw [hbits]; exact fits_any a.n (by omega) y w
  have F3 : ∀ w, Calls Try.prog 44 #[.int .i64 a.bits, .int .u16 (uv p)] w fun e w' => e = .returned (.bool (fitB a.n p)) ∧ w = w' := fun w => by rw [hbits]; exact fits_any a.n (by omega) p w
  cases h1 : fitB a.n x
  · rw [h1] at F1
    have F1 := Lib.hid F1
    clear ka pa pn ha15 hfa hbits h1 F2 F3
    go_enter Try.func9, Try.ntmps9
    go_wp2_with fail
    refine Calls.ext (alive_any _) fun z0 => ?_
    have HA := Lib.hid ((Blk.new w 55 #[.int .i64 a.bits, .int .i64 a.perm, .int .u16 (uv a.pad)]).ext z0)
    have HE := Lib.hid (((Ext.refl w).alloc (.cells #[.int .i64 a.bits, .int .i64 a.perm, .int .u16 (uv a.pad)] 55)).ext z0)
    generalize ext (w.alloc (.cells #[.int .i64 a.bits, .int .i64 a.perm, .int .u16 (uv a.pad)] 55)) z0 = V0 at *
    have c0 : V0.cell? ⟨w.heap.size, 0, none⟩ = some (.int .i64 a.bits) := HA.out.cell 0
    have c1 : V0.cell? ⟨w.heap.size, 1, none⟩ = some (.int .i64 a.perm) := HA.out.cell 1
    have c2 : V0.cell? ⟨w.heap.size, 2, none⟩ = some (.int .u16 (uv a.pad)) := HA.out.cell 2
    have oa := Old.mk HA.out.lt
    have fa := HA.out.frozen
    go_wp2_with fail
    refine Calls.ext (D1.out _) fun z1 => ?_
    go_wp2_with fail
    refine Calls.same (F1.out _) ?_
    go_wp2_with fail
    go_ret
    exact ⟨rfl, HE.out.ext z1⟩
  rw [h1] at F1
  cases h2 : fitB a.n y
  · rw [h2] at F2
    have F1 := Lib.hid F1
    have F2 := Lib.hid F2
    clear ka pa pn ha15 hfa hbits h1 h2 F3
    go_enter Try.func9, Try.ntmps9
    go_wp2_with fail
    refine Calls.ext (alive_any _) fun z0 => ?_
    have HA := Lib.hid ((Blk.new w 55 #[.int .i64 a.bits, .int .i64 a.perm, .int .u16 (uv a.pad)]).ext z0)
    have HE := Lib.hid (((Ext.refl w).alloc (.cells #[.int .i64 a.bits, .int .i64 a.perm, .int .u16 (uv a.pad)] 55)).ext z0)
    generalize ext (w.alloc (.cells #[.int .i64 a.bits, .int .i64 a.perm, .int .u16 (uv a.pad)] 55)) z0 = V0 at *
    have c0 : V0.cell? ⟨w.heap.size, 0, none⟩ = some (.int .i64 a.bits) := HA.out.cell 0
    have c1 : V0.cell? ⟨w.heap.size, 1, none⟩ = some (.int .i64 a.perm) := HA.out.cell 1
    have c2 : V0.cell? ⟨w.heap.size, 2, none⟩ = some (.int .u16 (uv a.pad)) := HA.out.cell 2
    have oa := Old.mk HA.out.lt
    have fa := HA.out.frozen
    go_wp2_with fail
    refine Calls.ext (D1.out _) fun z1 => ?_
    go_wp2_with fail
    refine Calls.same (F1.out _) ?_
    go_wp2_with fail
    refine Calls.same (F2.out _) ?_
    go_wp2_with fail
    go_ret
    exact ⟨rfl, HE.out.ext z1⟩
  rw [h2] at F2
  cases h3 : fitB a.n p
  · rw [h3] at F3
    have F1 := Lib.hid F1
    have F2 := Lib.hid F2
    have F3 := Lib.hid F3
    clear ka pa pn ha15 hfa hbits h1 h2 h3 
    go_enter Try.func9, Try.ntmps9
    go_wp2_with fail
    refine Calls.ext (alive_any _) fun z0 => ?_
    have HA := Lib.hid ((Blk.new w 55 #[.int .i64 a.bits, .int .i64 a.perm, .int .u16 (uv a.pad)]).ext z0)
    have HE := Lib.hid (((Ext.refl w).alloc (.cells #[.int .i64 a.bits, .int .i64 a.perm, .int .u16 (uv a.pad)] 55)).ext z0)
    generalize ext (w.alloc (.cells #[.int .i64 a.bits, .int .i64 a.perm, .int .u16 (uv a.pad)] 55)) z0 = V0 at *
    have c0 : V0.cell? ⟨w.heap.size, 0, none⟩ = some (.int .i64 a.bits) := HA.out.cell 0
    have c1 : V0.cell? ⟨w.heap.size, 1, none⟩ = some (.int .i64 a.perm) := HA.out.cell 1
    have c2 : V0.cell? ⟨w.heap.size, 2, none⟩ = some (.int .u16 (uv a.pad)) := HA.out.cell 2
    have oa := Old.mk HA.out.lt
    have fa := HA.out.frozen
    go_wp2_with fail
    refine Calls.ext (D1.out _) fun z1 => ?_
    go_wp2_with fail
    refine Calls.same (F1.out _) ?_
    go_wp2_with fail
    refine Calls.same (F2.out _) ?_
    go_wp2_with fail
    refine Calls.same (F3.out _) ?_
    go_wp2_with fail
    go_ret
    exact ⟨rfl, HE.out.ext z1⟩
  rw [h3] at F3
  have hz : fitB a.n 0#16 = true := (fit_iff a.n 0#16).2 fun i _ => by simp
  obtain ⟨q1, r1⟩ := pads_hide ka hz h1
  have hbare : fitB a.n (perW (ordN a.n a.p) x) = true := by have := fit_perW (ordN a.n a.p) x; rwa [ordN_len] at this
  obtain ⟨q2, r2⟩ := pads_hide ka (fit_xor hbare h2) h1
  obtain ⟨q3, r3⟩ := pads_hide ka h3 h1
  have C1 := fun w => Hide_any ⟨a.bits, a.perm, 0#16⟩ x w
  have C2 := fun w => Hide_any ⟨a.bits, a.perm, perW (ordN a.n a.p) x ^^^ y⟩ x w
  have C3 := fun w => Hide_any ⟨a.bits, a.perm, p⟩ x w
  rw [q1, r1, BitVec.xor_zero] at C1
  rw [q2, r2, ← BitVec.xor_assoc, BitVec.xor_self, BitVec.zero_xor] at C2
  rw [q3, r3] at C3
  clear q1 q2 q3 r1 r2 r3 hbare hz ka pa pn ha15 hfa hbits h1 h2 h3
  generalize perW (ordN a.n a.p) x = k at *
  have hl := pads_law k p y
  have C1 : ∀ w, Calls Try.prog 32 #[.agg #[.int .i64 a.bits, .int .i64 a.perm, .int .u16 0], .int .u16 (uv x)] w fun e w' => e = .returned (.tuple #[.int .u16 (uv k), .int .i64 0]) ∧ Ext w w' := C1
  have C1 := Lib.hid C1
  have C2 := Lib.hid C2
  have C3 := Lib.hid C3
  have F1 := Lib.hid F1
  have F2 := Lib.hid F2
  have F3 := Lib.hid F3
  cases hb : ((k ^^^ y) == p)
  all_goals
    rw [hb] at hl
    go_enter Try.func9, Try.ntmps9
    go_wp2_with fail
    refine Calls.ext (alive_any _) fun z0 => ?_
    have HA := Lib.hid ((Blk.new w 55 #[.int .i64 a.bits, .int .i64 a.perm, .int .u16 (uv a.pad)]).ext z0)
    have HE := Lib.hid (((Ext.refl w).alloc (.cells #[.int .i64 a.bits, .int .i64 a.perm, .int .u16 (uv a.pad)] 55)).ext z0)
    generalize ext (w.alloc (.cells #[.int .i64 a.bits, .int .i64 a.perm, .int .u16 (uv a.pad)] 55)) z0 = V0 at *
    have c0 : V0.cell? ⟨w.heap.size, 0, none⟩ = some (.int .i64 a.bits) := HA.out.cell 0
    have c1 : V0.cell? ⟨w.heap.size, 1, none⟩ = some (.int .i64 a.perm) := HA.out.cell 1
    have c2 : V0.cell? ⟨w.heap.size, 2, none⟩ = some (.int .u16 (uv a.pad)) := HA.out.cell 2
    have oa := Old.mk HA.out.lt
    have fa := HA.out.frozen
    go_wp2_with fail
    refine Calls.ext (D1.out _) fun z1 => ?_
    go_wp2_with fail
    refine Calls.same (F1.out _) ?_
    go_wp2_with fail
    refine Calls.same (F2.out _) ?_
    go_wp2_with fail
    refine Calls.same (F3.out _) ?_
    go_wp2_with fail
    refine Calls.ext (C1.out _) fun z2 => ?_
    have HA1 : Blk (ext ((ext V0 z1).setCell ⟨w.heap.size, 2, none⟩ (.int .u16 0)) z2) w.heap.size 55 #[.int .i64 a.bits, .int .i64 a.perm, .int .u16 0] := (((HA.out.ext z1).set_ 2 (.int .u16 0)).ext z2)
    have HA1 := Lib.hid HA1
    have HE1 := Lib.hid (((HE.out.ext z1).setCell (p := ⟨w.heap.size, 2, none⟩) (Nat.le_refl _) (.int .u16 0)).ext z2)
    clear c0 c1 c2 oa fa
    generalize ext ((ext V0 z1).setCell ⟨w.heap.size, 2, none⟩ (.int .u16 0)) z2 = V1 at *
    have c0 : V1.cell? ⟨w.heap.size, 0, none⟩ = some (.int .i64 a.bits) := HA1.out.cell 0
    have c1 : V1.cell? ⟨w.heap.size, 1, none⟩ = some (.int .i64 a.perm) := HA1.out.cell 1
    have c2 : V1.cell? ⟨w.heap.size, 2, none⟩ = some (.int .u16 0) := HA1.out.cell 2
    have oa := Old.mk HA1.out.lt
    have fa := HA1.out.frozen
    go_wp2_with fail
    refine Calls.ext (C2.out _) fun z3 => ?_
    have HA2 : Blk (ext (V1.setCell ⟨w.heap.size, 2, none⟩ (.int .u16 (uv (k ^^^ y)))) z3) w.heap.size 55 #[.int .i64 a.bits, .int .i64 a.perm, .int .u16 (uv (k ^^^ y))] := ((HA1.out.set_ 2 (.int .u16 (uv (k ^^^ y)))).ext z3)
    have HA2 := Lib.hid HA2
    have HE2 := Lib.hid ((HE1.out.setCell (p := ⟨w.heap.size, 2, none⟩) (Nat.le_refl _) (.int .u16 (uv (k ^^^ y)))).ext z3)
    clear c0 c1 c2 oa fa
    generalize ext (V1.setCell ⟨w.heap.size, 2, none⟩ (.int .u16 (uv (k ^^^ y)))) z3 = V2 at *
    have c0 : V2.cell? ⟨w.heap.size, 0, none⟩ = some (.int .i64 a.bits) := HA2.out.cell 0
    have c1 : V2.cell? ⟨w.heap.size, 1, none⟩ = some (.int .i64 a.perm) := HA2.out.cell 1
    have c2 : V2.cell? ⟨w.heap.size, 2, none⟩ = some (.int .u16 (uv (k ^^^ y))) := HA2.out.cell 2
    have oa := Old.mk HA2.out.lt
    have fa := HA2.out.frozen
    go_wp2_with fail
    refine Calls.ext (C3.out _) fun z4 => ?_
    go_wp2_with fail
    go_ret
    exact ⟨rfl, (HE2.out.setCell (p := ⟨w.heap.size, 2, none⟩) (Nat.le_refl _) (.int .u16 (uv p))).ext z4⟩
set_option maxRecDepth 100000 in
theorem veilPads_lifted (os : Os) (started : os.Started) (H : Type) (enc : TypeId × Value → H) :
    ReturnsInHanded {} Try.checked os 9 .any (Rows.veilPadsSpec.pre6 enc Try.prog Try.f9 Rows.veilPadsRow.domain false) (Rows.veilPadsSpec.post enc Try.prog Try.f9 false true false false) := by
  refine returnsInHanded_of_change (C := Try.checked) own started (by kernel_rfl) Try.func9
    (ChangeSpec.witness6 (enc := enc) (C := Try.checked) false ⟨#[], #[.agg #[.int .i64 0, .int .i64 0, .int .u16 0], .int .u16 0, .int .u16 0, .int .u16 0], []⟩ 8 (by kernel_rfl) (by kernel_rfl) (by kernel_rfl) (by kernel_rfl)) ?_
  intro W base args ds gs before hval0 hW hcnd _
  have hval : ∀ (j : Nat) t v, Try.f9.params[j]? = some t → args[j]? = some v → Value.okWide Try.prog W .any base t v := hval0
  have hW' := hW
  obtain ⟨p, q, hA0, hV, rfl, hfz, hnd⟩ := hW
  have hA : DataW.TrodAll enc Try.prog W 0 (fun _ => true) true Try.f9.params.toList args.toList ds p := hA0
  rw [Try.params9] at hA hval
  obtain ⟨v0, vs0, d0, ds0, p0, q0, hargs, rfl, rfl, h0, r0⟩ := trodAll_cons hA
  obtain ⟨v1, vs1, d1, ds1, p1, q1, rfl, rfl, rfl, h1, r1⟩ := trodAll_cons r0
  obtain ⟨v2, vs2, d2, ds2, p2, q2, rfl, rfl, rfl, h2, r2⟩ := trodAll_cons r1
  obtain ⟨v3, vs3, d3, ds3, p3, q3, rfl, rfl, rfl, h3, r3⟩ := trodAll_cons r2
  obtain ⟨rfl, rfl, rfl⟩ := trodAll_nil r3
  obtain rfl : args = #[v0, v1, v2, v3] := by cases args; simp_all
  obtain ⟨rfl, rfl⟩ := trodVars_none hV
  have k0 := h0
  have lt0 : ∀ x ∈ p0, x.block < W.heap.size := by obtain ⟨m, hm⟩ := k0; exact DataW.trod_lt m _ _ _ hm
  obtain ⟨ns0, hl0, hv0, wf0⟩ := open_nums (ks := [.i64, .i64, .u16]) Try.underlying55 (by kernel_rfl) (by kernel_rfl) (kindsOf_of (by kernel_rfl)) (hval 0 55 v0 rfl rfl) h0
  have k1 := h1
  have lt1 : ∀ x ∈ p1, x.block < W.heap.size := by obtain ⟨m, hm⟩ := k1; exact DataW.trod_lt m _ _ _ hm
  obtain ⟨a1, rfl, _, _, w1⟩ := open_int Try.underlying27 (hval 1 27 v1 rfl rfl) h1
  have k2 := h2
  have lt2 : ∀ x ∈ p2, x.block < W.heap.size := by obtain ⟨m, hm⟩ := k2; exact DataW.trod_lt m _ _ _ hm
  obtain ⟨a2, rfl, _, _, w2⟩ := open_int Try.underlying27 (hval 2 27 v2 rfl rfl) h2
  have k3 := h3
  have lt3 : ∀ x ∈ p3, x.block < W.heap.size := by obtain ⟨m, hm⟩ := k3; exact DataW.trod_lt m _ _ _ hm
  obtain ⟨a3, rfl, _, _, w3⟩ := open_int Try.underlying27 (hval 3 27 v3 rfl rfl) h3
  clear hA0 hval0
  obtain ⟨ky0, hky0⟩ := key_of hl0 wf0
  rw [hky0] at hv0
  subst hv0
  have e1 := uv_of w1
  generalize BitVec.ofNat 16 a1.toNat = x1 at e1
  subst e1
  have e2 := uv_of w2
  generalize BitVec.ofNat 16 a2.toNat = x2 at e2
  subst e2
  have e3 := uv_of w3
  generalize BitVec.ofNat 16 a3.toNat = x3 at e3
  subst e3
  refine (veilPads_walk ky0 x1 x2 x3 W).mono fun e W' ⟨he, bel⟩ => ?_
  subst he
  exact ⟨_, rfl, _, _, _, [], _, [], hW', trodAll_mk1 (shut_bool Try.underlying4 _), (trodAll_cons_mk (Below.trod laidOut (by kernel_rfl) (of_decide_eq_true (by kernel_rfl)) k0 bel lt0) (trodAll_cons_mk (Below.trod laidOut (by kernel_rfl) (of_decide_eq_true (by kernel_rfl)) k1 bel lt1) (trodAll_cons_mk (Below.trod laidOut (by kernel_rfl) (of_decide_eq_true (by kernel_rfl)) k2 bel lt2) (trodAll_cons_mk (Below.trod laidOut (by kernel_rfl) (of_decide_eq_true (by kernel_rfl)) k3 bel lt3) trodAll_mk0)))), rfl, Below.frame bel _, fun h => by cases h⟩

theorem veilPads_holds : Rows.VeilPadsSaid :=
  OpenClaim.holds_of_wide 9 Try.f9 rfl rfl rfl rfl rfl rfl rfl ⟨rfl, rfl, rfl, rfl, rfl⟩ rfl rfl rfl rfl rfl (by kernel_rfl) Try.func9 (by kernel_rfl)
    (of_decide_eq_true (by kernel_rfl)) (by unfold Func.isWrapper; first | (rw [if_pos (by decide +kernel)]; kernel_rfl) | (rw [if_neg (by decide +kernel)]; exact ⟨rfl, rfl⟩))
    (fun os started H enc _ => veilPads_lifted os started H enc)
end Go.Proofs.Ytfdcapblgdlkaaa
