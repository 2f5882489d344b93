/- Proved: for all keys k and words v, w, the call of whorllaw06.VeilDistance returns true and leaves its arguments as they were. No conditions. -/
import Derived.Test.YtfdcapblgdlkaaaAlive
import Derived.Test.YtfdcapblgdlkaaaFar
import Derived.Test.YtfdcapblgdlkaaaArgs
namespace Go.Proofs.Ytfdcapblgdlkaaa
open Go.Joins Go.ChangeShapes Go.WideShapes Go.RowKit Go.Deep Go.ChangeAt

set_option maxRecDepth 100000 in
set_option maxHeartbeats 4000000 in
theorem veilDistance_walk (a : K) (x y : BitVec 16) (w : World) : Calls Try.prog 7 #[a.val, .int .u16 (uv x), .int .u16 (uv y)] w fun e w' => e = .returned (.bool true) ∧ Ext w w' := by
  cases ka : okK a
  · have CO := Lib.hid (fun w => Order_bad a ka w)
    have C1 := fun w => Hide_any a x w
    have C2 := fun w => Hide_any a y w
    rw [ask_false ka] at C1 C2
    have C1 := Lib.hid C1
    have C2 := Lib.hid C2
    clear ka
    generalize hideX a x = hx at *
    generalize hideX a y = hy at *
    go_enter Try.func7, Try.ntmps7
    go_wp2_with fail
    refine Calls.ext (alive_any _) fun z0 => ?_
    have HA := Lib.hid ((Blk.new w 55 #[.int .i64 a.bits, .int .i64 a.perm, .int .u16 (uv a.pad)]).ext z0)
    have HE := Lib.hid (((Ext.refl w).alloc (.cells #[.int .i64 a.bits, .int .i64 a.perm, .int .u16 (uv a.pad)] 55)).ext z0)
    generalize ext (w.alloc (.cells #[.int .i64 a.bits, .int .i64 a.perm, .int .u16 (uv a.pad)] 55)) z0 = V0 at *
    have c0 : V0.cell? ⟨w.heap.size, 0, none⟩ = some (.int .i64 a.bits) := HA.out.cell 0
    have c1 : V0.cell? ⟨w.heap.size, 1, none⟩ = some (.int .i64 a.perm) := HA.out.cell 1
    have c2 : V0.cell? ⟨w.heap.size, 2, none⟩ = some (.int .u16 (uv a.pad)) := HA.out.cell 2
    have oa := Old.mk HA.out.lt
    go_wp2_with fail
    refine Calls.ext (CO.out _) fun z1 => ?_
    go_wp2_with fail
    refine Calls.ext (C1.out _) fun z2 => ?_
    go_wp2_with fail
    refine Calls.ext (C2.out _) fun z3 => ?_
    go_wp2_with fail
    go_ret
    exact ⟨rfl, ((HE.out.ext z1).ext z2).ext z3⟩
  have ka' := ka
  obtain ⟨n, q, pad, rfl, hn, hq, hf⟩ := ok_split ka
  have hnn : (K.mk n q pad).n = n := rfl
  have C1 := fun w => Hide_any ⟨n, q, pad⟩ x w
  have C2 := fun w => Hide_any ⟨n, q, pad⟩ y w
  have CO := Lib.hid (fun w => Order_ok n q pad hn hq ka w)
  cases h1 : fitB n x
  · rw [ask_nofit ka (hnn ▸ h1)] at C1
    obtain ⟨v, hv⟩ : ∃ v, v = askV ⟨n, q, pad⟩ y := ⟨_, rfl⟩
    rw [← hv] at C2
    have C1 := Lib.hid C1
    have C2 := Lib.hid C2
    clear h1 hv ka ka' hf hq hnn hn
    generalize hideX ⟨n, q, pad⟩ x = hx at *
    generalize hideX ⟨n, q, pad⟩ y = hy at *
    go_enter Try.func7, Try.ntmps7
    go_wp2_with fail
    refine Calls.ext (alive_any _) fun z0 => ?_
    have HA := Lib.hid ((Blk.new w 55 #[.int .i64 (n : Int), .int .i64 (q : Int), .int .u16 (uv pad)]).ext z0)
    have HE := Lib.hid (((Ext.refl w).alloc (.cells #[.int .i64 (n : Int), .int .i64 (q : Int), .int .u16 (uv pad)] 55)).ext z0)
    generalize ext (w.alloc (.cells #[.int .i64 (n : Int), .int .i64 (q : Int), .int .u16 (uv pad)] 55)) z0 = V0 at *
    have c0 : V0.cell? ⟨w.heap.size, 0, none⟩ = some (.int .i64 (n : Int)) := HA.out.cell 0
    have c1 : V0.cell? ⟨w.heap.size, 1, none⟩ = some (.int .i64 (q : Int)) := HA.out.cell 1
    have c2 : V0.cell? ⟨w.heap.size, 2, none⟩ = some (.int .u16 (uv pad)) := HA.out.cell 2
    have oa := Old.mk HA.out.lt
    go_wp2_with fail
    refine (CO.out _).mono ?_
    rintro e w' ⟨g, c, rfl, hL, hE⟩
    obtain ⟨z1, rfl⟩ := ext_ex hE
    clear hE
    have HL := Lib.hid hL
    have HA1 := Lib.hid (HA.out.ext z1)
    have HE1 := Lib.hid (HE.out.ext z1)
    clear hL c0 c1 c2 oa HA HE
    generalize ext V0 z1 = V1 at *
    have c0 : V1.cell? ⟨w.heap.size, 0, none⟩ = some (.int .i64 (n : Int)) := HA1.out.cell 0
    have c1 : V1.cell? ⟨w.heap.size, 1, none⟩ = some (.int .i64 (q : Int)) := HA1.out.cell 1
    have c2 : V1.cell? ⟨w.heap.size, 2, none⟩ = some (.int .u16 (uv pad)) := HA1.out.cell 2
    have oa := Old.mk HA1.out.lt
    go_wp2_with fail
    refine Calls.ext (C1.out _) fun z2 => ?_
    go_wp2_with fail
    refine Calls.ext (C2.out _) fun z3 => ?_
    go_wp2_with fail
    go_ret
    exact ⟨rfl, (HE1.out.ext z2).ext z3⟩
  have fx := hide_law ka (hnn ▸ h1)
  rw [fx.1] at C1
  cases h2 : fitB n y
  · rw [ask_nofit ka (hnn ▸ h2)] at C2
    have C1 := Lib.hid C1
    have C2 := Lib.hid C2
    clear h1 h2 fx ka ka' hf hq hnn hn
    generalize hideX ⟨n, q, pad⟩ x = hx at *
    generalize hideX ⟨n, q, pad⟩ y = hy at *
    go_enter Try.func7, Try.ntmps7
    go_wp2_with fail
    refine Calls.ext (alive_any _) fun z0 => ?_
    have HA := Lib.hid ((Blk.new w 55 #[.int .i64 (n : Int), .int .i64 (q : Int), .int .u16 (uv pad)]).ext z0)
    have HE := Lib.hid (((Ext.refl w).alloc (.cells #[.int .i64 (n : Int), .int .i64 (q : Int), .int .u16 (uv pad)] 55)).ext z0)
    generalize ext (w.alloc (.cells #[.int .i64 (n : Int), .int .i64 (q : Int), .int .u16 (uv pad)] 55)) z0 = V0 at *
    have c0 : V0.cell? ⟨w.heap.size, 0, none⟩ = some (.int .i64 (n : Int)) := HA.out.cell 0
    have c1 : V0.cell? ⟨w.heap.size, 1, none⟩ = some (.int .i64 (q : Int)) := HA.out.cell 1
    have c2 : V0.cell? ⟨w.heap.size, 2, none⟩ = some (.int .u16 (uv pad)) := HA.out.cell 2
    have oa := Old.mk HA.out.lt
    go_wp2_with fail
    refine (CO.out _).mono ?_
    rintro e w' ⟨g, c, rfl, hL, hE⟩
    obtain ⟨z1, rfl⟩ := ext_ex hE
    clear hE
    have HL := Lib.hid hL
    have HA1 := Lib.hid (HA.out.ext z1)
    have HE1 := Lib.hid (HE.out.ext z1)
    clear hL c0 c1 c2 oa HA HE
    generalize ext V0 z1 = V1 at *
    have c0 : V1.cell? ⟨w.heap.size, 0, none⟩ = some (.int .i64 (n : Int)) := HA1.out.cell 0
    have c1 : V1.cell? ⟨w.heap.size, 1, none⟩ = some (.int .i64 (q : Int)) := HA1.out.cell 1
    have c2 : V1.cell? ⟨w.heap.size, 2, none⟩ = some (.int .u16 (uv pad)) := HA1.out.cell 2
    have oa := Old.mk HA1.out.lt
    go_wp2_with fail
    refine Calls.ext (C1.out _) fun z2 => ?_
    go_wp2_with fail
    refine Calls.ext (C2.out _) fun z3 => ?_
    go_wp2_with fail
    go_ret
    exact ⟨rfl, (HE1.out.ext z2).ext z3⟩
  have fy := hide_law ka (hnn ▸ h2)
  rw [fy.1] at C2
  have L1 := far_hide ka (hnn ▸ h1) (hnn ▸ h2)
  have L2 := hide_inj ka (hnn ▸ h1) (hnn ▸ h2)
  have G1 := fun w => Far_any (hideX ⟨n, q, pad⟩ x) (hideX ⟨n, q, pad⟩ y) w
  have G2 := Lib.hid (fun w => Far_any x y w)
  rw [L1] at G1
  have fx3 : fitB n (hideX ⟨n, q, pad⟩ x) = true := fx.2.2
  have G3 := Lib.hid (fun w => fx3 ▸ fits_any n (by omega) (hideX ⟨n, q, pad⟩ x) w)
  have G1 := Lib.hid G1
  have C1 := Lib.hid C1
  have C2 := Lib.hid C2
  have hP := ordN_perm hq
  have hl := ordN_len n q
  have HC := Lib.hid (fun k hk => once hP k hk)
  have HT := Lib.hid (fun k m hm => count_take (ordN n q) k m hm)
  clear hP L1 fx fy fx3 h1 h2 ka ka' hf hq hnn
  generalize hideX ⟨n, q, pad⟩ x = hx at *
  generalize hideX ⟨n, q, pad⟩ y = hy at *
  generalize ordN n q = l at *
  generalize far16 x y = far at *
  have hn2 : (n : Int) ≤ 15 := by omega
  have hne : ((n : Int) == (n : Int)) = true := by simp
  go_enter Try.func7, Try.ntmps7
  go_wp2_with fail
  refine Calls.ext (alive_any _) fun z0 => ?_
  have HA := Lib.hid ((Blk.new w 55 #[.int .i64 (n : Int), .int .i64 (q : Int), .int .u16 (uv pad)]).ext z0)
  have HE := Lib.hid (((Ext.refl w).alloc (.cells #[.int .i64 (n : Int), .int .i64 (q : Int), .int .u16 (uv pad)] 55)).ext z0)
  generalize ext (w.alloc (.cells #[.int .i64 (n : Int), .int .i64 (q : Int), .int .u16 (uv pad)] 55)) z0 = V0 at *
  have c0 : V0.cell? ⟨w.heap.size, 0, none⟩ = some (.int .i64 (n : Int)) := HA.out.cell 0
  have c1 : V0.cell? ⟨w.heap.size, 1, none⟩ = some (.int .i64 (q : Int)) := HA.out.cell 1
  have c2 : V0.cell? ⟨w.heap.size, 2, none⟩ = some (.int .u16 (uv pad)) := HA.out.cell 2
  have oa := Old.mk HA.out.lt
  go_wp2_with fail
  refine (CO.out _).mono ?_
  rintro e w' ⟨g, c, rfl, hL, hE⟩
  obtain ⟨z1, rfl⟩ := ext_ex hE
  clear hE
  have HL := Lib.hid hL
  have HA1 := Lib.hid (HA.out.ext z1)
  have HE1 := Lib.hid (HE.out.ext z1)
  clear hL c0 c1 c2 oa HA HE
  generalize ext V0 z1 = V1 at *
  have c0 : V1.cell? ⟨w.heap.size, 0, none⟩ = some (.int .i64 (n : Int)) := HA1.out.cell 0
  have c1 : V1.cell? ⟨w.heap.size, 1, none⟩ = some (.int .i64 (q : Int)) := HA1.out.cell 1
  have c2 : V1.cell? ⟨w.heap.size, 2, none⟩ = some (.int .u16 (uv pad)) := HA1.out.cell 2
  have oa := Old.mk HA1.out.lt
  go_wp2_with fail
  refine Calls.ext (C1.out _) fun z2 => ?_
  go_wp2_with fail
  refine Calls.ext (C2.out _) fun z3 => ?_
  go_wp2_with fail
  have HLW := Lib.hid ((HL.out.grow (Ext.ext_self _ z2)).grow (Ext.ext_self _ z3))
  have HEW := Lib.hid ((HE1.out.ext z2).ext z3)
  have HAW := Lib.hid ((HA1.out.ext z2).ext z3)
  clear c0 c1 c2 oa
  generalize ext (ext V1 z2) z3 = W at *
  go_loopw [14, 15, 17, 54, 59] (fun _ _ _ i _ wr => ∃ k : Nat, k ≤ n ∧ i = .int .i64 k ∧ wr = W) (fun _ _ _ i _ _ => n - (intOf i).toNat)
  case atStart => exact ⟨0, by omega, rfl, rfl⟩
  case round =>
    obtain ⟨k, hk, rfl, rfl⟩ := hrel
    by_cases hkn : k < n
    · have hk2 : (k : Int) < n := by omega
      go_wp2_with fail
      go_loopw [15, 17, 59] (fun s _ j wr2 => ∃ m : Nat, m ≤ n ∧ j = .int .i64 m ∧ s = .int .i64 (((l.take m).count k : Nat) : Int) ∧ wr2 = wr) (fun _ _ j _ => n - (intOf j).toNat)
      case atStart => exact ⟨0, by omega, rfl, by simp, rfl⟩
      case round =>
        obtain ⟨m, hm, rfl, rfl, rfl⟩ := hrel
        have hcl : (l.take m).count k ≤ m := by have := List.count_le_length (a := k) (l := l.take m); simp at this; omega
        by_cases hmn : m < n
        · have hm2 : (m : Int) < n := by omega
          have cl := lst_int HLW.out m (by omega)
          have hT := Lib.hid (HT.out k m (by omega))
          have hlt : (((l.take m).count k : Nat) : Int) ≤ 15 := by omega
          generalize (l.take m).count k = cnt at *
          generalize l.getD m 0 = v at *
          by_cases hv : v = k
          · have hT2 := Lib.hid (hT.out.trans (by rw [if_pos hv]))
            subst hv
            have e1 : ((v : Int) == (v : Int)) = true := by simp
            clear hT hk hkn hk2 hcl
            go_wp2_with fail
            refine ⟨⟨m + 1, by omega, by go_num, by rw [hT2.out]; go_num, ?_⟩, by simp [intOf]; omega⟩
            first | rfl | trivial
          · have hT2 := Lib.hid (hT.out.trans (by rw [if_neg hv]))
            have e1 : decide (v = k) = false := by simpa using hv
            have e2 : ((v : Int) == (k : Int)) = false := by simp; omega
            have e3 : decide ((v : Int) = (k : Int)) = false := by simp; omega
            clear hT hk hkn hk2 hcl
            go_wp2_with fail
            refine ⟨⟨m + 1, by omega, by go_num, by rw [hT2.out]; rfl, ?_⟩, by simp [intOf]; omega⟩
            first | rfl | trivial
        · obtain rfl : m = n := by omega
          have h1 : (l.take m).count k = 1 := by rw [List.take_of_length_le (by omega)]; exact HC.out k hkn
          rw [h1]
          go_wp2_with fail
          refine ⟨⟨k + 1, by omega, by go_num, ?_⟩, by simp [intOf]; omega⟩
          first | rfl | trivial
    · obtain rfl : k = n := by omega
      have c0 : wr.cell? ⟨w.heap.size, 0, none⟩ = some (.int .i64 (k : Int)) := HAW.out.cell 0
      cases hb : (x == y)
      all_goals
        rw [hb] at L2
        go_wp2_with fail
        refine Calls.same (G1.out _) ?_
        go_wp2_with fail
        refine Calls.same (G2.out _) ?_
        go_wp2_with fail
        refine Calls.same (G3.out _) ?_
        go_wp2_with fail
        go_ret
        exact ⟨rfl, HEW.out⟩
set_option maxRecDepth 100000 in
theorem veilDistance_lifted (os : Os) (started : os.Started) (H : Type) (enc : TypeId × Value → H) :
    ReturnsInHanded {} Try.checked os 7 .any (Rows.veilDistanceSpec.pre6 enc Try.prog Try.f7 Rows.veilDistanceRow.domain false) (Rows.veilDistanceSpec.post enc Try.prog Try.f7 false true false false) := by
  refine returnsInHanded_of_change (C := Try.checked) own started (by kernel_rfl) Try.func7
    (ChangeSpec.witness6 (enc := enc) (C := Try.checked) false ⟨#[], #[.agg #[.int .i64 0, .int .i64 0, .int .u16 0], .int .u16 0, .int .u16 0], []⟩ 8 (by kernel_rfl) (by kernel_rfl) (by kernel_rfl) (by kernel_rfl)) ?_
  intro W base args ds gs before hval0 hW hcnd _
  have hval : ∀ (j : Nat) t v, Try.f7.params[j]? = some t → args[j]? = some v → Value.okWide Try.prog W .any base t v := hval0
  have hW' := hW
  obtain ⟨p, q, hA0, hV, rfl, hfz, hnd⟩ := hW
  have hA : DataW.TrodAll enc Try.prog W 0 (fun _ => true) true Try.f7.params.toList args.toList ds p := hA0
  rw [Try.params7] at hA hval
  obtain ⟨v0, vs0, d0, ds0, p0, q0, hargs, rfl, rfl, h0, r0⟩ := trodAll_cons hA
  obtain ⟨v1, vs1, d1, ds1, p1, q1, rfl, rfl, rfl, h1, r1⟩ := trodAll_cons r0
  obtain ⟨v2, vs2, d2, ds2, p2, q2, rfl, rfl, rfl, h2, r2⟩ := trodAll_cons r1
  obtain ⟨rfl, rfl, rfl⟩ := trodAll_nil r2
  obtain rfl : args = #[v0, v1, v2] := by cases args; simp_all
  obtain ⟨rfl, rfl⟩ := trodVars_none hV
  have k0 := h0
  have lt0 : ∀ x ∈ p0, x.block < W.heap.size := by obtain ⟨m, hm⟩ := k0; exact DataW.trod_lt m _ _ _ hm
  obtain ⟨ns0, hl0, hv0, wf0⟩ := open_nums (ks := [.i64, .i64, .u16]) Try.underlying55 (by kernel_rfl) (by kernel_rfl) (kindsOf_of (by kernel_rfl)) (hval 0 55 v0 rfl rfl) h0
  have k1 := h1
  have lt1 : ∀ x ∈ p1, x.block < W.heap.size := by obtain ⟨m, hm⟩ := k1; exact DataW.trod_lt m _ _ _ hm
  obtain ⟨a1, rfl, _, _, w1⟩ := open_int Try.underlying27 (hval 1 27 v1 rfl rfl) h1
  have k2 := h2
  have lt2 : ∀ x ∈ p2, x.block < W.heap.size := by obtain ⟨m, hm⟩ := k2; exact DataW.trod_lt m _ _ _ hm
  obtain ⟨a2, rfl, _, _, w2⟩ := open_int Try.underlying27 (hval 2 27 v2 rfl rfl) h2
  clear hA0 hval0
  obtain ⟨ky0, hky0⟩ := key_of hl0 wf0
  rw [hky0] at hv0
  subst hv0
  have e1 := uv_of w1
  generalize BitVec.ofNat 16 a1.toNat = x1 at e1
  subst e1
  have e2 := uv_of w2
  generalize BitVec.ofNat 16 a2.toNat = x2 at e2
  subst e2
  refine (veilDistance_walk ky0 x1 x2 W).mono fun e W' ⟨he, bel⟩ => ?_
  subst he
  exact ⟨_, rfl, _, _, _, [], _, [], hW', trodAll_mk1 (shut_bool Try.underlying4 _), (trodAll_cons_mk (Below.trod laidOut (by kernel_rfl) (of_decide_eq_true (by kernel_rfl)) k0 bel lt0) (trodAll_cons_mk (Below.trod laidOut (by kernel_rfl) (of_decide_eq_true (by kernel_rfl)) k1 bel lt1) (trodAll_cons_mk (Below.trod laidOut (by kernel_rfl) (of_decide_eq_true (by kernel_rfl)) k2 bel lt2) trodAll_mk0))), rfl, Below.frame bel _, fun h => by cases h⟩

theorem veilDistance_holds : Rows.VeilDistanceSaid :=
  OpenClaim.holds_of_wide 7 Try.f7 rfl rfl rfl rfl rfl rfl rfl ⟨rfl, rfl, rfl, rfl, rfl⟩ rfl rfl rfl rfl rfl (by kernel_rfl) Try.func7 (by kernel_rfl)
    (of_decide_eq_true (by kernel_rfl)) (by unfold Func.isWrapper; first | (rw [if_pos (by decide +kernel)]; kernel_rfl) | (rw [if_neg (by decide +kernel)]; exact ⟨rfl, rfl⟩))
    (fun os started H enc _ => veilDistance_lifted os started H enc)
end Go.Proofs.Ytfdcapblgdlkaaa
