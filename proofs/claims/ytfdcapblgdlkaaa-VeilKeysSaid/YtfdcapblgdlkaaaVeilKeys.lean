/- Proved: for all keys a, b and words w, the call of whorllaw06.VeilKeys returns true and leaves its arguments as they were. No conditions. -/
import Derived.Test.YtfdcapblgdlkaaaSame
import Derived.Test.YtfdcapblgdlkaaaArgs
namespace Go.Proofs.Ytfdcapblgdlkaaa
open Go.Joins Go.ChangeShapes Go.WideShapes Go.RowKit Go.Deep Go.ChangeAt

theorem orders_eq (k : K) (w : World) : ∃ l : List Nat, l.length ≤ 15 ∧
    (Calls Try.prog 27 #[k.val] w fun e w' => ∃ A c, e = .returned (.tuple #[.slice A l.length c, .int .i64 (chkK k)]) ∧ LstA w' A c l ∧ Ext w w') ∧
    (∀ w2, Calls Try.prog 28 #[k.val] w2 fun e w' => ∃ A c, e = .returned (.tuple #[.slice A l.length c, .int .i64 (chkK k)]) ∧ LstA w' A c l ∧ Ext w2 w') := by
  cases hk : okK k
  · refine ⟨[], by simp, (Order_bad k hk w).mono ?_, fun w2 => (refOrder_bad k hk w2).mono ?_⟩
    · rintro e w' ⟨he, hw⟩
      exact ⟨none, 0, by rw [chk_false hk]; exact he, fun h => absurd h (by simp), hw⟩
    · rintro e w' ⟨he, hw⟩
      exact ⟨none, 0, by rw [chk_false hk]; exact he, fun h => absurd h (by simp), hw⟩
  · have hk' := hk
    obtain ⟨n, p, pad, rfl, hn, hp, hf⟩ := ok_split hk
    refine ⟨ordN n p, by rw [ordN_len]; exact hn.2, (Order_ok n p pad hn hp hk' w).mono ?_, fun w2 => (refOrder_ok n p pad hn hp hk' w2).mono ?_⟩
    · rintro e w' ⟨g, c, he, hL, hw⟩
      exact ⟨_, c, by rw [chk_true hk', ordN_len]; exact he, fun _ => ⟨g, rfl, hL⟩, hw⟩
    · rintro e w' ⟨g, c, he, hL, hw⟩
      exact ⟨_, c, by rw [chk_true hk', ordN_len]; exact he, fun _ => ⟨g, rfl, hL⟩, hw⟩
set_option maxRecDepth 100000 in
set_option maxHeartbeats 4000000 in
theorem veilKeys_walk (a b : K) (x : BitVec 16) (w : World) : Calls Try.prog 6 #[a.val, b.val, .int .u16 (uv x)] w fun e w' => e = .returned (.bool true) ∧ Ext w w' := by
  have HX := Lib.hid (fun w => orders_eq a w)
  have C3 := Lib.hid (fun w => check_any a w)
  have C4 := Lib.hid (fun w => refCheck_any a w)
  have C5 := Lib.hid (fun w => Hide_any a x w)
  have C6 := Lib.hid (fun w => refHide_any a x w)
  have C7 := Lib.hid (fun w => Show_any a x w)
  have C8 := Lib.hid (fun w => refShow_any a x w)
  have C9 := Lib.hid (fun w => Compose_any a b w)
  have C10 := Lib.hid (fun w => refCompose_any a b w)
  have C11 := Lib.hid (fun w => Invert_any a w)
  have C12 := Lib.hid (fun w => refInvert_any a w)
  have C13 := Lib.hid (fun w => Renew_any a b w)
  have C14 := Lib.hid (fun w => refRenew_any a b w)
  generalize hideX a x = y1 at *
  generalize showX a x = y2 at *
  generalize compX a b = k1 at *
  generalize invX a = k2 at *
  generalize renX a b = k3 at *
  generalize askV a x = v1 at *
  generalize bothV a b = v2 at *
  generalize chkK a = v3 at *
  go_enter Try.func6, Try.ntmps6
  go_wp2_with fail
  obtain ⟨l, hl, O1, O2⟩ := HX.out ((w.alloc (.cells #[.int .i64 a.bits, .int .i64 a.perm, .int .u16 (uv a.pad)] 55)).alloc (.cells #[.int .i64 b.bits, .int .i64 b.perm, .int .u16 (uv b.pad)] 55))
  refine O1.mono ?_
  rintro e w' ⟨A1, c1, rfl, hL1, hE⟩
  obtain ⟨z1, rfl⟩ := ext_ex hE
  clear hE
  have O2 := Lib.hid O2
  go_wp2_with fail
  refine (O2.out _).mono ?_
  rintro e w' ⟨A2, c2, rfl, hL2, hE⟩
  obtain ⟨z2, rfl⟩ := ext_ex hE
  clear hE
  have HL1 := Lib.hid (hL1.grow (Ext.ext_self _ z2))
  have HL2 := Lib.hid hL2
  clear hL1 hL2
  go_wp2_with fail
  have HB := Lib.hid ((((Blk.new w 55 #[.int .i64 a.bits, .int .i64 a.perm, .int .u16 (uv a.pad)]).alloc (.cells #[.int .i64 b.bits, .int .i64 b.perm, .int .u16 (uv b.pad)] 55)).ext z1).ext z2)
  have HC := Lib.hid (((Blk.new' (w.alloc (.cells #[.int .i64 a.bits, .int .i64 a.perm, .int .u16 (uv a.pad)] 55)) 55 #[.int .i64 b.bits, .int .i64 b.perm, .int .u16 (uv b.pad)] (w.heap.size + 1) (by simp)).ext z1).ext z2)
  have HE := Lib.hid (((((Ext.refl w).alloc (.cells #[.int .i64 a.bits, .int .i64 a.perm, .int .u16 (uv a.pad)] 55)).alloc (.cells #[.int .i64 b.bits, .int .i64 b.perm, .int .u16 (uv b.pad)] 55)).ext z1).ext z2)
  generalize ext (ext ((w.alloc (.cells #[.int .i64 a.bits, .int .i64 a.perm, .int .u16 (uv a.pad)] 55)).alloc (.cells #[.int .i64 b.bits, .int .i64 b.perm, .int .u16 (uv b.pad)] 55)) z1) z2 = V at *
  have a0 : V.cell? ⟨w.heap.size, 0, none⟩ = some (.int .i64 a.bits) := HB.out.cell 0
  have a1 : V.cell? ⟨w.heap.size, 1, none⟩ = some (.int .i64 a.perm) := HB.out.cell 1
  have a2 : V.cell? ⟨w.heap.size, 2, none⟩ = some (.int .u16 (uv a.pad)) := HB.out.cell 2
  have b0 : V.cell? ⟨w.heap.size + 1, 0, none⟩ = some (.int .i64 b.bits) := HC.out.cell 0
  have b1 : V.cell? ⟨w.heap.size + 1, 1, none⟩ = some (.int .i64 b.perm) := HC.out.cell 1
  have b2 : V.cell? ⟨w.heap.size + 1, 2, none⟩ = some (.int .u16 (uv b.pad)) := HC.out.cell 2
  have oa := Old.mk HB.out.lt
  have ob := Old.mk HC.out.lt
  have C2 := Lib.hid (show ∀ z, Calls Try.prog 29 #[.slice A1 l.length c1, .slice A2 l.length c2] (ext V z) fun e w' => e = .returned (.bool true) ∧ Ext (ext V z) w' from fun z => by
    have := same_any l l (by omega) A1 A2 c1 c2 (ext V z) (HL1.out.grow (Ext.ext_self _ z)) (HL2.out.grow (Ext.ext_self _ z))
    simpa using this)
  clear HL1 HL2 HX O1 O2
  refine wp_region_ext (by kernel_rfl) (by kernel_rfl) ?_
  repeat (go_big_quiet_step (first | (go_at_call 29; exact Calls.quiet_ext (C2.out _)) | (go_at_call 30; exact Calls.quiet_ext (C3.out _)) | (go_at_call 31; exact Calls.quiet_ext (C4.out _))))
  refine wpQuiet_nil ?_
  rintro _ ⟨z3, rfl⟩
  go_wp2_with (first | (go_at_call 32; refine Calls.ext (C5.out _) fun z5 => ?_) | (go_at_call 33; refine Calls.ext (C6.out _) fun z6 => ?_) | (go_at_call 34; refine Calls.ext (C7.out _) fun z7 => ?_) | (go_at_call 35; refine Calls.ext (C8.out _) fun z8 => ?_) | (go_at_call 36; refine Calls.ext (C9.out _) fun z9 => ?_) | (go_at_call 37; refine Calls.ext (C10.out _) fun z10 => ?_))
  have Ha1 := Lib.hid ((((((((((HB.out.ext z3).ext z5).ext z6).ext z7).ext z8).ext z9).alloc (.cells #[.int .i64 k1.bits, .int .i64 k1.perm, .int .u16 (uv k1.pad)] 55)).ext z10).alloc (.cells #[.int .i64 k1.bits, .int .i64 k1.perm, .int .u16 (uv k1.pad)] 55)))
  have Hb1 := Lib.hid ((((((((((HC.out.ext z3).ext z5).ext z6).ext z7).ext z8).ext z9).alloc (.cells #[.int .i64 k1.bits, .int .i64 k1.perm, .int .u16 (uv k1.pad)] 55)).ext z10).alloc (.cells #[.int .i64 k1.bits, .int .i64 k1.perm, .int .u16 (uv k1.pad)] 55)))
  have HE1 := Lib.hid ((((((((((HE.out.ext z3).ext z5).ext z6).ext z7).ext z8).ext z9).alloc (.cells #[.int .i64 k1.bits, .int .i64 k1.perm, .int .u16 (uv k1.pad)] 55)).ext z10).alloc (.cells #[.int .i64 k1.bits, .int .i64 k1.perm, .int .u16 (uv k1.pad)] 55)))
  have Hp1 := Lib.hid ((((Blk.new (ext (ext (ext (ext (ext (ext V z3) z5) z6) z7) z8) z9) 55 #[.int .i64 k1.bits, .int .i64 k1.perm, .int .u16 (uv k1.pad)]).ext z10).alloc (.cells #[.int .i64 k1.bits, .int .i64 k1.perm, .int .u16 (uv k1.pad)] 55)))
  have Hq1 := Lib.hid (Blk.new (ext ((ext (ext (ext (ext (ext (ext V z3) z5) z6) z7) z8) z9).alloc (.cells #[.int .i64 k1.bits, .int .i64 k1.perm, .int .u16 (uv k1.pad)] 55)) z10) 55 #[.int .i64 k1.bits, .int .i64 k1.perm, .int .u16 (uv k1.pad)])
  have hg1 : w.heap.size + 1 < (ext (ext (ext (ext (ext (ext V z3) z5) z6) z7) z8) z9).heap.size := ((((((HC.out.ext z3).ext z5).ext z6).ext z7).ext z8).ext z9).lt
  have hg2 : (ext (ext (ext (ext (ext (ext V z3) z5) z6) z7) z8) z9).heap.size < (ext ((ext (ext (ext (ext (ext (ext V z3) z5) z6) z7) z8) z9).alloc (.cells #[.int .i64 k1.bits, .int .i64 k1.perm, .int .u16 (uv k1.pad)] 55)) z10).heap.size := ((Blk.new (ext (ext (ext (ext (ext (ext V z3) z5) z6) z7) z8) z9) 55 #[.int .i64 k1.bits, .int .i64 k1.perm, .int .u16 (uv k1.pad)]).ext z10).lt
  generalize (ext ((ext (ext (ext (ext (ext (ext V z3) z5) z6) z7) z8) z9).alloc (.cells #[.int .i64 k1.bits, .int .i64 k1.perm, .int .u16 (uv k1.pad)] 55)) z10).alloc (.cells #[.int .i64 k1.bits, .int .i64 k1.perm, .int .u16 (uv k1.pad)] 55) = V1 at *
  generalize (ext ((ext (ext (ext (ext (ext (ext V z3) z5) z6) z7) z8) z9).alloc (.cells #[.int .i64 k1.bits, .int .i64 k1.perm, .int .u16 (uv k1.pad)] 55)) z10).heap.size = G14 at *
  generalize (ext (ext (ext (ext (ext (ext V z3) z5) z6) z7) z8) z9).heap.size = G13 at *
  clear a0 a1 a2 b0 b1 b2 oa ob
  have hd1 : G13 ≠ w.heap.size := by omega
  have hd2 : G13 ≠ w.heap.size + 1 := by omega
  have hd3 : G14 ≠ w.heap.size := by omega
  have hd4 : G14 ≠ w.heap.size + 1 := by omega
  have hd5 : G13 ≠ G14 := by omega
  have hle1 : w.heap.size ≤ G13 := by omega
  have hle2 : w.heap.size ≤ G14 := by omega
  have i1 : Nonempty (Diff G13 G14) := ⟨hd5⟩
  have i2 : Nonempty (Diff G14 G13) := ⟨fun e => hd5 e.symm⟩
  have i3 : Nonempty (Diff w.heap.size G13) := ⟨fun e => hd1 e.symm⟩
  have i4 : Nonempty (Diff w.heap.size G14) := ⟨fun e => hd3 e.symm⟩
  have i5 : Nonempty (Diff (w.heap.size + 1) G13) := ⟨fun e => hd2 e.symm⟩
  have i6 : Nonempty (Diff (w.heap.size + 1) G14) := ⟨fun e => hd4 e.symm⟩
  have a01 : V1.cell? ⟨w.heap.size, 0, none⟩ = some (.int .i64 a.bits) := Ha1.out.cell 0
  have a11 : V1.cell? ⟨w.heap.size, 1, none⟩ = some (.int .i64 a.perm) := Ha1.out.cell 1
  have a21 : V1.cell? ⟨w.heap.size, 2, none⟩ = some (.int .u16 (uv a.pad)) := Ha1.out.cell 2
  have af1 := Ha1.out.frozen
  have ao1 := Old.mk Ha1.out.lt
  have b01 : V1.cell? ⟨w.heap.size + 1, 0, none⟩ = some (.int .i64 b.bits) := Hb1.out.cell 0
  have b11 : V1.cell? ⟨w.heap.size + 1, 1, none⟩ = some (.int .i64 b.perm) := Hb1.out.cell 1
  have b21 : V1.cell? ⟨w.heap.size + 1, 2, none⟩ = some (.int .u16 (uv b.pad)) := Hb1.out.cell 2
  have bf1 := Hb1.out.frozen
  have bo1 := Old.mk Hb1.out.lt
  have p01 : V1.cell? ⟨G13, 0, none⟩ = some (.int .i64 k1.bits) := Hp1.out.cell 0
  have p11 : V1.cell? ⟨G13, 1, none⟩ = some (.int .i64 k1.perm) := Hp1.out.cell 1
  have p21 : V1.cell? ⟨G13, 2, none⟩ = some (.int .u16 (uv k1.pad)) := Hp1.out.cell 2
  have pf1 := Hp1.out.frozen
  have po1 := Old.mk Hp1.out.lt
  have q01 : V1.cell? ⟨G14, 0, none⟩ = some (.int .i64 k1.bits) := Hq1.out.cell 0
  have q11 : V1.cell? ⟨G14, 1, none⟩ = some (.int .i64 k1.perm) := Hq1.out.cell 1
  have q21 : V1.cell? ⟨G14, 2, none⟩ = some (.int .u16 (uv k1.pad)) := Hq1.out.cell 2
  have qf1 := Hq1.out.frozen
  have qo1 := Old.mk Hq1.out.lt
  refine Calls.ext (C11.out _) fun y1 => ?_
  go_wp2_with fail
  have Ha2 := Lib.hid ((((Ha1.out.ext y1).far (p := ⟨G13, 0, none⟩) (fun e => hd1 e.symm) (.int .i64 k2.bits)).far (p := ⟨G13, 1, none⟩) (fun e => hd1 e.symm) (.int .i64 k2.perm)).far (p := ⟨G13, 2, none⟩) (fun e => hd1 e.symm) (.int .u16 (uv k2.pad)))
  have Hb2 := Lib.hid ((((Hb1.out.ext y1).far (p := ⟨G13, 0, none⟩) (fun e => hd2 e.symm) (.int .i64 k2.bits)).far (p := ⟨G13, 1, none⟩) (fun e => hd2 e.symm) (.int .i64 k2.perm)).far (p := ⟨G13, 2, none⟩) (fun e => hd2 e.symm) (.int .u16 (uv k2.pad)))
  have Hp2 := Lib.hid (blk3 (x := .int .i64 k2.bits) (y := .int .i64 k2.perm) (z := .int .u16 (uv k2.pad)) (Hp1.out.ext y1))
  have Hq2 := Lib.hid ((((Hq1.out.ext y1).far (p := ⟨G13, 0, none⟩) (fun e => hd5 e.symm) (.int .i64 k2.bits)).far (p := ⟨G13, 1, none⟩) (fun e => hd5 e.symm) (.int .i64 k2.perm)).far (p := ⟨G13, 2, none⟩) (fun e => hd5 e.symm) (.int .u16 (uv k2.pad)))
  have HE2 := Lib.hid ((((HE1.out.ext y1).setCell (p := ⟨G13, 0, none⟩) hle1 (.int .i64 k2.bits)).setCell (p := ⟨G13, 1, none⟩) hle1 (.int .i64 k2.perm)).setCell (p := ⟨G13, 2, none⟩) hle1 (.int .u16 (uv k2.pad)))
  generalize (((ext V1 y1).setCell ⟨G13, 0, none⟩ (.int .i64 k2.bits)).setCell ⟨G13, 1, none⟩ (.int .i64 k2.perm)).setCell ⟨G13, 2, none⟩ (.int .u16 (uv k2.pad)) = V2 at *
  clear a01 a11 a21 af1 ao1 b01 b11 b21 bf1 bo1 p01 p11 p21 pf1 po1 q01 q11 q21 qf1 qo1
  have a02 : V2.cell? ⟨w.heap.size, 0, none⟩ = some (.int .i64 a.bits) := Ha2.out.cell 0
  have a12 : V2.cell? ⟨w.heap.size, 1, none⟩ = some (.int .i64 a.perm) := Ha2.out.cell 1
  have a22 : V2.cell? ⟨w.heap.size, 2, none⟩ = some (.int .u16 (uv a.pad)) := Ha2.out.cell 2
  have af2 := Ha2.out.frozen
  have ao2 := Old.mk Ha2.out.lt
  have b02 : V2.cell? ⟨w.heap.size + 1, 0, none⟩ = some (.int .i64 b.bits) := Hb2.out.cell 0
  have b12 : V2.cell? ⟨w.heap.size + 1, 1, none⟩ = some (.int .i64 b.perm) := Hb2.out.cell 1
  have b22 : V2.cell? ⟨w.heap.size + 1, 2, none⟩ = some (.int .u16 (uv b.pad)) := Hb2.out.cell 2
  have bf2 := Hb2.out.frozen
  have bo2 := Old.mk Hb2.out.lt
  have p02 : V2.cell? ⟨G13, 0, none⟩ = some (.int .i64 k2.bits) := Hp2.out.cell 0
  have p12 : V2.cell? ⟨G13, 1, none⟩ = some (.int .i64 k2.perm) := Hp2.out.cell 1
  have p22 : V2.cell? ⟨G13, 2, none⟩ = some (.int .u16 (uv k2.pad)) := Hp2.out.cell 2
  have pf2 := Hp2.out.frozen
  have po2 := Old.mk Hp2.out.lt
  have q02 : V2.cell? ⟨G14, 0, none⟩ = some (.int .i64 k1.bits) := Hq2.out.cell 0
  have q12 : V2.cell? ⟨G14, 1, none⟩ = some (.int .i64 k1.perm) := Hq2.out.cell 1
  have q22 : V2.cell? ⟨G14, 2, none⟩ = some (.int .u16 (uv k1.pad)) := Hq2.out.cell 2
  have qf2 := Hq2.out.frozen
  have qo2 := Old.mk Hq2.out.lt
  refine Calls.ext (C12.out _) fun y2 => ?_
  go_wp2_with fail
  have Ha3 := Lib.hid ((((Ha2.out.ext y2).far (p := ⟨G14, 0, none⟩) (fun e => hd3 e.symm) (.int .i64 k2.bits)).far (p := ⟨G14, 1, none⟩) (fun e => hd3 e.symm) (.int .i64 k2.perm)).far (p := ⟨G14, 2, none⟩) (fun e => hd3 e.symm) (.int .u16 (uv k2.pad)))
  have Hb3 := Lib.hid ((((Hb2.out.ext y2).far (p := ⟨G14, 0, none⟩) (fun e => hd4 e.symm) (.int .i64 k2.bits)).far (p := ⟨G14, 1, none⟩) (fun e => hd4 e.symm) (.int .i64 k2.perm)).far (p := ⟨G14, 2, none⟩) (fun e => hd4 e.symm) (.int .u16 (uv k2.pad)))
  have Hp3 := Lib.hid ((((Hp2.out.ext y2).far (p := ⟨G14, 0, none⟩) (hd5) (.int .i64 k2.bits)).far (p := ⟨G14, 1, none⟩) (hd5) (.int .i64 k2.perm)).far (p := ⟨G14, 2, none⟩) (hd5) (.int .u16 (uv k2.pad)))
  have Hq3 := Lib.hid (blk3 (x := .int .i64 k2.bits) (y := .int .i64 k2.perm) (z := .int .u16 (uv k2.pad)) (Hq2.out.ext y2))
  have HE3 := Lib.hid ((((HE2.out.ext y2).setCell (p := ⟨G14, 0, none⟩) hle2 (.int .i64 k2.bits)).setCell (p := ⟨G14, 1, none⟩) hle2 (.int .i64 k2.perm)).setCell (p := ⟨G14, 2, none⟩) hle2 (.int .u16 (uv k2.pad)))
  generalize (((ext V2 y2).setCell ⟨G14, 0, none⟩ (.int .i64 k2.bits)).setCell ⟨G14, 1, none⟩ (.int .i64 k2.perm)).setCell ⟨G14, 2, none⟩ (.int .u16 (uv k2.pad)) = V3 at *
  clear a02 a12 a22 af2 ao2 b02 b12 b22 bf2 bo2 p02 p12 p22 pf2 po2 q02 q12 q22 qf2 qo2
  have a03 : V3.cell? ⟨w.heap.size, 0, none⟩ = some (.int .i64 a.bits) := Ha3.out.cell 0
  have a13 : V3.cell? ⟨w.heap.size, 1, none⟩ = some (.int .i64 a.perm) := Ha3.out.cell 1
  have a23 : V3.cell? ⟨w.heap.size, 2, none⟩ = some (.int .u16 (uv a.pad)) := Ha3.out.cell 2
  have af3 := Ha3.out.frozen
  have ao3 := Old.mk Ha3.out.lt
  have b03 : V3.cell? ⟨w.heap.size + 1, 0, none⟩ = some (.int .i64 b.bits) := Hb3.out.cell 0
  have b13 : V3.cell? ⟨w.heap.size + 1, 1, none⟩ = some (.int .i64 b.perm) := Hb3.out.cell 1
  have b23 : V3.cell? ⟨w.heap.size + 1, 2, none⟩ = some (.int .u16 (uv b.pad)) := Hb3.out.cell 2
  have bf3 := Hb3.out.frozen
  have bo3 := Old.mk Hb3.out.lt
  have p03 : V3.cell? ⟨G13, 0, none⟩ = some (.int .i64 k2.bits) := Hp3.out.cell 0
  have p13 : V3.cell? ⟨G13, 1, none⟩ = some (.int .i64 k2.perm) := Hp3.out.cell 1
  have p23 : V3.cell? ⟨G13, 2, none⟩ = some (.int .u16 (uv k2.pad)) := Hp3.out.cell 2
  have pf3 := Hp3.out.frozen
  have po3 := Old.mk Hp3.out.lt
  have q03 : V3.cell? ⟨G14, 0, none⟩ = some (.int .i64 k2.bits) := Hq3.out.cell 0
  have q13 : V3.cell? ⟨G14, 1, none⟩ = some (.int .i64 k2.perm) := Hq3.out.cell 1
  have q23 : V3.cell? ⟨G14, 2, none⟩ = some (.int .u16 (uv k2.pad)) := Hq3.out.cell 2
  have qf3 := Hq3.out.frozen
  have qo3 := Old.mk Hq3.out.lt
  refine Calls.ext (C13.out _) fun y3 => ?_
  go_wp2_with fail
  have Ha4 := Lib.hid ((((Ha3.out.ext y3).far (p := ⟨G13, 0, none⟩) (fun e => hd1 e.symm) (.int .i64 k3.bits)).far (p := ⟨G13, 1, none⟩) (fun e => hd1 e.symm) (.int .i64 k3.perm)).far (p := ⟨G13, 2, none⟩) (fun e => hd1 e.symm) (.int .u16 (uv k3.pad)))
  have Hb4 := Lib.hid ((((Hb3.out.ext y3).far (p := ⟨G13, 0, none⟩) (fun e => hd2 e.symm) (.int .i64 k3.bits)).far (p := ⟨G13, 1, none⟩) (fun e => hd2 e.symm) (.int .i64 k3.perm)).far (p := ⟨G13, 2, none⟩) (fun e => hd2 e.symm) (.int .u16 (uv k3.pad)))
  have Hp4 := Lib.hid (blk3 (x := .int .i64 k3.bits) (y := .int .i64 k3.perm) (z := .int .u16 (uv k3.pad)) (Hp3.out.ext y3))
  have Hq4 := Lib.hid ((((Hq3.out.ext y3).far (p := ⟨G13, 0, none⟩) (fun e => hd5 e.symm) (.int .i64 k3.bits)).far (p := ⟨G13, 1, none⟩) (fun e => hd5 e.symm) (.int .i64 k3.perm)).far (p := ⟨G13, 2, none⟩) (fun e => hd5 e.symm) (.int .u16 (uv k3.pad)))
  have HE4 := Lib.hid ((((HE3.out.ext y3).setCell (p := ⟨G13, 0, none⟩) hle1 (.int .i64 k3.bits)).setCell (p := ⟨G13, 1, none⟩) hle1 (.int .i64 k3.perm)).setCell (p := ⟨G13, 2, none⟩) hle1 (.int .u16 (uv k3.pad)))
  generalize (((ext V3 y3).setCell ⟨G13, 0, none⟩ (.int .i64 k3.bits)).setCell ⟨G13, 1, none⟩ (.int .i64 k3.perm)).setCell ⟨G13, 2, none⟩ (.int .u16 (uv k3.pad)) = V4 at *
  clear a03 a13 a23 af3 ao3 b03 b13 b23 bf3 bo3 p03 p13 p23 pf3 po3 q03 q13 q23 qf3 qo3
  have a04 : V4.cell? ⟨w.heap.size, 0, none⟩ = some (.int .i64 a.bits) := Ha4.out.cell 0
  have a14 : V4.cell? ⟨w.heap.size, 1, none⟩ = some (.int .i64 a.perm) := Ha4.out.cell 1
  have a24 : V4.cell? ⟨w.heap.size, 2, none⟩ = some (.int .u16 (uv a.pad)) := Ha4.out.cell 2
  have af4 := Ha4.out.frozen
  have ao4 := Old.mk Ha4.out.lt
  have b04 : V4.cell? ⟨w.heap.size + 1, 0, none⟩ = some (.int .i64 b.bits) := Hb4.out.cell 0
  have b14 : V4.cell? ⟨w.heap.size + 1, 1, none⟩ = some (.int .i64 b.perm) := Hb4.out.cell 1
  have b24 : V4.cell? ⟨w.heap.size + 1, 2, none⟩ = some (.int .u16 (uv b.pad)) := Hb4.out.cell 2
  have bf4 := Hb4.out.frozen
  have bo4 := Old.mk Hb4.out.lt
  have p04 : V4.cell? ⟨G13, 0, none⟩ = some (.int .i64 k3.bits) := Hp4.out.cell 0
  have p14 : V4.cell? ⟨G13, 1, none⟩ = some (.int .i64 k3.perm) := Hp4.out.cell 1
  have p24 : V4.cell? ⟨G13, 2, none⟩ = some (.int .u16 (uv k3.pad)) := Hp4.out.cell 2
  have pf4 := Hp4.out.frozen
  have po4 := Old.mk Hp4.out.lt
  have q04 : V4.cell? ⟨G14, 0, none⟩ = some (.int .i64 k2.bits) := Hq4.out.cell 0
  have q14 : V4.cell? ⟨G14, 1, none⟩ = some (.int .i64 k2.perm) := Hq4.out.cell 1
  have q24 : V4.cell? ⟨G14, 2, none⟩ = some (.int .u16 (uv k2.pad)) := Hq4.out.cell 2
  have qf4 := Hq4.out.frozen
  have qo4 := Old.mk Hq4.out.lt
  refine Calls.ext (C14.out _) fun y4 => ?_
  go_wp2_with fail
  go_ret
  exact ⟨rfl, (((HE4.out.ext y4).setCell (p := ⟨G14, 0, none⟩) hle2 _).setCell (p := ⟨G14, 1, none⟩) hle2 _).setCell (p := ⟨G14, 2, none⟩) hle2 _⟩
set_option maxRecDepth 100000 in
theorem veilKeys_lifted (os : Os) (started : os.Started) (H : Type) (enc : TypeId × Value → H) :
    ReturnsInHanded {} Try.checked os 6 .any (Rows.veilKeysSpec.pre6 enc Try.prog Try.f6 Rows.veilKeysRow.domain false) (Rows.veilKeysSpec.post enc Try.prog Try.f6 false true false false) := by
  refine returnsInHanded_of_change (C := Try.checked) own started (by kernel_rfl) Try.func6
    (ChangeSpec.witness6 (enc := enc) (C := Try.checked) false ⟨#[], #[.agg #[.int .i64 0, .int .i64 0, .int .u16 0], .agg #[.int .i64 0, .int .i64 0, .int .u16 0], .int .u16 0], []⟩ 8 (by kernel_rfl) (by kernel_rfl) (by kernel_rfl) (by kernel_rfl)) ?_
  intro W base args ds gs before hval0 hW hcnd _
  have hval : ∀ (j : Nat) t v, Try.f6.params[j]? = some t → args[j]? = some v → Value.okWide Try.prog W .any base t v := hval0
  have hW' := hW
  obtain ⟨p, q, hA0, hV, rfl, hfz, hnd⟩ := hW
  have hA : DataW.TrodAll enc Try.prog W 0 (fun _ => true) true Try.f6.params.toList args.toList ds p := hA0
  rw [Try.params6] at hA hval
  obtain ⟨v0, vs0, d0, ds0, p0, q0, hargs, rfl, rfl, h0, r0⟩ := trodAll_cons hA
  obtain ⟨v1, vs1, d1, ds1, p1, q1, rfl, rfl, rfl, h1, r1⟩ := trodAll_cons r0
  obtain ⟨v2, vs2, d2, ds2, p2, q2, rfl, rfl, rfl, h2, r2⟩ := trodAll_cons r1
  obtain ⟨rfl, rfl, rfl⟩ := trodAll_nil r2
  obtain rfl : args = #[v0, v1, v2] := by cases args; simp_all
  obtain ⟨rfl, rfl⟩ := trodVars_none hV
  have k0 := h0
  have lt0 : ∀ x ∈ p0, x.block < W.heap.size := by obtain ⟨m, hm⟩ := k0; exact DataW.trod_lt m _ _ _ hm
  obtain ⟨ns0, hl0, hv0, wf0⟩ := open_nums (ks := [.i64, .i64, .u16]) Try.underlying55 (by kernel_rfl) (by kernel_rfl) (kindsOf_of (by kernel_rfl)) (hval 0 55 v0 rfl rfl) h0
  have k1 := h1
  have lt1 : ∀ x ∈ p1, x.block < W.heap.size := by obtain ⟨m, hm⟩ := k1; exact DataW.trod_lt m _ _ _ hm
  obtain ⟨ns1, hl1, hv1, wf1⟩ := open_nums (ks := [.i64, .i64, .u16]) Try.underlying55 (by kernel_rfl) (by kernel_rfl) (kindsOf_of (by kernel_rfl)) (hval 1 55 v1 rfl rfl) h1
  have k2 := h2
  have lt2 : ∀ x ∈ p2, x.block < W.heap.size := by obtain ⟨m, hm⟩ := k2; exact DataW.trod_lt m _ _ _ hm
  obtain ⟨a2, rfl, _, _, w2⟩ := open_int Try.underlying27 (hval 2 27 v2 rfl rfl) h2
  clear hA0 hval0
  obtain ⟨ky0, hky0⟩ := key_of hl0 wf0
  rw [hky0] at hv0
  subst hv0
  obtain ⟨ky1, hky1⟩ := key_of hl1 wf1
  rw [hky1] at hv1
  subst hv1
  have e2 := uv_of w2
  generalize BitVec.ofNat 16 a2.toNat = x2 at e2
  subst e2
  refine (veilKeys_walk ky0 ky1 x2 W).mono fun e W' ⟨he, bel⟩ => ?_
  subst he
  exact ⟨_, rfl, _, _, _, [], _, [], hW', trodAll_mk1 (shut_bool Try.underlying4 _), (trodAll_cons_mk (Below.trod laidOut (by kernel_rfl) (of_decide_eq_true (by kernel_rfl)) k0 bel lt0) (trodAll_cons_mk (Below.trod laidOut (by kernel_rfl) (of_decide_eq_true (by kernel_rfl)) k1 bel lt1) (trodAll_cons_mk (Below.trod laidOut (by kernel_rfl) (of_decide_eq_true (by kernel_rfl)) k2 bel lt2) trodAll_mk0))), rfl, Below.frame bel _, fun h => by cases h⟩

theorem veilKeys_holds : Rows.VeilKeysSaid :=
  OpenClaim.holds_of_wide 6 Try.f6 rfl rfl rfl rfl rfl rfl rfl ⟨rfl, rfl, rfl, rfl, rfl⟩ rfl rfl rfl rfl rfl (by kernel_rfl) Try.func6 (by kernel_rfl)
    (of_decide_eq_true (by kernel_rfl)) (by unfold Func.isWrapper; first | (rw [if_pos (by decide +kernel)]; kernel_rfl) | (rw [if_neg (by decide +kernel)]; exact ⟨rfl, rfl⟩))
    (fun os started H enc _ => veilKeys_lifted os started H enc)
end Go.Proofs.Ytfdcapblgdlkaaa
