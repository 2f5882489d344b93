/- The examples that every statement asks first. -/
import Derived.Test.YtfdcapblgdlkaaaSame
import Derived.Test.YtfdcapblgdlkaaaDealing
import Derived.Test.YtfdcapblgdlkaaaRel
namespace Go.Proofs.Ytfdcapblgdlkaaa
open Go.RowKit

set_option maxRecDepth 100000 in
theorem three_any (p : Int) (x : BitVec 16) (w : World) : Calls Try.prog 49 #[.int .i64 p, .int .u16 (uv x)] w fun e w' => e = .returned (.agg #[.int .i64 3, .int .i64 p, .int .u16 (uv x)]) ∧ Ext w w' := by
  go_enter Try.func49, Try.ntmps49
  go_wp2_with fail
  refine bodyPost_ret (v := .agg #[.int .i64 3, .int .i64 p, .int .u16 (uv x)]) (by simp [results, Try.results49, go_sem]) rfl ⟨rfl, ?_⟩
  repeat' (first | with_reducible exact Ext.refl _ | with_reducible refine Ext.alloc ?_ _ | with_reducible refine Ext.ext ?_ _ | with_reducible refine Ext.setCell ?_ (by simp) _)
theorem al1 (w : World) : Calls Try.prog 49 #[.int .i64 1, .int .u16 0] w fun e w' => e = .returned (.agg #[.int .i64 3, .int .i64 1, .int .u16 0]) ∧ Ext w w' := three_any 1 0#16 w
theorem al2 (w : World) : Calls Try.prog 49 #[.int .i64 5, .int .u16 1] w fun e w' => e = .returned (.agg #[.int .i64 3, .int .i64 5, .int .u16 1]) ∧ Ext w w' := three_any 5 1#16 w
theorem al3 (w : World) : Calls Try.prog 49 #[.int .i64 0, .int .u16 5] w fun e w' => e = .returned (.agg #[.int .i64 3, .int .i64 0, .int .u16 5]) ∧ Ext w w' := three_any 0 5#16 w
theorem al4 (w : World) : Calls Try.prog 49 #[.int .i64 5, .int .u16 4] w fun e w' => e = .returned (.agg #[.int .i64 3, .int .i64 5, .int .u16 4]) ∧ Ext w w' := three_any 5 4#16 w
theorem al5 (w : World) : Calls Try.prog 27 #[.agg #[.int .i64 3, .int .i64 1, .int .u16 0]] w fun e w' => ∃ g c, e = .returned (.tuple #[.slice (some ⟨g, 0, none⟩) (3 : Nat) c, .int .i64 0]) ∧ Lst 3 w' g c (intsV [0, 2, 1]) ∧ Ext w w' :=
  (by decide : ordN 3 1 = [0, 2, 1]) ▸ Order_ok 3 1 0#16 (by omega) (by decide) (by decide) w
theorem al6 (w : World) : Calls Try.prog 32 #[.agg #[.int .i64 3, .int .i64 5, .int .u16 1], .int .u16 6] w fun e w' => e = .returned (.tuple #[.int .u16 2, .int .i64 0]) ∧ Ext w w' :=
  (by kernel_rfl : Value.tuple #[.int .u16 (uv (hideX ⟨3, 5, 1#16⟩ 6#16)), .int .i64 (askV ⟨3, 5, 1#16⟩ 6#16)] = .tuple #[.int .u16 2, .int .i64 0]) ▸ Hide_any ⟨3, 5, 1#16⟩ 6#16 w
theorem al7 (w : World) : Calls Try.prog 36 #[.agg #[.int .i64 3, .int .i64 5, .int .u16 1], .agg #[.int .i64 3, .int .i64 5, .int .u16 1]] w fun e w' => e = .returned (.tuple #[.agg #[.int .i64 3, .int .i64 0, .int .u16 5], .int .i64 0]) ∧ Ext w w' :=
  (by kernel_rfl : Value.tuple #[(compX ⟨3, 5, 1#16⟩ ⟨3, 5, 1#16⟩).val, .int .i64 (bothV ⟨3, 5, 1#16⟩ ⟨3, 5, 1#16⟩)] = .tuple #[.agg #[.int .i64 3, .int .i64 0, .int .u16 5], .int .i64 0]) ▸ Compose_any ⟨3, 5, 1#16⟩ ⟨3, 5, 1#16⟩ w
theorem al8 (w : World) : Calls Try.prog 38 #[.agg #[.int .i64 3, .int .i64 5, .int .u16 1]] w fun e w' => e = .returned (.tuple #[.agg #[.int .i64 3, .int .i64 5, .int .u16 4], .int .i64 0]) ∧ Ext w w' :=
  (by kernel_rfl : Value.tuple #[(invX ⟨3, 5, 1#16⟩).val, .int .i64 (chkK ⟨3, 5, 1#16⟩)] = .tuple #[.agg #[.int .i64 3, .int .i64 5, .int .u16 4], .int .i64 0]) ▸ Invert_any ⟨3, 5, 1#16⟩ w
theorem al9 (w : World) : Calls Try.prog 19 #[.int .i64 3, .int .u16 1, .int .u16 6] w fun e w' => e = .returned (.tuple #[.int .i64 6, .int .i64 0]) ∧ Ext w w' :=
  (by kernel_rfl : viewsV 3 1#16 6#16 = .tuple #[.int .i64 6, .int .i64 0]) ▸ Views_any 3 1#16 6#16 w
def d00 : Dl := ⟨fun _ => 0, fun _ => 0, fun _ => 0, 0, 0, fun _ => 0⟩
theorem d00_ok : d00.ok := ⟨fun _ _ => ⟨Int.le_refl 0, (by decide : (0 : Int) < 256)⟩, fun _ _ => ⟨Int.le_refl 0, (by decide : (0 : Int) < 256)⟩, fun _ _ => ⟨Int.le_refl 0, (by decide : (0 : Int) < 256)⟩, ⟨by decide, by decide⟩, ⟨by decide, by decide⟩, fun _ _ => ⟨Int.le_refl 0, (by decide : (0 : Int) < 4294967296)⟩⟩
theorem d00_okB : d00.okB = true := by decide
def pZ : Array Value := (ptyP d00).cells
def qZ : Array Value := (ptyQ d00 1).cells
theorem pZ_size : pZ.size = 62 := Pty.size _
theorem qZ_size : qZ.size = 62 := Pty.size _
theorem build42z (w : World) : (Instr.build 42 (([] : List (Nat × Value)).toArray)).run Try.prog w = .ok (.agg d00.cells) w := by kernel_rfl
theorem al10 (w : World) : Calls Try.prog 21 #[.agg d00.cells, .int .i64 1] w fun e w' => e = .returned (.tuple #[.agg pZ, .agg qZ, .int .i64 0]) ∧ Ext w w' := by
  obtain ⟨h1, h2, h3⟩ := par_0 (lim := 1) d00_okB (by omega)
  have := Parties_any d00 1 d00_ok w
  rw [h1, h2, h3] at this
  exact this
theorem ptyP_ok {d : Dl} (h : d.ok) : (ptyP d).ok := ⟨h.a, h.u, h.rc, h.t⟩
theorem ptyQ_ok {d : Dl} (h : d.ok) (lim : Int) : (ptyQ d lim).ok := ⟨h.b, fun i _ => by show 0 ≤ (d.a i * d.b i - d.u i) % 31 ∧ (d.a i * d.b i - d.u i) % 31 < 256; omega, h.rs, fun i _ => tabO_in _ _ _ _ i⟩
def tZ : Array Value := (talkOf (ptyP d00) (ptyQ d00 1) 3#16 1#16).cells
theorem al11 (w : World) : Calls Try.prog 17 #[.agg pZ, .agg qZ, .int .u16 3, .int .u16 1] w fun e w' => e = .returned (.tuple #[.agg tZ, .int .i64 0]) ∧ Ext w w' := by
  have h0 : talkErr (ptyP d00) (ptyQ d00 1) 3#16 1#16 = 0 := by kernel_rfl
  have := Play_any (ptyP d00) (ptyQ d00 1) 3#16 1#16 (ptyP_ok d00_ok) (ptyQ_ok d00_ok 1) w
  rw [playC_0 h0, h0] at this
  exact this
theorem tZ_size : tZ.size = 35 := Tlk.size _
theorem tZ_1 : tZ[1]? = some (.int .u8 1) := by kernel_rfl
theorem tZ_16 : tZ[16]? = some (.int .u8 0) := by kernel_rfl
theorem tZ_30 : tZ[30]? = some (.int .u8 2) := by kernel_rfl
theorem tZ_31 : tZ[31]? = some (.int .u8 30) := by kernel_rfl
theorem tZ_32 : tZ[32]? = some (.bool false) := by kernel_rfl
theorem tZ_33 : tZ[33]? = some (.bool true) := by kernel_rfl
theorem tZ_34 : tZ[34]? = some (.bool true) := by kernel_rfl
theorem info26p : (Try.prog.info? 26).map (·.size) = some pZ.size := by rw [pZ_size]; kernel_rfl
theorem info26q : (Try.prog.info? 26).map (·.size) = some qZ.size := by rw [qZ_size]; kernel_rfl
theorem info29q : (Try.prog.info? 29).map (·.size) = some tZ.size := by rw [tZ_size]; kernel_rfl
theorem z62p : Z62.size = pZ.size := by rw [pZ_size]; rfl
theorem z62q : Z62.size = qZ.size := by rw [qZ_size]; rfl
theorem z35q : Z35.size = tZ.size := by rw [tZ_size]; rfl
theorem pZ_one : pZ.all (·.oneCell') = true := pty_one
theorem qZ_one : qZ.all (·.oneCell') = true := pty_one
theorem tZ_one : tZ.all (·.oneCell') = true := tlk_one
set_option maxRecDepth 100000 in
set_option maxHeartbeats 8000000 in
theorem alive_any (w : World) : Calls Try.prog 42 #[] w fun e w' => e = .returned (.bool true) ∧ Ext w w' := by
  go_enter Try.func42, Try.ntmps42
  go_wp2_with fail
  refine Calls.ext (al1 _) fun z1 => ?_
  go_wp2_with fail
  refine (al5 _).mono ?_
  rintro e w' ⟨g, c, rfl, hL, hE⟩
  obtain ⟨z2, rfl⟩ := ext_ex hE
  clear hE
  have HL := Lib.hid hL
  have HE := Lib.hid ((Ext.ext_self w z1).ext z2)
  clear hL
  generalize ext (ext w z1) z2 = V1 at *
  go_wp2_with fail
  refine Calls.ext (al2 _) fun z3 => ?_
  go_wp2_with fail
  refine Calls.ext (al6 _) fun z4 => ?_
  go_wp2_with fail
  refine Calls.ext (al2 _) fun z5 => ?_
  go_wp2_with fail
  refine Calls.ext (al2 _) fun z6 => ?_
  go_wp2_with fail
  refine Calls.ext (al7 _) fun z7 => ?_
  go_wp2_with fail
  have E1 := Lib.hid (((((Ext.ext_self V1 z3).ext z4).ext z5).ext z6).ext z7)
  generalize ext (ext (ext (ext (ext V1 z3) z4) z5) z6) z7 = U at *
  refine Calls.ext (al2 _) fun z8 => ?_
  go_wp2_with fail
  refine Calls.ext (al8 _) fun z9 => ?_
  go_wp2_with fail
  have E2 := Lib.hid (((Ext.trans HE.out E1.out).alloc (.cells #[.int .i64 3, .int .i64 0, .int .u16 5] 55)).ext z8 |>.ext z9)
  have E2' := Lib.hid ((E1.out.alloc (.cells #[.int .i64 3, .int .i64 0, .int .u16 5] 55)).ext z8 |>.ext z9)
  have B5 := Lib.hid (((Blk.new U 55 #[.int .i64 3, .int .i64 0, .int .u16 5]).ext z8).ext z9)
  generalize ext (ext (U.alloc (.cells #[.int .i64 3, .int .i64 0, .int .u16 5] 55)) z8) z9 = U2 at *
  generalize U.heap.size = G5 at *
  refine Calls.ext (al9 _) fun z10 => ?_
  have E3 := Lib.hid ((E2.out.alloc (.cells #[.int .i64 3, .int .i64 5, .int .u16 4] 55)).ext z10)
  have E3' := Lib.hid ((E2'.out.alloc (.cells #[.int .i64 3, .int .i64 5, .int .u16 4] 55)).ext z10)
  have B5b := Lib.hid ((B5.out.alloc (.cells #[.int .i64 3, .int .i64 5, .int .u16 4] 55)).ext z10)
  have B7 := Lib.hid ((Blk.new U2 55 #[.int .i64 3, .int .i64 5, .int .u16 4]).ext z10)
  generalize ext (U2.alloc (.cells #[.int .i64 3, .int .i64 5, .int .u16 4] 55)) z10 = U3 at *
  generalize U2.heap.size = G7 at *
  clear E1 E2 E2' B5
  go_wp2_with (refine wpList_build_row rfl 42 [] rfl [] rfl d00.cells build42z ?_)
  refine Calls.ext (al10 _) fun z11 => ?_
  have E4 := Lib.hid ((((E3.out.ext z11).alloc (.cells Z62 26)).alloc (.cells Z62 26)))
  have E4' := Lib.hid ((((E3'.out.ext z11).alloc (.cells Z62 26)).alloc (.cells Z62 26)))
  have B5c := Lib.hid ((((B5b.out.ext z11).alloc (.cells Z62 26)).alloc (.cells Z62 26)))
  have B7c := Lib.hid ((((B7.out.ext z11).alloc (.cells Z62 26)).alloc (.cells Z62 26)))
  have P1 := Lib.hid ((Blk.new (ext U3 z11) 26 Z62).alloc (.cells Z62 26))
  have P2 := Lib.hid ((Blk.new' ((ext U3 z11).alloc (.cells Z62 26)) 26 Z62 ((ext U3 z11).heap.size + 1) (by simp)).rowFar (k := (ext U3 z11).heap.size) (by omega) pZ)
  have l5 := (B5b.out.ext z11).lt
  have l7 := (B7.out.ext z11).lt
  have lw := (E3.out.ext z11).size
  have lv := (E3'.out.ext z11).size
  have K1 := Lib.hid ((P1.out.row pZ).rowFar (k := (ext U3 z11).heap.size + 1) (by omega) qZ)
  have K2 := Lib.hid (P2.out.row qZ)
  have E5 := Lib.hid ((E4.out.row (g := (ext U3 z11).heap.size) (by omega) pZ).row (g := (ext U3 z11).heap.size + 1) (by omega) qZ)
  have E5' := Lib.hid ((E4'.out.row (g := (ext U3 z11).heap.size) (by omega) pZ).row (g := (ext U3 z11).heap.size + 1) (by omega) qZ)
  have B5d := Lib.hid ((B5c.out.rowFar (k := (ext U3 z11).heap.size) (by omega) pZ).rowFar (k := (ext U3 z11).heap.size + 1) (by omega) qZ)
  have B7d := Lib.hid ((B7c.out.rowFar (k := (ext U3 z11).heap.size) (by omega) pZ).rowFar (k := (ext U3 z11).heap.size + 1) (by omega) qZ)
  clear E3 E3' B5b B7 E4 E4' B5c B7c
  go_wp2_with (first | (refine wpList_store_row rfl 26 (.tmp 11) (.tmp 44) rfl (ext U3 z11).heap.size rfl 26 Z62 pZ rfl P1.out info26p z62p pZ_one ?_) | (refine wpList_store_row rfl 26 (.tmp 12) (.tmp 45) rfl ((ext U3 z11).heap.size + 1) rfl 26 Z62 qZ rfl P2.out info26q z62q qZ_one ?_) | (refine wpList_load_row rfl 26 (.tmp 11) rfl (ext U3 z11).heap.size rfl 26 pZ (0, 0) _ K1.out Try.underlying26 rfl info26p ?_) | (refine wpList_load_row rfl 26 (.tmp 12) rfl ((ext U3 z11).heap.size + 1) rfl 26 qZ (0, 0) _ K2.out Try.underlying26 rfl info26q ?_))
  change Calls _ _ _ (((((ext U3 z11).alloc (.cells Z62 26)).alloc (.cells Z62 26)).setRow (ext U3 z11).heap.size pZ).setRow ((ext U3 z11).heap.size + 1) qZ) _
  generalize ((((ext U3 z11).alloc (.cells Z62 26)).alloc (.cells Z62 26)).setRow (ext U3 z11).heap.size pZ).setRow ((ext U3 z11).heap.size + 1) qZ = W4 at *
  clear K1 K2 P1 P2 l5 l7 lw lv
  refine Calls.ext (al11 _) fun z12 => ?_
  have S1 := Lib.hid (Blk.new (ext W4 z12) 29 Z35)
  have m5 := (B5d.out.ext z12).lt
  have m7 := (B7d.out.ext z12).lt
  have mw := (E5.out.ext z12).size
  have mv := (E5'.out.ext z12).size
  have T14 := Lib.hid (S1.out.row tZ)
  have B5e := Lib.hid (((B5d.out.ext z12).alloc (.cells Z35 29)).rowFar (k := (ext W4 z12).heap.size) (by omega) tZ)
  have B7e := Lib.hid (((B7d.out.ext z12).alloc (.cells Z35 29)).rowFar (k := (ext W4 z12).heap.size) (by omega) tZ)
  have E6 := Lib.hid (((E5.out.ext z12).alloc (.cells Z35 29)).row (g := (ext W4 z12).heap.size) (by omega) tZ)
  have E6' := Lib.hid (((E5'.out.ext z12).alloc (.cells Z35 29)).row (g := (ext W4 z12).heap.size) (by omega) tZ)
  clear B5d B7d E5 E5'
  go_wp2_with (refine wpList_store_row rfl 29 (.tmp 14) (.tmp 51) rfl (ext W4 z12).heap.size rfl 29 Z35 tZ rfl S1.out info29q z35q tZ_one ?_)
  change Code.wp _ _ _ _ (((ext W4 z12).alloc (.cells Z35 29)).setRow (ext W4 z12).heap.size tZ)
  generalize ((ext W4 z12).alloc (.cells Z35 29)).setRow (ext W4 z12).heap.size tZ = W5 at *
  generalize (ext W4 z12).heap.size = G14 at *
  clear S1 m5 m7 mw mv HE
  refine wp_region_relG (Vpr [.v (.int .i64 0), .v (.bool true), .v (.bool true), .v (.slice (some ⟨g, 0, none⟩) 3 c), .p (isL 3 3 [.int .i64 0, .int .i64 2, .int .i64 1]), .v (.bool true), .v (.bool true), .v (.bool true), .v (.int .i64 0), .v (.bool true), .v (.bool true), .v (.bool true), .v (.int .u16 2), .v (.bool true), .v (.bool true), .v (.bool true), .v (.int .i64 0), .v (.bool true), .v (.bool true), .v (.bool true), .v (.agg #[.int .i64 3, .int .i64 0, .int .u16 5]), .v (.agg #[.int .i64 3, .int .i64 0, .int .u16 5]), .v (.bool true), .v (.bool true), .v (.bool true), .v (.int .i64 0), .v (.bool true), .v (.bool true), .v (.bool true), .v (.agg #[.int .i64 3, .int .i64 5, .int .u16 4]), .v (.agg #[.int .i64 3, .int .i64 5, .int .u16 4]), .v (.bool true), .v (.bool true), .v (.bool true), .v (.int .i64 0), .v (.bool true), .v (.bool true), .v (.bool true), .v (.int .i64 6), .v (.bool true), .v (.bool true), .v (.bool true), .v (.int .i64 0), .v (.bool true), .v (.bool true), .v (.bool true), .v (.int .i64 0), .v (.bool true), .v (.bool true), .v (.bool true), .v (.pointer (some ⟨G14, 30, none⟩)), .v (.int .u8 2), .v (.bool true), .v (.bool true), .v (.bool true), .v (.pointer (some ⟨G14, 31, none⟩)), .v (.int .u8 30), .v (.bool true), .v (.bool true), .v (.bool true), .v (.pointer (some ⟨G14, 32, none⟩)), .v (.bool false), .v (.bool true), .v (.bool true), .v (.bool true), .v (.pointer (some ⟨G14, 33, none⟩)), .v (.bool true), .v (.bool true), .v (.bool true), .v (.pointer (some ⟨G14, 34, none⟩)), .v (.bool true), .v (.bool true), .v (.bool true), .v (.pointer (some ⟨G14, 0, none⟩)), .v (.pointer (some ⟨G14, 1, none⟩)), .v (.int .u8 1), .v (.bool true), .v (.bool true), .v (.bool true), .v (.pointer (some ⟨G14, 15, none⟩)), .v (.pointer (some ⟨G14, 16, none⟩)), .v (.int .u8 0), .v (.bool true), .v (.bool true), .v (.bool true)]) (by kernel_rfl) (by kernel_rfl) (Vpr_all rfl) (Vpr_mono (by
    intro q hq
    simp at hq
    subst hq
    exact isL_mono _ _ _)) ?op ?fin
  case op =>
    intro i o ho a V2 _ _ hfrm hE0 hdep
    have hE : Ext W5 V2 := Ext.trans ((Ext.refl W5).drew) hE0
    match i, ho with
    | 0, ho =>
      injection ho with ho
      subst ho
      have e1 : a.tmps[2]?.getD undef = .int .i64 0 := slot_of (hfrm 2 (frm_of 2 (by kernel_rfl)))
      exact rel_val (by simp [execOp, go_sem, e1]) rfl
    | 1, ho =>
      injection ho with ho
      subst ho
      have e1 : a.tmps[53]?.getD undef = .int .i64 0 := slot_of (hdep ⟨0, .data⟩ (by simp) (by kernel_rfl) 53 (by kernel_rfl))
      exact rel_val (by simp [execOp, go_sem, e1]) rfl
    | 2, ho =>
      injection ho with ho
      subst ho
      have e1 : a.tmps[54]?.getD undef = .bool true := slot_of (hdep ⟨1, .data⟩ (by simp) (by kernel_rfl) 54 (by kernel_rfl))
      exact rel_val (by simp [execOp, go_sem, e1]) rfl
    | 3, ho =>
      injection ho with ho
      subst ho
      have e1 : a.tmps[1]?.getD undef = .slice (some ⟨g, 0, none⟩) 3 c := slot_of (hfrm 1 (frm_of 1 (by kernel_rfl)))
      exact rel_val (by simp [execOp, go_sem, e1]) rfl
    | 4, ho =>
      injection ho with ho
      subst ho
      simp [Oper.wp, execOp, go_sem]
      exact ⟨_, rfl, ⟨_, rfl, Blk.new _ _ _⟩, (Ext.refl _).alloc _⟩
    | 5, ho =>
      injection ho with ho
      subst ho
      have e1 : a.tmps[56]?.getD undef = .slice (some ⟨g, 0, none⟩) 3 c := slot_of (hdep ⟨3, .data⟩ (by simp) (by kernel_rfl) 56 (by kernel_rfl))
      obtain ⟨q2, e2', hL2⟩ := hdep ⟨4, .data⟩ (by simp) (by kernel_rfl) 57 (by kernel_rfl)
      have e2 := slot_of e2'
      exact rel_call 29 [.tmp 56, .tmp 57] #[56, 56] rfl (by kernel_rfl) [.slice (some ⟨g, 0, none⟩) 3 c, .slice (some ⟨q2, 0, none⟩) 3 3] (by simp [Act.eval, e1, e2]) (ret_val (same_any [0, 2, 1] [0, 2, 1] (by simp) (some ⟨g, 0, none⟩) (some ⟨q2, 0, none⟩) c 3 _ (fun _ => ⟨g, rfl, HL.out.grow (Ext.trans E6'.out hE)⟩) (fun _ => ⟨q2, rfl, ⟨_, hL2, by simp [intsV], by decide, fun j _ => by rw [List.getElem?_toArray]; rfl⟩⟩)))
    | 6, ho =>
      injection ho with ho
      subst ho
      have e1 : a.tmps[55]?.getD undef = .bool true := slot_of (hdep ⟨2, .data⟩ (by simp) (by kernel_rfl) 55 (by kernel_rfl))
      have e2 : a.tmps[58]?.getD undef = .bool true := slot_of (hdep ⟨5, .data⟩ (by simp) (by kernel_rfl) 58 (by kernel_rfl))
      exact rel_val (by simp [execOp, go_sem, e1, e2]) rfl
    | 7, ho =>
      injection ho with ho
      subst ho
      have e1 : a.tmps[59]?.getD undef = .bool true := slot_of (hdep ⟨6, .data⟩ (by simp) (by kernel_rfl) 59 (by kernel_rfl))
      exact rel_val (by simp [execOp, go_sem, e1]) rfl
    | 8, ho =>
      injection ho with ho
      subst ho
      have e1 : a.tmps[4]?.getD undef = .int .i64 0 := slot_of (hfrm 4 (frm_of 4 (by kernel_rfl)))
      exact rel_val (by simp [execOp, go_sem, e1]) rfl
    | 9, ho =>
      injection ho with ho
      subst ho
      have e1 : a.tmps[61]?.getD undef = .int .i64 0 := slot_of (hdep ⟨8, .data⟩ (by simp) (by kernel_rfl) 61 (by kernel_rfl))
      exact rel_val (by simp [execOp, go_sem, e1]) rfl
    | 10, ho =>
      injection ho with ho
      subst ho
      have e1 : a.tmps[60]?.getD undef = .bool true := slot_of (hdep ⟨7, .data⟩ (by simp) (by kernel_rfl) 60 (by kernel_rfl))
      have e2 : a.tmps[62]?.getD undef = .bool true := slot_of (hdep ⟨9, .data⟩ (by simp) (by kernel_rfl) 62 (by kernel_rfl))
      exact rel_val (by simp [execOp, go_sem, e1, e2]) rfl
    | 11, ho =>
      injection ho with ho
      subst ho
      have e1 : a.tmps[63]?.getD undef = .bool true := slot_of (hdep ⟨10, .data⟩ (by simp) (by kernel_rfl) 63 (by kernel_rfl))
      exact rel_val (by simp [execOp, go_sem, e1]) rfl
    | 12, ho =>
      injection ho with ho
      subst ho
      have e1 : a.tmps[3]?.getD undef = .int .u16 2 := slot_of (hfrm 3 (frm_of 3 (by kernel_rfl)))
      exact rel_val (by simp [execOp, go_sem, e1]) rfl
    | 13, ho =>
      injection ho with ho
      subst ho
      have e1 : a.tmps[65]?.getD undef = .int .u16 2 := slot_of (hdep ⟨12, .data⟩ (by simp) (by kernel_rfl) 65 (by kernel_rfl))
      exact rel_val (by simp [execOp, go_sem, e1]) rfl
    | 14, ho =>
      injection ho with ho
      subst ho
      have e1 : a.tmps[64]?.getD undef = .bool true := slot_of (hdep ⟨11, .data⟩ (by simp) (by kernel_rfl) 64 (by kernel_rfl))
      have e2 : a.tmps[66]?.getD undef = .bool true := slot_of (hdep ⟨13, .data⟩ (by simp) (by kernel_rfl) 66 (by kernel_rfl))
      exact rel_val (by simp [execOp, go_sem, e1, e2]) rfl
    | 15, ho =>
      injection ho with ho
      subst ho
      have e1 : a.tmps[67]?.getD undef = .bool true := slot_of (hdep ⟨14, .data⟩ (by simp) (by kernel_rfl) 67 (by kernel_rfl))
      exact rel_val (by simp [execOp, go_sem, e1]) rfl
    | 16, ho =>
      injection ho with ho
      subst ho
      have e1 : a.tmps[6]?.getD undef = .int .i64 0 := slot_of (hfrm 6 (frm_of 6 (by kernel_rfl)))
      exact rel_val (by simp [execOp, go_sem, e1]) rfl
    | 17, ho =>
      injection ho with ho
      subst ho
      have e1 : a.tmps[69]?.getD undef = .int .i64 0 := slot_of (hdep ⟨16, .data⟩ (by simp) (by kernel_rfl) 69 (by kernel_rfl))
      exact rel_val (by simp [execOp, go_sem, e1]) rfl
    | 18, ho =>
      injection ho with ho
      subst ho
      have e1 : a.tmps[68]?.getD undef = .bool true := slot_of (hdep ⟨15, .data⟩ (by simp) (by kernel_rfl) 68 (by kernel_rfl))
      have e2 : a.tmps[70]?.getD undef = .bool true := slot_of (hdep ⟨17, .data⟩ (by simp) (by kernel_rfl) 70 (by kernel_rfl))
      exact rel_val (by simp [execOp, go_sem, e1, e2]) rfl
    | 19, ho =>
      injection ho with ho
      subst ho
      have e1 : a.tmps[71]?.getD undef = .bool true := slot_of (hdep ⟨18, .data⟩ (by simp) (by kernel_rfl) 71 (by kernel_rfl))
      exact rel_val (by simp [execOp, go_sem, e1]) rfl
    | 20, ho =>
      injection ho with ho
      subst ho
      have e1 : a.tmps[5]?.getD undef = .pointer (some ⟨G5, 0, none⟩) := slot_of (hfrm 5 (frm_of 5 (by kernel_rfl)))
      have c0 : V2.cell? ⟨G5, 0, none⟩ = some (.int .i64 3) := (B5e.out.grow hE).cell 0
      have c1 : V2.cell? ⟨G5, 1, none⟩ = some (.int .i64 0) := (B5e.out.grow hE).cell 1
      have c2 : V2.cell? ⟨G5, 2, none⟩ = some (.int .u16 5) := (B5e.out.grow hE).cell 2
      exact rel_val (by simp [execOp, go_sem, e1, c0, c1, c2]) rfl
    | 21, ho =>
      injection ho with ho
      subst ho
      exact rel_call 49 [.const (.int .i64 0), .const (.int .u16 5)] #[3, 27] rfl (by kernel_rfl) [.int .i64 0, .int .u16 5] (by simp [Act.eval]) (ret_val (al3 _))
    | 22, ho =>
      injection ho with ho
      subst ho
      have e1 : a.tmps[73]?.getD undef = .agg #[.int .i64 3, .int .i64 0, .int .u16 5] := slot_of (hdep ⟨20, .data⟩ (by simp) (by kernel_rfl) 73 (by kernel_rfl))
      have e2 : a.tmps[74]?.getD undef = .agg #[.int .i64 3, .int .i64 0, .int .u16 5] := slot_of (hdep ⟨21, .data⟩ (by simp) (by kernel_rfl) 74 (by kernel_rfl))
      exact rel_val (by simp [execOp, go_sem, e1, e2]) rfl
    | 23, ho =>
      injection ho with ho
      subst ho
      have e1 : a.tmps[72]?.getD undef = .bool true := slot_of (hdep ⟨19, .data⟩ (by simp) (by kernel_rfl) 72 (by kernel_rfl))
      have e2 : a.tmps[75]?.getD undef = .bool true := slot_of (hdep ⟨22, .data⟩ (by simp) (by kernel_rfl) 75 (by kernel_rfl))
      exact rel_val (by simp [execOp, go_sem, e1, e2]) rfl
    | 24, ho =>
      injection ho with ho
      subst ho
      have e1 : a.tmps[76]?.getD undef = .bool true := slot_of (hdep ⟨23, .data⟩ (by simp) (by kernel_rfl) 76 (by kernel_rfl))
      exact rel_val (by simp [execOp, go_sem, e1]) rfl
    | 25, ho =>
      injection ho with ho
      subst ho
      have e1 : a.tmps[8]?.getD undef = .int .i64 0 := slot_of (hfrm 8 (frm_of 8 (by kernel_rfl)))
      exact rel_val (by simp [execOp, go_sem, e1]) rfl
    | 26, ho =>
      injection ho with ho
      subst ho
      have e1 : a.tmps[78]?.getD undef = .int .i64 0 := slot_of (hdep ⟨25, .data⟩ (by simp) (by kernel_rfl) 78 (by kernel_rfl))
      exact rel_val (by simp [execOp, go_sem, e1]) rfl
    | 27, ho =>
      injection ho with ho
      subst ho
      have e1 : a.tmps[77]?.getD undef = .bool true := slot_of (hdep ⟨24, .data⟩ (by simp) (by kernel_rfl) 77 (by kernel_rfl))
      have e2 : a.tmps[79]?.getD undef = .bool true := slot_of (hdep ⟨26, .data⟩ (by simp) (by kernel_rfl) 79 (by kernel_rfl))
      exact rel_val (by simp [execOp, go_sem, e1, e2]) rfl
    | 28, ho =>
      injection ho with ho
      subst ho
      have e1 : a.tmps[80]?.getD undef = .bool true := slot_of (hdep ⟨27, .data⟩ (by simp) (by kernel_rfl) 80 (by kernel_rfl))
      exact rel_val (by simp [execOp, go_sem, e1]) rfl
    | 29, ho =>
      injection ho with ho
      subst ho
      have e1 : a.tmps[7]?.getD undef = .pointer (some ⟨G7, 0, none⟩) := slot_of (hfrm 7 (frm_of 7 (by kernel_rfl)))
      have c0 : V2.cell? ⟨G7, 0, none⟩ = some (.int .i64 3) := (B7e.out.grow hE).cell 0
      have c1 : V2.cell? ⟨G7, 1, none⟩ = some (.int .i64 5) := (B7e.out.grow hE).cell 1
      have c2 : V2.cell? ⟨G7, 2, none⟩ = some (.int .u16 4) := (B7e.out.grow hE).cell 2
      exact rel_val (by simp [execOp, go_sem, e1, c0, c1, c2]) rfl
    | 30, ho =>
      injection ho with ho
      subst ho
      exact rel_call 49 [.const (.int .i64 5), .const (.int .u16 4)] #[3, 27] rfl (by kernel_rfl) [.int .i64 5, .int .u16 4] (by simp [Act.eval]) (ret_val (al4 _))
    | 31, ho =>
      injection ho with ho
      subst ho
      have e1 : a.tmps[82]?.getD undef = .agg #[.int .i64 3, .int .i64 5, .int .u16 4] := slot_of (hdep ⟨29, .data⟩ (by simp) (by kernel_rfl) 82 (by kernel_rfl))
      have e2 : a.tmps[83]?.getD undef = .agg #[.int .i64 3, .int .i64 5, .int .u16 4] := slot_of (hdep ⟨30, .data⟩ (by simp) (by kernel_rfl) 83 (by kernel_rfl))
      exact rel_val (by simp [execOp, go_sem, e1, e2]) rfl
    | 32, ho =>
      injection ho with ho
      subst ho
      have e1 : a.tmps[81]?.getD undef = .bool true := slot_of (hdep ⟨28, .data⟩ (by simp) (by kernel_rfl) 81 (by kernel_rfl))
      have e2 : a.tmps[84]?.getD undef = .bool true := slot_of (hdep ⟨31, .data⟩ (by simp) (by kernel_rfl) 84 (by kernel_rfl))
      exact rel_val (by simp [execOp, go_sem, e1, e2]) rfl
    | 33, ho =>
      injection ho with ho
      subst ho
      have e1 : a.tmps[85]?.getD undef = .bool true := slot_of (hdep ⟨32, .data⟩ (by simp) (by kernel_rfl) 85 (by kernel_rfl))
      exact rel_val (by simp [execOp, go_sem, e1]) rfl
    | 34, ho =>
      injection ho with ho
      subst ho
      have e1 : a.tmps[10]?.getD undef = .int .i64 0 := slot_of (hfrm 10 (frm_of 10 (by kernel_rfl)))
      exact rel_val (by simp [execOp, go_sem, e1]) rfl
    | 35, ho =>
      injection ho with ho
      subst ho
      have e1 : a.tmps[87]?.getD undef = .int .i64 0 := slot_of (hdep ⟨34, .data⟩ (by simp) (by kernel_rfl) 87 (by kernel_rfl))
      exact rel_val (by simp [execOp, go_sem, e1]) rfl
    | 36, ho =>
      injection ho with ho
      subst ho
      have e1 : a.tmps[86]?.getD undef = .bool true := slot_of (hdep ⟨33, .data⟩ (by simp) (by kernel_rfl) 86 (by kernel_rfl))
      have e2 : a.tmps[88]?.getD undef = .bool true := slot_of (hdep ⟨35, .data⟩ (by simp) (by kernel_rfl) 88 (by kernel_rfl))
      exact rel_val (by simp [execOp, go_sem, e1, e2]) rfl
    | 37, ho =>
      injection ho with ho
      subst ho
      have e1 : a.tmps[89]?.getD undef = .bool true := slot_of (hdep ⟨36, .data⟩ (by simp) (by kernel_rfl) 89 (by kernel_rfl))
      exact rel_val (by simp [execOp, go_sem, e1]) rfl
    | 38, ho =>
      injection ho with ho
      subst ho
      have e1 : a.tmps[9]?.getD undef = .int .i64 6 := slot_of (hfrm 9 (frm_of 9 (by kernel_rfl)))
      exact rel_val (by simp [execOp, go_sem, e1]) rfl
    | 39, ho =>
      injection ho with ho
      subst ho
      have e1 : a.tmps[91]?.getD undef = .int .i64 6 := slot_of (hdep ⟨38, .data⟩ (by simp) (by kernel_rfl) 91 (by kernel_rfl))
      exact rel_val (by simp [execOp, go_sem, e1]) rfl
    | 40, ho =>
      injection ho with ho
      subst ho
      have e1 : a.tmps[90]?.getD undef = .bool true := slot_of (hdep ⟨37, .data⟩ (by simp) (by kernel_rfl) 90 (by kernel_rfl))
      have e2 : a.tmps[92]?.getD undef = .bool true := slot_of (hdep ⟨39, .data⟩ (by simp) (by kernel_rfl) 92 (by kernel_rfl))
      exact rel_val (by simp [execOp, go_sem, e1, e2]) rfl
    | 41, ho =>
      injection ho with ho
      subst ho
      have e1 : a.tmps[93]?.getD undef = .bool true := slot_of (hdep ⟨40, .data⟩ (by simp) (by kernel_rfl) 93 (by kernel_rfl))
      exact rel_val (by simp [execOp, go_sem, e1]) rfl
    | 42, ho =>
      injection ho with ho
      subst ho
      have e1 : a.tmps[13]?.getD undef = .int .i64 0 := slot_of (hfrm 13 (frm_of 13 (by kernel_rfl)))
      exact rel_val (by simp [execOp, go_sem, e1]) rfl
    | 43, ho =>
      injection ho with ho
      subst ho
      have e1 : a.tmps[95]?.getD undef = .int .i64 0 := slot_of (hdep ⟨42, .data⟩ (by simp) (by kernel_rfl) 95 (by kernel_rfl))
      exact rel_val (by simp [execOp, go_sem, e1]) rfl
    | 44, ho =>
      injection ho with ho
      subst ho
      have e1 : a.tmps[94]?.getD undef = .bool true := slot_of (hdep ⟨41, .data⟩ (by simp) (by kernel_rfl) 94 (by kernel_rfl))
      have e2 : a.tmps[96]?.getD undef = .bool true := slot_of (hdep ⟨43, .data⟩ (by simp) (by kernel_rfl) 96 (by kernel_rfl))
      exact rel_val (by simp [execOp, go_sem, e1, e2]) rfl
    | 45, ho =>
      injection ho with ho
      subst ho
      have e1 : a.tmps[97]?.getD undef = .bool true := slot_of (hdep ⟨44, .data⟩ (by simp) (by kernel_rfl) 97 (by kernel_rfl))
      exact rel_val (by simp [execOp, go_sem, e1]) rfl
    | 46, ho =>
      injection ho with ho
      subst ho
      have e1 : a.tmps[15]?.getD undef = .int .i64 0 := slot_of (hfrm 15 (frm_of 15 (by kernel_rfl)))
      exact rel_val (by simp [execOp, go_sem, e1]) rfl
    | 47, ho =>
      injection ho with ho
      subst ho
      have e1 : a.tmps[99]?.getD undef = .int .i64 0 := slot_of (hdep ⟨46, .data⟩ (by simp) (by kernel_rfl) 99 (by kernel_rfl))
      exact rel_val (by simp [execOp, go_sem, e1]) rfl
    | 48, ho =>
      injection ho with ho
      subst ho
      have e1 : a.tmps[98]?.getD undef = .bool true := slot_of (hdep ⟨45, .data⟩ (by simp) (by kernel_rfl) 98 (by kernel_rfl))
      have e2 : a.tmps[100]?.getD undef = .bool true := slot_of (hdep ⟨47, .data⟩ (by simp) (by kernel_rfl) 100 (by kernel_rfl))
      exact rel_val (by simp [execOp, go_sem, e1, e2]) rfl
    | 49, ho =>
      injection ho with ho
      subst ho
      have e1 : a.tmps[101]?.getD undef = .bool true := slot_of (hdep ⟨48, .data⟩ (by simp) (by kernel_rfl) 101 (by kernel_rfl))
      exact rel_val (by simp [execOp, go_sem, e1]) rfl
    | 50, ho =>
      injection ho with ho
      subst ho
      have e1 : a.tmps[14]?.getD undef = .pointer (some ⟨G14, 0, none⟩) := slot_of (hfrm 14 (frm_of 14 (by kernel_rfl)))
      exact rel_val (by simp [execOp, go_sem, e1]) rfl
    | 51, ho =>
      injection ho with ho
      subst ho
      have e1 : a.tmps[103]?.getD undef = .pointer (some ⟨G14, 30, none⟩) := slot_of (hdep ⟨50, .data⟩ (by simp) (by kernel_rfl) 103 (by kernel_rfl))
      have c0 : V2.cell? ⟨G14, 30, none⟩ = some (.int .u8 2) := ((T14.out.grow hE).cell 30).trans tZ_30
      exact rel_val (by simp [execOp, go_sem, e1, c0]) rfl
    | 52, ho =>
      injection ho with ho
      subst ho
      have e1 : a.tmps[104]?.getD undef = .int .u8 2 := slot_of (hdep ⟨51, .data⟩ (by simp) (by kernel_rfl) 104 (by kernel_rfl))
      exact rel_val (by simp [execOp, go_sem, e1]) rfl
    | 53, ho =>
      injection ho with ho
      subst ho
      have e1 : a.tmps[102]?.getD undef = .bool true := slot_of (hdep ⟨49, .data⟩ (by simp) (by kernel_rfl) 102 (by kernel_rfl))
      have e2 : a.tmps[105]?.getD undef = .bool true := slot_of (hdep ⟨52, .data⟩ (by simp) (by kernel_rfl) 105 (by kernel_rfl))
      exact rel_val (by simp [execOp, go_sem, e1, e2]) rfl
    | 54, ho =>
      injection ho with ho
      subst ho
      have e1 : a.tmps[106]?.getD undef = .bool true := slot_of (hdep ⟨53, .data⟩ (by simp) (by kernel_rfl) 106 (by kernel_rfl))
      exact rel_val (by simp [execOp, go_sem, e1]) rfl
    | 55, ho =>
      injection ho with ho
      subst ho
      have e1 : a.tmps[14]?.getD undef = .pointer (some ⟨G14, 0, none⟩) := slot_of (hfrm 14 (frm_of 14 (by kernel_rfl)))
      exact rel_val (by simp [execOp, go_sem, e1]) rfl
    | 56, ho =>
      injection ho with ho
      subst ho
      have e1 : a.tmps[108]?.getD undef = .pointer (some ⟨G14, 31, none⟩) := slot_of (hdep ⟨55, .data⟩ (by simp) (by kernel_rfl) 108 (by kernel_rfl))
      have c0 : V2.cell? ⟨G14, 31, none⟩ = some (.int .u8 30) := ((T14.out.grow hE).cell 31).trans tZ_31
      exact rel_val (by simp [execOp, go_sem, e1, c0]) rfl
    | 57, ho =>
      injection ho with ho
      subst ho
      have e1 : a.tmps[109]?.getD undef = .int .u8 30 := slot_of (hdep ⟨56, .data⟩ (by simp) (by kernel_rfl) 109 (by kernel_rfl))
      exact rel_val (by simp [execOp, go_sem, e1]) rfl
    | 58, ho =>
      injection ho with ho
      subst ho
      have e1 : a.tmps[107]?.getD undef = .bool true := slot_of (hdep ⟨54, .data⟩ (by simp) (by kernel_rfl) 107 (by kernel_rfl))
      have e2 : a.tmps[110]?.getD undef = .bool true := slot_of (hdep ⟨57, .data⟩ (by simp) (by kernel_rfl) 110 (by kernel_rfl))
      exact rel_val (by simp [execOp, go_sem, e1, e2]) rfl
    | 59, ho =>
      injection ho with ho
      subst ho
      have e1 : a.tmps[111]?.getD undef = .bool true := slot_of (hdep ⟨58, .data⟩ (by simp) (by kernel_rfl) 111 (by kernel_rfl))
      exact rel_val (by simp [execOp, go_sem, e1]) rfl
    | 60, ho =>
      injection ho with ho
      subst ho
      have e1 : a.tmps[14]?.getD undef = .pointer (some ⟨G14, 0, none⟩) := slot_of (hfrm 14 (frm_of 14 (by kernel_rfl)))
      exact rel_val (by simp [execOp, go_sem, e1]) rfl
    | 61, ho =>
      injection ho with ho
      subst ho
      have e1 : a.tmps[113]?.getD undef = .pointer (some ⟨G14, 32, none⟩) := slot_of (hdep ⟨60, .data⟩ (by simp) (by kernel_rfl) 113 (by kernel_rfl))
      have c0 : V2.cell? ⟨G14, 32, none⟩ = some (.bool false) := ((T14.out.grow hE).cell 32).trans tZ_32
      exact rel_val (by simp [execOp, go_sem, e1, c0]) rfl
    | 62, ho =>
      injection ho with ho
      subst ho
      have e1 : a.tmps[114]?.getD undef = .bool false := slot_of (hdep ⟨61, .data⟩ (by simp) (by kernel_rfl) 114 (by kernel_rfl))
      exact rel_val (by simp [execOp, go_sem, e1]) rfl
    | 63, ho =>
      injection ho with ho
      subst ho
      have e1 : a.tmps[112]?.getD undef = .bool true := slot_of (hdep ⟨59, .data⟩ (by simp) (by kernel_rfl) 112 (by kernel_rfl))
      have e2 : a.tmps[115]?.getD undef = .bool true := slot_of (hdep ⟨62, .data⟩ (by simp) (by kernel_rfl) 115 (by kernel_rfl))
      exact rel_val (by simp [execOp, go_sem, e1, e2]) rfl
    | 64, ho =>
      injection ho with ho
      subst ho
      have e1 : a.tmps[116]?.getD undef = .bool true := slot_of (hdep ⟨63, .data⟩ (by simp) (by kernel_rfl) 116 (by kernel_rfl))
      exact rel_val (by simp [execOp, go_sem, e1]) rfl
    | 65, ho =>
      injection ho with ho
      subst ho
      have e1 : a.tmps[14]?.getD undef = .pointer (some ⟨G14, 0, none⟩) := slot_of (hfrm 14 (frm_of 14 (by kernel_rfl)))
      exact rel_val (by simp [execOp, go_sem, e1]) rfl
    | 66, ho =>
      injection ho with ho
      subst ho
      have e1 : a.tmps[118]?.getD undef = .pointer (some ⟨G14, 33, none⟩) := slot_of (hdep ⟨65, .data⟩ (by simp) (by kernel_rfl) 118 (by kernel_rfl))
      have c0 : V2.cell? ⟨G14, 33, none⟩ = some (.bool true) := ((T14.out.grow hE).cell 33).trans tZ_33
      exact rel_val (by simp [execOp, go_sem, e1, c0]) rfl
    | 67, ho =>
      injection ho with ho
      subst ho
      have e1 : a.tmps[117]?.getD undef = .bool true := slot_of (hdep ⟨64, .data⟩ (by simp) (by kernel_rfl) 117 (by kernel_rfl))
      have e2 : a.tmps[119]?.getD undef = .bool true := slot_of (hdep ⟨66, .data⟩ (by simp) (by kernel_rfl) 119 (by kernel_rfl))
      exact rel_val (by simp [execOp, go_sem, e1, e2]) rfl
    | 68, ho =>
      injection ho with ho
      subst ho
      have e1 : a.tmps[120]?.getD undef = .bool true := slot_of (hdep ⟨67, .data⟩ (by simp) (by kernel_rfl) 120 (by kernel_rfl))
      exact rel_val (by simp [execOp, go_sem, e1]) rfl
    | 69, ho =>
      injection ho with ho
      subst ho
      have e1 : a.tmps[14]?.getD undef = .pointer (some ⟨G14, 0, none⟩) := slot_of (hfrm 14 (frm_of 14 (by kernel_rfl)))
      exact rel_val (by simp [execOp, go_sem, e1]) rfl
    | 70, ho =>
      injection ho with ho
      subst ho
      have e1 : a.tmps[122]?.getD undef = .pointer (some ⟨G14, 34, none⟩) := slot_of (hdep ⟨69, .data⟩ (by simp) (by kernel_rfl) 122 (by kernel_rfl))
      have c0 : V2.cell? ⟨G14, 34, none⟩ = some (.bool true) := ((T14.out.grow hE).cell 34).trans tZ_34
      exact rel_val (by simp [execOp, go_sem, e1, c0]) rfl
    | 71, ho =>
      injection ho with ho
      subst ho
      have e1 : a.tmps[121]?.getD undef = .bool true := slot_of (hdep ⟨68, .data⟩ (by simp) (by kernel_rfl) 121 (by kernel_rfl))
      have e2 : a.tmps[123]?.getD undef = .bool true := slot_of (hdep ⟨70, .data⟩ (by simp) (by kernel_rfl) 123 (by kernel_rfl))
      exact rel_val (by simp [execOp, go_sem, e1, e2]) rfl
    | 72, ho =>
      injection ho with ho
      subst ho
      have e1 : a.tmps[124]?.getD undef = .bool true := slot_of (hdep ⟨71, .data⟩ (by simp) (by kernel_rfl) 124 (by kernel_rfl))
      exact rel_val (by simp [execOp, go_sem, e1]) rfl
    | 73, ho =>
      injection ho with ho
      subst ho
      have e1 : a.tmps[14]?.getD undef = .pointer (some ⟨G14, 0, none⟩) := slot_of (hfrm 14 (frm_of 14 (by kernel_rfl)))
      exact rel_val (by simp [execOp, go_sem, e1]) rfl
    | 74, ho =>
      injection ho with ho
      subst ho
      have e1 : a.tmps[126]?.getD undef = .pointer (some ⟨G14, 0, none⟩) := slot_of (hdep ⟨73, .data⟩ (by simp) (by kernel_rfl) 126 (by kernel_rfl))
      exact rel_val (by simp [execOp, go_sem, e1]) rfl
    | 75, ho =>
      injection ho with ho
      subst ho
      have e1 : a.tmps[127]?.getD undef = .pointer (some ⟨G14, 1, none⟩) := slot_of (hdep ⟨74, .data⟩ (by simp) (by kernel_rfl) 127 (by kernel_rfl))
      have c0 : V2.cell? ⟨G14, 1, none⟩ = some (.int .u8 1) := ((T14.out.grow hE).cell 1).trans tZ_1
      exact rel_val (by simp [execOp, go_sem, e1, c0]) rfl
    | 76, ho =>
      injection ho with ho
      subst ho
      have e1 : a.tmps[128]?.getD undef = .int .u8 1 := slot_of (hdep ⟨75, .data⟩ (by simp) (by kernel_rfl) 128 (by kernel_rfl))
      exact rel_val (by simp [execOp, go_sem, e1]) rfl
    | 77, ho =>
      injection ho with ho
      subst ho
      have e1 : a.tmps[125]?.getD undef = .bool true := slot_of (hdep ⟨72, .data⟩ (by simp) (by kernel_rfl) 125 (by kernel_rfl))
      have e2 : a.tmps[129]?.getD undef = .bool true := slot_of (hdep ⟨76, .data⟩ (by simp) (by kernel_rfl) 129 (by kernel_rfl))
      exact rel_val (by simp [execOp, go_sem, e1, e2]) rfl
    | 78, ho =>
      injection ho with ho
      subst ho
      have e1 : a.tmps[130]?.getD undef = .bool true := slot_of (hdep ⟨77, .data⟩ (by simp) (by kernel_rfl) 130 (by kernel_rfl))
      exact rel_val (by simp [execOp, go_sem, e1]) rfl
    | 79, ho =>
      injection ho with ho
      subst ho
      have e1 : a.tmps[14]?.getD undef = .pointer (some ⟨G14, 0, none⟩) := slot_of (hfrm 14 (frm_of 14 (by kernel_rfl)))
      exact rel_val (by simp [execOp, go_sem, e1]) rfl
    | 80, ho =>
      injection ho with ho
      subst ho
      have e1 : a.tmps[132]?.getD undef = .pointer (some ⟨G14, 15, none⟩) := slot_of (hdep ⟨79, .data⟩ (by simp) (by kernel_rfl) 132 (by kernel_rfl))
      exact rel_val (by simp [execOp, go_sem, e1]) rfl
    | 81, ho =>
      injection ho with ho
      subst ho
      have e1 : a.tmps[133]?.getD undef = .pointer (some ⟨G14, 16, none⟩) := slot_of (hdep ⟨80, .data⟩ (by simp) (by kernel_rfl) 133 (by kernel_rfl))
      have c0 : V2.cell? ⟨G14, 16, none⟩ = some (.int .u8 0) := ((T14.out.grow hE).cell 16).trans tZ_16
      exact rel_val (by simp [execOp, go_sem, e1, c0]) rfl
    | 82, ho =>
      injection ho with ho
      subst ho
      have e1 : a.tmps[134]?.getD undef = .int .u8 0 := slot_of (hdep ⟨81, .data⟩ (by simp) (by kernel_rfl) 134 (by kernel_rfl))
      exact rel_val (by simp [execOp, go_sem, e1]) rfl
    | 83, ho =>
      injection ho with ho
      subst ho
      have e1 : a.tmps[131]?.getD undef = .bool true := slot_of (hdep ⟨78, .data⟩ (by simp) (by kernel_rfl) 131 (by kernel_rfl))
      have e2 : a.tmps[135]?.getD undef = .bool true := slot_of (hdep ⟨82, .data⟩ (by simp) (by kernel_rfl) 135 (by kernel_rfl))
      exact rel_val (by simp [execOp, go_sem, e1, e2]) rfl
    | 84, ho =>
      injection ho with ho
      subst ho
      have e1 : a.tmps[136]?.getD undef = .bool true := slot_of (hdep ⟨83, .data⟩ (by simp) (by kernel_rfl) 136 (by kernel_rfl))
      exact rel_val (by simp [execOp, go_sem, e1]) rfl
    | k + 85, ho => exact absurd (List.getElem?_eq_some_iff.1 ho).1 (by simp)
  case fin =>
    intro vs V2 hE0 hvs
    have hE : Ext W5 V2 := Ext.trans ((Ext.refl W5).drew) hE0
    have s1 : vs 84 = .bool true := hvs 84 (by simp)
    have FE := Lib.hid (Ext.trans E6.out hE)
    clear hvs hE0 hE
    simp [putAll, Act.put, s1]
    go_wp2_with fail
    go_ret
    exact ⟨rfl, FE.out⟩
end Go.Proofs.Ytfdcapblgdlkaaa
