/- The examples that every statement asks first. -/
import Derived.Test.YtkhmjkhgmggjcaaOpening
import Derived.Test.YtkhmjkhgmggjcaaReasonRef
namespace Go.Proofs.Ytkhmjkhgmggjcaa
open Go.RowKit

def k1 : Int := 3200419861417846744
def k2 : Int := 10046645594127680009
abbrev y1 : E := ⟨5, 1, 3, 40, 9, 33, k1⟩
abbrev y2 : E := ⟨5, 2, 4, 7, 7, 0, k2⟩
abbrev y1e : E := ⟨5, 1, -1, 0, 0, 33, k1⟩

theorem w1_eq : writeL [] 5 1 3 40 9 = [y1] ∧ writeI [] 5 1 3 = 0 := ⟨by kernel_rfl, by kernel_rfl⟩
theorem w2_eq : writeL [y1] 5 2 4 7 7 = [y1, y2] ∧ writeI [y1] 5 2 4 = 0 := ⟨by kernel_rfl, by kernel_rfl⟩
theorem ok2 : okB [y1, y2] = true ∧ checkI [y1, y2] = 0 := ⟨by kernel_rfl, by kernel_rfl⟩
theorem er2 : erasedL [y1, y2] 3 = [y1e, y2] ∧ erasedN [y1, y2] 3 = 1 ∧ knownI [y1, y2] 3 = 0 := ⟨by kernel_rfl, by kernel_rfl, by kernel_rfl⟩
theorem tip2 : tipV [y1e, y2] = .tuple #[.int .u64 k2, .int .i64 0] := by kernel_rfl

theorem two_any (w : World) : Calls Try.prog 42 #[] w (RetS 54 7 2 (flat [y1, y2]) w) := by
  have C1 := Lib.hid (fun A c w hl => w1_eq.1 ▸ w1_eq.2 ▸ write_any A c [] 5 1 3 40 9 w hl (by decide))
  have C2 := Lib.hid (fun A c w hl => w2_eq.1 ▸ w2_eq.2 ▸ write_any A c [y1] 5 2 4 7 7 w hl (by decide))
  go_enter Try.func42, Try.ntmps42
  go_wp2_with fail
  refine calls_slice2 (C1.out none 0 w (.inl rfl)) fun A1 c1 z1 hown1 => ?_
  have HO1 := Lib.hid hown1
  clear hown1
  go_wp2_with fail
  refine calls_slice2 (C2.out A1 c1 _ (Slc.of_own HO1.out).log) fun A2 c2 z2 hown2 => ?_
  have HO2 := Lib.hid hown2
  clear hown2
  go_wp2_with fail
  go_ret
  exact ⟨A2, c2, rfl, own_mono HO2.out (ext_size _ _), ((Ext.refl w).ext _).ext _⟩

abbrev r1 : R := ⟨1, 10, 50, 1, 4, 2⟩
abbrev r2 : R := ⟨1, 10, 50, 1, 6, 2⟩
theorem pk1 : packV r1 = .tuple #[.int .u64 3254871081, .int .i64 0] := by kernel_rfl
theorem up1 : unpV 3254871081 = .tuple #[r1.val, .int .i64 0] := by kernel_rfl
theorem fo1 : follV r1 = .tuple #[.bool true, .int .i64 0] := by kernel_rfl
theorem fo2 : follV r2 = .tuple #[.bool false, .int .i64 0] := by kernel_rfl
theorem sx1 : bits .xor .u64 33 1 = 32 := by kernel_rfl

/-- The cells of a log of two entries. -/
theorem cells2 {w : World} {A : Option Addr} {x y : E} (h : Log w A [x, y]) : ∃ b off, A = some ⟨b, off, none⟩ ∧ b < w.heap.size ∧
    (w.cell? ⟨b, off, none⟩ = some (.int .i64 x.time) ∧ w.cell? ⟨b, off + 1, none⟩ = some (.int .i64 x.kind) ∧ w.cell? ⟨b, off + 2, none⟩ = some (.int .i64 x.person) ∧ w.cell? ⟨b, off + 3, none⟩ = some (.int .u64 x.detail) ∧ w.cell? ⟨b, off + 4, none⟩ = some (.int .u64 x.salt) ∧ w.cell? ⟨b, off + 5, none⟩ = some (.int .u64 x.seal_) ∧ w.cell? ⟨b, off + 6, none⟩ = some (.int .u64 x.link)) ∧
    (w.cell? ⟨b, off + 7, none⟩ = some (.int .i64 y.time) ∧ w.cell? ⟨b, off + 7 + 1, none⟩ = some (.int .i64 y.kind) ∧ w.cell? ⟨b, off + 7 + 2, none⟩ = some (.int .i64 y.person) ∧ w.cell? ⟨b, off + 7 + 3, none⟩ = some (.int .u64 y.detail) ∧ w.cell? ⟨b, off + 7 + 4, none⟩ = some (.int .u64 y.salt) ∧ w.cell? ⟨b, off + 7 + 5, none⟩ = some (.int .u64 y.seal_) ∧ w.cell? ⟨b, off + 7 + 6, none⟩ = some (.int .u64 y.link)) := by
  rcases h with h | ⟨b, off, rfl, hb, hc⟩
  · cases h
  · have h0 := hc 0 x rfl
    have h1 := hc 1 y rfl
    simp only [Nat.zero_mul, Nat.add_zero, Nat.one_mul] at h0 h1
    exact ⟨b, off, rfl, hb, h0, h1⟩

set_option maxRecDepth 100000 in
set_option maxHeartbeats 4000000 in
theorem alive_any (w : World) : Calls Try.prog 40 #[] w fun e w' => e = .returned (.bool true) ∧ Ext w w' := by
  have C1 := Lib.hid (fun A c w hl => er2.1 ▸ er2.2.1 ▸ er2.2.2 ▸ erase_any A c [y1, y2] 3 w hl (by decide))
  have C2 := Lib.hid (fun A c w hl => tip2 ▸ tip_any A c [y1e, y2] w hl (by decide))
  have C3 := Lib.hid (fun w => pk1 ▸ pack_any r1 w)
  have C4 := Lib.hid (fun w => up1 ▸ unpack_any 3254871081 w (by decide) (by decide))
  have C5 := Lib.hid (fun w => fo1 ▸ follows_any r1 w)
  have C6 := Lib.hid (fun w => fo2 ▸ follows_any r2 w)
  have C7 := Lib.hid (fun w => sx1 ▸ salt_any 33 1 w)
  have C8 := Lib.hid (fun A c w hl => ok2.2 ▸ check_any A c [y1, y2] w hl (by decide))
  go_enter Try.func40, Try.ntmps40
  go_wp2_with fail
  refine calls_slice (two_any _) fun A1 c1 z1 hown1 => ?_
  have HL1 := Lib.hid (Slc.of_own hown1).log
  obtain ⟨b, off, rfl, hb, ⟨a0, a1, a2, a3, a4, a5, a6⟩, ⟨b0, b1, b2, b3, b4, b5, b6⟩⟩ := cells2 HL1.out
  have hbo := Old.mk hb
  clear hown1 hb
  have HE1 := Lib.hid (Ext.ext_self w z1)
  generalize ext w z1 = W1 at *
  go_wp2_with (go_at_call 30; refine Calls.ext (C8.out _ c1 _ HL1.out) fun z2 => ?_)
  refine calls_slice3 (C1.out _ c1 _ (HL1.out.grow (Ext.ext_self _ _))) fun A2 c2 z3 hown2 => ?_
  have HL2 := Lib.hid (Slc.of_own hown2).log
  obtain ⟨d, doff, rfl, hd, ⟨d0, d1, d2, d3, d4, d5, d6⟩, ⟨e0, e1, e2, e3, e4, e5, e6⟩⟩ := cells2 HL2.out
  have hdo := Old.mk hd
  clear hown2 hd
  have HE2 := Lib.hid (((Ext.refl W1).ext z2).ext z3)
  have q0 := (HE2.out.cell (p := ⟨b, off, none⟩) (old_lt hbo)).trans a0
  have q1 := (HE2.out.cell (p := ⟨b, off + 1, none⟩) (old_lt hbo)).trans a1
  have q2 := (HE2.out.cell (p := ⟨b, off + 2, none⟩) (old_lt hbo)).trans a2
  have q3 := (HE2.out.cell (p := ⟨b, off + 3, none⟩) (old_lt hbo)).trans a3
  have q4 := (HE2.out.cell (p := ⟨b, off + 4, none⟩) (old_lt hbo)).trans a4
  have q5 := (HE2.out.cell (p := ⟨b, off + 5, none⟩) (old_lt hbo)).trans a5
  have q6 := (HE2.out.cell (p := ⟨b, off + 6, none⟩) (old_lt hbo)).trans a6
  have p0 := (HE2.out.cell (p := ⟨b, off + 7, none⟩) (old_lt hbo)).trans b0
  have p1 := (HE2.out.cell (p := ⟨b, off + 7 + 1, none⟩) (old_lt hbo)).trans b1
  have p2 := (HE2.out.cell (p := ⟨b, off + 7 + 2, none⟩) (old_lt hbo)).trans b2
  have p3 := (HE2.out.cell (p := ⟨b, off + 7 + 3, none⟩) (old_lt hbo)).trans b3
  have p4 := (HE2.out.cell (p := ⟨b, off + 7 + 4, none⟩) (old_lt hbo)).trans b4
  have p5 := (HE2.out.cell (p := ⟨b, off + 7 + 5, none⟩) (old_lt hbo)).trans b5
  have p6 := (HE2.out.cell (p := ⟨b, off + 7 + 6, none⟩) (old_lt hbo)).trans b6
  have hbo2 : Nonempty (Old b (ext (ext W1 z2) z3)) := inferInstance
  clear a0 a1 a2 a3 a4 a5 a6 b0 b1 b2 b3 b4 b5 b6
  generalize ext (ext W1 z2) z3 = W2 at *
  clear hbo
  go_wp2_with (go_at_call 22; refine Calls.ext (C2.out _ c2 _ HL2.out) fun z4 => ?_)
  refine wp_region_ext (by kernel_rfl) (by kernel_rfl) ?_
  repeat (go_big_quiet_step (fail))
  refine wpQuiet_nil ?_
  rintro _ ⟨z5, rfl⟩
  have HE5 := Lib.hid ((HE1.out.trans HE2.out).ext z4 |>.ext z5)
  generalize ext (ext W2 z4) z5 = W5 at *
  clear d0 d1 d2 d3 d4 d5 d6 e0 e1 e2 e3 e4 e5 e6 q0 q1 q2 q3 q4 q5 q6 p0 p1 p2 p3 p4 p5 p6 C1 C2 C8 HL1 HL2 HE1 HE2
  go_wp2_with fail
  refine Calls.ext (C3.out _) fun z6 => ?_
  go_wp2_with fail
  refine Calls.ext (C4.out _) fun z7 => ?_
  go_wp2_with fail
  refine Calls.ext (C5.out _) fun z8 => ?_
  go_wp2_with fail
  refine Calls.ext (C6.out _) fun z9 => ?_
  go_wp2_with (go_at_call 26; refine Calls.same (C7.out _) ?_)
  go_ret
  refine ⟨rfl, HE5.out.trans ?_⟩
  repeat' (first | with_reducible exact Ext.refl _ | with_reducible refine Ext.alloc ?_ _ | with_reducible refine Ext.ext ?_ _ | with_reducible refine Ext.setCell ?_ (by simp) _)
end Go.Proofs.Ytkhmjkhgmggjcaa
