/- VeilBlind: the branches where a guard refuses, and those with another decision. -/
import Derived.Test.YtfdcapblgdlkaaaFar
import Derived.Test.YtfdcapblgdlkaaaAllo
import Derived.Test.YtfdcapblgdlkaaaExplA
import Derived.Test.YtfdcapblgdlkaaaExplB
namespace Go.Proofs.Ytfdcapblgdlkaaa
open Go.RowKit

set_option maxRecDepth 100000 in
set_option maxHeartbeats 8000000 in
theorem blind_bad (d : Dl) (lim : Int) (x y q : BitVec 16) (sec : Bool) (hd : d.ok) (hbad : ¬ (d.okB = true ∧ 0 ≤ lim ∧ lim ≤ 15 ∧ fitB 15 x = true ∧ fitB 15 y = true ∧ fitB 15 q = true)) (w : World) : Calls Try.prog 15 #[d.val, .int .i64 lim, .int .u16 (uv x), .int .u16 (uv y), .int .u16 (uv q), .bool sec] w fun e w' => e = .returned (.bool true) ∧ Ext w w' := by
  have CV := fun w => validDeal_any d hd w
  cases hk : d.okB
  · rw [hk] at CV
    replace CV := Lib.hid CV
    clear hk hbad hd
    go_enter Try.func15, Try.ntmps15
    go_wp2_with fail
    refine Calls.ext (alive_any _) fun z0 => ?_
    have HB := Lib.hid ((Blk.new w 42 d.cells).ext z0)
    have HE := Lib.hid (((Ext.refl w).alloc (.cells d.cells 42)).ext z0)
    generalize ext (w.alloc (.cells d.cells 42)) z0 = V0 at *
    go_wp2_with (refine wpList_load_row rfl 42 (.tmp 6) rfl w.heap.size rfl 42 d.cells (0, 0) _ HB.out Try.underlying42 rfl (info42 d) ?_)
    refine Calls.ext (CV.out _) fun z1 => ?_
    go_wp2_with fail
    go_ret
    exact ⟨rfl, HE.out.ext z1⟩
  rw [hk] at CV
  replace CV := Lib.hid CV
  by_cases h0 : lim < 0
  · have b0 : decide (lim < 0) = true := by simpa using h0
    clear hk hbad hd
    go_enter Try.func15, Try.ntmps15
    go_wp2_with fail
    refine Calls.ext (alive_any _) fun z0 => ?_
    have HB := Lib.hid ((Blk.new w 42 d.cells).ext z0)
    have HE := Lib.hid (((Ext.refl w).alloc (.cells d.cells 42)).ext z0)
    generalize ext (w.alloc (.cells d.cells 42)) z0 = V0 at *
    go_wp2_with (refine wpList_load_row rfl 42 (.tmp 6) rfl w.heap.size rfl 42 d.cells (0, 0) _ HB.out Try.underlying42 rfl (info42 d) ?_)
    refine Calls.ext (CV.out _) fun z1 => ?_
    go_wp2_with fail
    go_ret
    exact ⟨rfl, HE.out.ext z1⟩
  have b0 : decide (lim < 0) = false := by simpa using h0
  by_cases h1 : 15 < lim
  · have b1 : decide (15 < lim) = true := by simpa using h1
    clear hk hbad hd
    go_enter Try.func15, Try.ntmps15
    go_wp2_with fail
    refine Calls.ext (alive_any _) fun z0 => ?_
    have HB := Lib.hid ((Blk.new w 42 d.cells).ext z0)
    have HE := Lib.hid (((Ext.refl w).alloc (.cells d.cells 42)).ext z0)
    generalize ext (w.alloc (.cells d.cells 42)) z0 = V0 at *
    go_wp2_with (refine wpList_load_row rfl 42 (.tmp 6) rfl w.heap.size rfl 42 d.cells (0, 0) _ HB.out Try.underlying42 rfl (info42 d) ?_)
    refine Calls.ext (CV.out _) fun z1 => ?_
    go_wp2_with fail
    go_ret
    exact ⟨rfl, HE.out.ext z1⟩
  have b1 : decide (15 < lim) = false := by simpa using h1
  have F0 := fun w => fits_any 15 (by omega) x w
  cases hf0 : fitB 15 x
  · rw [hf0] at F0
    replace F0 := Lib.hid F0
    clear hf0 hk hbad hd
    go_enter Try.func15, Try.ntmps15
    go_wp2_with fail
    refine Calls.ext (alive_any _) fun z0 => ?_
    have HB := Lib.hid ((Blk.new w 42 d.cells).ext z0)
    have HE := Lib.hid (((Ext.refl w).alloc (.cells d.cells 42)).ext z0)
    generalize ext (w.alloc (.cells d.cells 42)) z0 = V0 at *
    go_wp2_with (refine wpList_load_row rfl 42 (.tmp 6) rfl w.heap.size rfl 42 d.cells (0, 0) _ HB.out Try.underlying42 rfl (info42 d) ?_)
    refine Calls.ext (CV.out _) fun z1 => ?_
    go_wp2_with fail
    refine Calls.same (F0.out _) ?_
    go_wp2_with fail
    go_ret
    exact ⟨rfl, HE.out.ext z1⟩
  rw [hf0] at F0
  replace F0 := Lib.hid F0
  have F1 := fun w => fits_any 15 (by omega) y w
  cases hf1 : fitB 15 y
  · rw [hf1] at F1
    replace F1 := Lib.hid F1
    clear hf0 hf1 hk hbad hd
    go_enter Try.func15, Try.ntmps15
    go_wp2_with fail
    refine Calls.ext (alive_any _) fun z0 => ?_
    have HB := Lib.hid ((Blk.new w 42 d.cells).ext z0)
    have HE := Lib.hid (((Ext.refl w).alloc (.cells d.cells 42)).ext z0)
    generalize ext (w.alloc (.cells d.cells 42)) z0 = V0 at *
    go_wp2_with (refine wpList_load_row rfl 42 (.tmp 6) rfl w.heap.size rfl 42 d.cells (0, 0) _ HB.out Try.underlying42 rfl (info42 d) ?_)
    refine Calls.ext (CV.out _) fun z1 => ?_
    go_wp2_with fail
    refine Calls.same (F0.out _) ?_
    go_wp2_with fail
    refine Calls.same (F1.out _) ?_
    go_wp2_with fail
    go_ret
    exact ⟨rfl, HE.out.ext z1⟩
  rw [hf1] at F1
  replace F1 := Lib.hid F1
  have F2 := fun w => fits_any 15 (by omega) q w
  cases hf2 : fitB 15 q
  · rw [hf2] at F2
    replace F2 := Lib.hid F2
    clear hf0 hf1 hf2 hk hbad hd
    go_enter Try.func15, Try.ntmps15
    go_wp2_with fail
    refine Calls.ext (alive_any _) fun z0 => ?_
    have HB := Lib.hid ((Blk.new w 42 d.cells).ext z0)
    have HE := Lib.hid (((Ext.refl w).alloc (.cells d.cells 42)).ext z0)
    generalize ext (w.alloc (.cells d.cells 42)) z0 = V0 at *
    go_wp2_with (refine wpList_load_row rfl 42 (.tmp 6) rfl w.heap.size rfl 42 d.cells (0, 0) _ HB.out Try.underlying42 rfl (info42 d) ?_)
    refine Calls.ext (CV.out _) fun z1 => ?_
    go_wp2_with fail
    refine Calls.same (F0.out _) ?_
    go_wp2_with fail
    refine Calls.same (F1.out _) ?_
    go_wp2_with fail
    refine Calls.same (F2.out _) ?_
    go_wp2_with fail
    go_ret
    exact ⟨rfl, HE.out.ext z1⟩
  rw [hf2] at F2
  replace F2 := Lib.hid F2
  exact absurd ⟨hk, by omega, by omega, hf0, hf1, hf2⟩ hbad
def zeroD : Dl := ⟨fun _ => 0, fun _ => 0, fun _ => 0, 0, 0, fun _ => 0⟩
theorem zeroD_cells : zeroD.cells = Z78 := by kernel_rfl
set_option maxRecDepth 100000 in
set_option maxHeartbeats 8000000 in
theorem blindA_else (d : Dl) (lim : Int) (x y q : BitVec 16) (hd : d.fine) (hl : 0 ≤ lim ∧ lim ≤ 15) (hx : fitB 15 x = true) (hy : fitB 15 y = true) (hq : fitB 15 q = true) (f : Bool) (b1 : decide (farS x y ≤ lim) = f) (b2 : decide (farS q y ≤ lim) = !f) (w : World) : Calls Try.prog 15 #[d.val, .int .i64 lim, .int .u16 (uv x), .int .u16 (uv y), .int .u16 (uv q), .bool true] w fun e w' => e = .returned (.bool true) ∧ Ext w w' := by
  have CV := fun w => validDeal_any d hd.ok w
  rw [hd.okB] at CV
  replace CV := Lib.hid CV
  have c0 : decide (lim < 0) = false := by simp; omega
  have c1 : decide (15 < lim) = false := by simp; omega
  have FX := fun w => fits_any 15 (by omega) x w
  have FY := fun w => fits_any 15 (by omega) y w
  have FQ := fun w => fits_any 15 (by omega) q w
  rw [hx] at FX
  rw [hy] at FY
  rw [hq] at FQ
  replace FX := Lib.hid FX
  replace FY := Lib.hid FY
  replace FQ := Lib.hid FQ
  have CX := fun w => explA_any d lim x y q hd hl hx hy hq false (by rw [b1, b2]; cases f <;> rfl) w
  rw [explV_f, ← zeroD_cells] at CX
  have CF := fun w => Far_any x y w
  have CG := fun w => Far_any q y w
  rw [far_15 hx hy] at CF
  rw [far_15 hq hy] at CG
  replace CX := Lib.hid CX
  replace CF := Lib.hid CF
  replace CG := Lib.hid CG
  clear hx hy hq hl hd
  generalize farS x y = f1 at *
  generalize farS q y = f2 at *
  cases f
  all_goals
    go_enter Try.func15, Try.ntmps15
    go_wp2_with fail
    refine Calls.ext (alive_any _) fun z0 => ?_
    have HB := Lib.hid ((Blk.new w 42 d.cells).ext z0)
    have HE := Lib.hid (((Ext.refl w).alloc (.cells d.cells 42)).ext z0)
    generalize ext (w.alloc (.cells d.cells 42)) z0 = V0 at *
    go_wp2_with (refine wpList_load_row rfl 42 (.tmp 6) rfl w.heap.size rfl 42 d.cells (0, 0) _ HB.out Try.underlying42 rfl (info42 d) ?_)
    refine Calls.ext (CV.out _) fun z1 => ?_
    go_wp2_with fail
    refine Calls.same (FX.out _) ?_
    go_wp2_with fail
    refine Calls.same (FY.out _) ?_
    go_wp2_with fail
    refine Calls.same (FQ.out _) ?_
    go_wp2_with (refine wpList_load_row rfl 42 (.tmp 6) rfl (w.heap.size) rfl 42 d.cells (0, 0) _ (HB.out.ext z1) Try.underlying42 rfl (info42 _) ?_)
    refine Calls.ext (CX.out _) fun z2 => ?_
    go_wp2_with (first | (with_reducible refine wpList_deal 16 71 zeroD 260 ?_ ?_; exact ⟨rfl, rfl, rfl, rfl, rfl, rfl, rfl, rfl, rfl⟩; intro bn1 V1 hn1 hE1 Nd1; have HE1 := Lib.hid (((HE.out.ext z1).ext z2).trans hE1)))
    refine Calls.same (CF.out _) ?_
    go_wp2_with fail
    refine Calls.same (CG.out _) ?_
    go_wp2_with fail
    go_ret
    exact ⟨rfl, HE1.out⟩
set_option maxRecDepth 100000 in
set_option maxHeartbeats 8000000 in
theorem blindB_else (d : Dl) (lim : Int) (x y q : BitVec 16) (hd : d.fine) (hl : 0 ≤ lim ∧ lim ≤ 15) (hx : fitB 15 x = true) (hy : fitB 15 y = true) (hq : fitB 15 q = true) (f : Bool) (b1 : decide (farS x y ≤ lim) = f) (b2 : decide (farS x q ≤ lim) = !f) (w : World) : Calls Try.prog 15 #[d.val, .int .i64 lim, .int .u16 (uv x), .int .u16 (uv y), .int .u16 (uv q), .bool false] w fun e w' => e = .returned (.bool true) ∧ Ext w w' := by
  have CV := fun w => validDeal_any d hd.ok w
  rw [hd.okB] at CV
  replace CV := Lib.hid CV
  have c0 : decide (lim < 0) = false := by simp; omega
  have c1 : decide (15 < lim) = false := by simp; omega
  have FX := fun w => fits_any 15 (by omega) x w
  have FY := fun w => fits_any 15 (by omega) y w
  have FQ := fun w => fits_any 15 (by omega) q w
  rw [hx] at FX
  rw [hy] at FY
  rw [hq] at FQ
  replace FX := Lib.hid FX
  replace FY := Lib.hid FY
  replace FQ := Lib.hid FQ
  have CX := fun w => explB_any d lim x y q hd hl hx hy hq false (by rw [b1, b2]; cases f <;> rfl) w
  rw [explV_f, ← zeroD_cells] at CX
  have CF := fun w => Far_any x y w
  have CG := fun w => Far_any x q w
  rw [far_15 hx hy] at CF
  rw [far_15 hx hq] at CG
  replace CX := Lib.hid CX
  replace CF := Lib.hid CF
  replace CG := Lib.hid CG
  clear hx hy hq hl hd
  generalize farS x y = f1 at *
  generalize farS x q = f2 at *
  cases f
  all_goals
    go_enter Try.func15, Try.ntmps15
    go_wp2_with fail
    refine Calls.ext (alive_any _) fun z0 => ?_
    have HB := Lib.hid ((Blk.new w 42 d.cells).ext z0)
    have HE := Lib.hid (((Ext.refl w).alloc (.cells d.cells 42)).ext z0)
    generalize ext (w.alloc (.cells d.cells 42)) z0 = V0 at *
    go_wp2_with (refine wpList_load_row rfl 42 (.tmp 6) rfl w.heap.size rfl 42 d.cells (0, 0) _ HB.out Try.underlying42 rfl (info42 d) ?_)
    refine Calls.ext (CV.out _) fun z1 => ?_
    go_wp2_with fail
    refine Calls.same (FX.out _) ?_
    go_wp2_with fail
    refine Calls.same (FY.out _) ?_
    go_wp2_with fail
    refine Calls.same (FQ.out _) ?_
    go_wp2_with (refine wpList_load_row rfl 42 (.tmp 6) rfl (w.heap.size) rfl 42 d.cells (0, 0) _ (HB.out.ext z1) Try.underlying42 rfl (info42 _) ?_)
    refine Calls.ext (CX.out _) fun z2 => ?_
    go_wp2_with (first | (with_reducible refine wpList_deal 16 71 zeroD 260 ?_ ?_; exact ⟨rfl, rfl, rfl, rfl, rfl, rfl, rfl, rfl, rfl⟩; intro bn1 V1 hn1 hE1 Nd1; have HE1 := Lib.hid (((HE.out.ext z1).ext z2).trans hE1)))
    refine Calls.same (CF.out _) ?_
    go_wp2_with fail
    refine Calls.same (CG.out _) ?_
    go_wp2_with fail
    go_ret
    exact ⟨rfl, HE1.out⟩
end Go.Proofs.Ytfdcapblgdlkaaa
