/- VeilUniform: the branches where a guard refuses. -/
import Derived.Test.YtfdcapblgdlkaaaFar
import Derived.Test.YtfdcapblgdlkaaaAllo
namespace Go.Proofs.Ytfdcapblgdlkaaa
open Go.RowKit

set_option maxRecDepth 100000 in
set_option maxHeartbeats 8000000 in
theorem uni_bad (d : Dl) (lim : Int) (x y : BitVec 16) (s : Nat → Int) (z : Int) (sec : Bool) (hd : d.ok) (hbad : ¬ (d.okB = true ∧ 0 ≤ lim ∧ lim ≤ 15 ∧ fitB 15 x = true ∧ fitB 15 y = true)) (w : World) : Calls Try.prog 11 #[d.val, .int .i64 lim, .int .u16 (uv x), .int .u16 (uv y), .agg (A15 s), .int .u8 z, .bool sec] w fun e w' => e = .returned (.bool true) ∧ Ext w w' := by
  have CV := fun w => validDeal_any d hd w
  cases hk : d.okB
  · rw [hk] at CV
    replace CV := Lib.hid CV
    clear hk hbad hd
    go_enter Try.func11, Try.ntmps11
    go_wp2_with fail
    refine Calls.ext (alive_any _) fun z0 => ?_
    have HB := Lib.hid (((Blk.new w 42 d.cells).alloc (.cells (A15 s) 22)).ext z0)
    have HE := Lib.hid ((((Ext.refl w).alloc (.cells d.cells 42)).alloc (.cells (A15 s) 22)).ext z0)
    generalize ext ((w.alloc (.cells d.cells 42)).alloc (.cells (A15 s) 22)) z0 = V0 at *
    go_wp2_with (refine wpList_load_row rfl 42 (.tmp 7) rfl w.heap.size rfl 42 d.cells (0, 0) _ HB.out Try.underlying42 rfl (info42 d) ?_)
    refine Calls.ext (CV.out _) fun z1 => ?_
    go_wp2_with fail
    go_ret
    exact ⟨rfl, HE.out.ext z1⟩
  rw [hk] at CV
  replace CV := Lib.hid CV
  by_cases h0 : lim < 0
  · have b0 : decide (lim < 0) = true := by simpa using h0
    clear hk hbad hd
    go_enter Try.func11, Try.ntmps11
    go_wp2_with fail
    refine Calls.ext (alive_any _) fun z0 => ?_
    have HB := Lib.hid (((Blk.new w 42 d.cells).alloc (.cells (A15 s) 22)).ext z0)
    have HE := Lib.hid ((((Ext.refl w).alloc (.cells d.cells 42)).alloc (.cells (A15 s) 22)).ext z0)
    generalize ext ((w.alloc (.cells d.cells 42)).alloc (.cells (A15 s) 22)) z0 = V0 at *
    go_wp2_with (refine wpList_load_row rfl 42 (.tmp 7) rfl w.heap.size rfl 42 d.cells (0, 0) _ HB.out Try.underlying42 rfl (info42 d) ?_)
    refine Calls.ext (CV.out _) fun z1 => ?_
    go_wp2_with fail
    go_ret
    exact ⟨rfl, HE.out.ext z1⟩
  have b0 : decide (lim < 0) = false := by simpa using h0
  by_cases h1 : 15 < lim
  · have b1 : decide (15 < lim) = true := by simpa using h1
    clear hk hbad hd
    go_enter Try.func11, Try.ntmps11
    go_wp2_with fail
    refine Calls.ext (alive_any _) fun z0 => ?_
    have HB := Lib.hid (((Blk.new w 42 d.cells).alloc (.cells (A15 s) 22)).ext z0)
    have HE := Lib.hid ((((Ext.refl w).alloc (.cells d.cells 42)).alloc (.cells (A15 s) 22)).ext z0)
    generalize ext ((w.alloc (.cells d.cells 42)).alloc (.cells (A15 s) 22)) z0 = V0 at *
    go_wp2_with (refine wpList_load_row rfl 42 (.tmp 7) rfl w.heap.size rfl 42 d.cells (0, 0) _ HB.out Try.underlying42 rfl (info42 d) ?_)
    refine Calls.ext (CV.out _) fun z1 => ?_
    go_wp2_with fail
    go_ret
    exact ⟨rfl, HE.out.ext z1⟩
  have b1 : decide (15 < lim) = false := by simpa using h1
  have F0 := fun w => fits_any 15 (by omega) x w
  cases hf0 : fitB 15 x
  · rw [hf0] at F0
    replace F0 := Lib.hid F0
    clear hf0 hk hbad hd
    go_enter Try.func11, Try.ntmps11
    go_wp2_with fail
    refine Calls.ext (alive_any _) fun z0 => ?_
    have HB := Lib.hid (((Blk.new w 42 d.cells).alloc (.cells (A15 s) 22)).ext z0)
    have HE := Lib.hid ((((Ext.refl w).alloc (.cells d.cells 42)).alloc (.cells (A15 s) 22)).ext z0)
    generalize ext ((w.alloc (.cells d.cells 42)).alloc (.cells (A15 s) 22)) z0 = V0 at *
    go_wp2_with (refine wpList_load_row rfl 42 (.tmp 7) rfl w.heap.size rfl 42 d.cells (0, 0) _ HB.out Try.underlying42 rfl (info42 d) ?_)
    refine Calls.ext (CV.out _) fun z1 => ?_
    go_wp2_with fail
    refine Calls.same (F0.out _) ?_
    go_wp2_with fail
    go_ret
    exact ⟨rfl, HE.out.ext z1⟩
  rw [hf0] at F0
  replace F0 := Lib.hid F0
  have F1 := fun w => fits_any 15 (by omega) y w
  cases hf1 : fitB 15 y
  · rw [hf1] at F1
    replace F1 := Lib.hid F1
    clear hf0 hf1 hk hbad hd
    go_enter Try.func11, Try.ntmps11
    go_wp2_with fail
    refine Calls.ext (alive_any _) fun z0 => ?_
    have HB := Lib.hid (((Blk.new w 42 d.cells).alloc (.cells (A15 s) 22)).ext z0)
    have HE := Lib.hid ((((Ext.refl w).alloc (.cells d.cells 42)).alloc (.cells (A15 s) 22)).ext z0)
    generalize ext ((w.alloc (.cells d.cells 42)).alloc (.cells (A15 s) 22)) z0 = V0 at *
    go_wp2_with (refine wpList_load_row rfl 42 (.tmp 7) rfl w.heap.size rfl 42 d.cells (0, 0) _ HB.out Try.underlying42 rfl (info42 d) ?_)
    refine Calls.ext (CV.out _) fun z1 => ?_
    go_wp2_with fail
    refine Calls.same (F0.out _) ?_
    go_wp2_with fail
    refine Calls.same (F1.out _) ?_
    go_wp2_with fail
    go_ret
    exact ⟨rfl, HE.out.ext z1⟩
  rw [hf1] at F1
  replace F1 := Lib.hid F1
  exact absurd ⟨hk, by omega, by omega, hf0, hf1⟩ hbad
end Go.Proofs.Ytfdcapblgdlkaaa
