/- The reference's explanation: the errors (26). -/
import Derived.Test.YtfdcapblgdlkaaaExplBad
import Derived.Test.YtfdcapblgdlkaaaRefPart
import Derived.Test.YtfdcapblgdlkaaaFar
namespace Go.Proofs.Ytfdcapblgdlkaaa
open Go.RowKit

set_option maxRecDepth 100000 in
theorem refBad_deal (d : Dl) (lim : Int) (x y q : BitVec 16) (sec : Bool) (hd : d.ok) (hk : d.okB = false) (w : World) : Calls Try.prog 26 #[d.val, .int .i64 lim, .int .u16 (uv x), .int .u16 (uv y), .int .u16 (uv q), .bool sec] w fun e w' => e = .returned (.tuple #[.agg Z78, .int .i64 60]) ∧ Ext w w' := by
  have C1 := fun w => validDeal_any d hd w
  rw [hk] at C1
  replace C1 := Lib.hid C1
  clear hk hd
  go_enter Try.func26, Try.ntmps26
  go_wp2_with (refine wpList_load_row rfl 42 (.tmp 6) rfl (w.heap.size) rfl 42 d.cells (0, 0) _ ((Blk.new w 42 d.cells).alloc _) Try.underlying42 rfl (info42 d) ?_)
  change Calls _ _ _ ((w.alloc (.cells d.cells 42)).alloc (.cells Z78 42)) _
  refine Calls.ext (C1.out _) fun z1 => ?_
  have H12 := Lib.hid ((Blk.new' (w.alloc (.cells d.cells 42)) 42 Z78 (w.heap.size + 1) (by simp)).ext z1)
  have HE := Lib.hid ((((Ext.refl w).alloc (.cells d.cells 42)).alloc (.cells Z78 42)).ext z1)
  generalize ext ((w.alloc (.cells d.cells 42)).alloc (.cells Z78 42)) z1 = W at *
  go_wp2_with (first | (refine wpList_build_row rfl 42 [] rfl [] rfl Z78 build42y ?_) | ((with_reducible refine pre_op (.store 42 (.tmp 12) (.tmp 26)) ?_); refine wpList_store_row rfl 42 (.tmp 12) (.tmp 26) rfl (w.heap.size + 1) rfl 42 Z78 Z78 rfl H12.out info42z rfl z78_one ?_))
  refine bodyPost_ret (results_cell_tmp rfl _ _ (w.heap.size + 1) 42 Z78 (0, 0) _ rfl (H12.out.row Z78) Try.underlying42 rfl info42z) rfl ⟨ret_of rfl, HE.out.row (by omega) Z78⟩
set_option maxRecDepth 100000 in
set_option maxHeartbeats 1000000 in
theorem refBad_arg (d : Dl) (lim : Int) (x y q : BitVec 16) (sec : Bool) (hd : d.ok) (hk : d.okB = true) (hf : ¬ ((0 ≤ lim ∧ lim ≤ 15) ∧ fitB 15 x = true ∧ fitB 15 y = true ∧ fitB 15 q = true)) (w : World) : Calls Try.prog 26 #[d.val, .int .i64 lim, .int .u16 (uv x), .int .u16 (uv y), .int .u16 (uv q), .bool sec] w fun e w' => e = .returned (.tuple #[.agg Z78, .int .i64 2]) ∧ Ext w w' := by
  have C1 := fun w => validDeal_any d hd w
  rw [hk] at C1
  replace C1 := Lib.hid C1
  have CI := fun w => within_any lim 0 15 w
  have F1 := fun w => fits_any 15 (by omega) x w
  have F2 := fun w => fits_any 15 (by omega) y w
  have F3 := fun w => fits_any 15 (by omega) q w
  clear hk hd
  cases h0 : inB lim 0 15
  · rw [h0] at CI
    replace CI := Lib.hid CI
    clear h0 hf F1 F2 F3
    go_enter Try.func26, Try.ntmps26
    go_wp2_with (refine wpList_load_row rfl 42 (.tmp 6) rfl (w.heap.size) rfl 42 d.cells (0, 0) _ ((Blk.new w 42 d.cells).alloc _) Try.underlying42 rfl (info42 d) ?_)
    change Calls _ _ _ ((w.alloc (.cells d.cells 42)).alloc (.cells Z78 42)) _
    refine Calls.ext (C1.out _) fun z1 => ?_
    have H12 := Lib.hid ((Blk.new' (w.alloc (.cells d.cells 42)) 42 Z78 (w.heap.size + 1) (by simp)).ext z1)
    have HE := Lib.hid ((((Ext.refl w).alloc (.cells d.cells 42)).alloc (.cells Z78 42)).ext z1)
    generalize ext ((w.alloc (.cells d.cells 42)).alloc (.cells Z78 42)) z1 = W at *
    go_wp2_with fail
    refine Calls.same (CI.out _) ?_
    go_wp2_with (first | (refine wpList_build_row rfl 42 [] rfl [] rfl Z78 build42y ?_) | ((with_reducible refine pre_op (.store 42 (.tmp 12) (.tmp 45)) ?_); refine wpList_store_row rfl 42 (.tmp 12) (.tmp 45) rfl (w.heap.size + 1) rfl 42 Z78 Z78 rfl H12.out info42z rfl z78_one ?_))
    refine bodyPost_ret (results_cell_tmp rfl _ _ (w.heap.size + 1) 42 Z78 (0, 0) _ rfl (H12.out.row Z78) Try.underlying42 rfl info42z) rfl ⟨ret_of rfl, HE.out.row (by omega) Z78⟩
  · rw [h0] at CI
    replace CI := Lib.hid CI
    have hl : 0 ≤ lim ∧ lim ≤ 15 := by simpa [inB] using h0
    clear h0
    cases h1 : fitB 15 x
    · rw [h1] at F1
      replace F1 := Lib.hid F1
      clear h1 hf F2 F3
      go_enter Try.func26, Try.ntmps26
      go_wp2_with (refine wpList_load_row rfl 42 (.tmp 6) rfl (w.heap.size) rfl 42 d.cells (0, 0) _ ((Blk.new w 42 d.cells).alloc _) Try.underlying42 rfl (info42 d) ?_)
      change Calls _ _ _ ((w.alloc (.cells d.cells 42)).alloc (.cells Z78 42)) _
      refine Calls.ext (C1.out _) fun z1 => ?_
      have H12 := Lib.hid ((Blk.new' (w.alloc (.cells d.cells 42)) 42 Z78 (w.heap.size + 1) (by simp)).ext z1)
      have HE := Lib.hid ((((Ext.refl w).alloc (.cells d.cells 42)).alloc (.cells Z78 42)).ext z1)
      generalize ext ((w.alloc (.cells d.cells 42)).alloc (.cells Z78 42)) z1 = W at *
      go_wp2_with fail
      refine Calls.same (CI.out _) ?_
      go_wp2_with fail
      refine Calls.same (F1.out _) ?_
      go_wp2_with (first | (refine wpList_build_row rfl 42 [] rfl [] rfl Z78 build42y ?_) | ((with_reducible refine pre_op (.store 42 (.tmp 12) (.tmp 45)) ?_); refine wpList_store_row rfl 42 (.tmp 12) (.tmp 45) rfl (w.heap.size + 1) rfl 42 Z78 Z78 rfl H12.out info42z rfl z78_one ?_))
      refine bodyPost_ret (results_cell_tmp rfl _ _ (w.heap.size + 1) 42 Z78 (0, 0) _ rfl (H12.out.row Z78) Try.underlying42 rfl info42z) rfl ⟨ret_of rfl, HE.out.row (by omega) Z78⟩
    · rw [h1] at F1
      replace F1 := Lib.hid F1
      cases h2 : fitB 15 y
      · rw [h2] at F2
        replace F2 := Lib.hid F2
        clear h1 h2 hf F3
        go_enter Try.func26, Try.ntmps26
        go_wp2_with (refine wpList_load_row rfl 42 (.tmp 6) rfl (w.heap.size) rfl 42 d.cells (0, 0) _ ((Blk.new w 42 d.cells).alloc _) Try.underlying42 rfl (info42 d) ?_)
        change Calls _ _ _ ((w.alloc (.cells d.cells 42)).alloc (.cells Z78 42)) _
        refine Calls.ext (C1.out _) fun z1 => ?_
        have H12 := Lib.hid ((Blk.new' (w.alloc (.cells d.cells 42)) 42 Z78 (w.heap.size + 1) (by simp)).ext z1)
        have HE := Lib.hid ((((Ext.refl w).alloc (.cells d.cells 42)).alloc (.cells Z78 42)).ext z1)
        generalize ext ((w.alloc (.cells d.cells 42)).alloc (.cells Z78 42)) z1 = W at *
        go_wp2_with fail
        refine Calls.same (CI.out _) ?_
        go_wp2_with fail
        refine Calls.same (F1.out _) ?_
        go_wp2_with fail
        refine Calls.same (F2.out _) ?_
        go_wp2_with (first | (refine wpList_build_row rfl 42 [] rfl [] rfl Z78 build42y ?_) | ((with_reducible refine pre_op (.store 42 (.tmp 12) (.tmp 45)) ?_); refine wpList_store_row rfl 42 (.tmp 12) (.tmp 45) rfl (w.heap.size + 1) rfl 42 Z78 Z78 rfl H12.out info42z rfl z78_one ?_))
        refine bodyPost_ret (results_cell_tmp rfl _ _ (w.heap.size + 1) 42 Z78 (0, 0) _ rfl (H12.out.row Z78) Try.underlying42 rfl info42z) rfl ⟨ret_of rfl, HE.out.row (by omega) Z78⟩
      · rw [h2] at F2
        replace F2 := Lib.hid F2
        have h3 : fitB 15 q = false := by
          cases h3 : fitB 15 q
          · rfl
          · exact absurd ⟨hl, h1, h2, h3⟩ hf
        rw [h3] at F3
        replace F3 := Lib.hid F3
        clear h1 h2 h3 hf
        go_enter Try.func26, Try.ntmps26
        go_wp2_with (refine wpList_load_row rfl 42 (.tmp 6) rfl (w.heap.size) rfl 42 d.cells (0, 0) _ ((Blk.new w 42 d.cells).alloc _) Try.underlying42 rfl (info42 d) ?_)
        change Calls _ _ _ ((w.alloc (.cells d.cells 42)).alloc (.cells Z78 42)) _
        refine Calls.ext (C1.out _) fun z1 => ?_
        have H12 := Lib.hid ((Blk.new' (w.alloc (.cells d.cells 42)) 42 Z78 (w.heap.size + 1) (by simp)).ext z1)
        have HE := Lib.hid ((((Ext.refl w).alloc (.cells d.cells 42)).alloc (.cells Z78 42)).ext z1)
        generalize ext ((w.alloc (.cells d.cells 42)).alloc (.cells Z78 42)) z1 = W at *
        go_wp2_with fail
        refine Calls.same (CI.out _) ?_
        go_wp2_with fail
        refine Calls.same (F1.out _) ?_
        go_wp2_with fail
        refine Calls.same (F2.out _) ?_
        go_wp2_with fail
        refine Calls.same (F3.out _) ?_
        go_wp2_with (first | (refine wpList_build_row rfl 42 [] rfl [] rfl Z78 build42y ?_) | ((with_reducible refine pre_op (.store 42 (.tmp 12) (.tmp 45)) ?_); refine wpList_store_row rfl 42 (.tmp 12) (.tmp 45) rfl (w.heap.size + 1) rfl 42 Z78 Z78 rfl H12.out info42z rfl z78_one ?_))
        refine bodyPost_ret (results_cell_tmp rfl _ _ (w.heap.size + 1) 42 Z78 (0, 0) _ rfl (H12.out.row Z78) Try.underlying42 rfl info42z) rfl ⟨ret_of rfl, HE.out.row (by omega) Z78⟩
set_option maxRecDepth 100000 in
set_option maxHeartbeats 1000000 in
theorem refBad_far (d : Dl) (lim : Int) (x y q : BitVec 16) (sec : Bool) (hd : d.ok) (hk : d.okB = true) (hl : 0 ≤ lim ∧ lim ≤ 15) (hx : fitB 15 x = true) (hy : fitB 15 y = true) (hq : fitB 15 q = true) (p : Bool) (h1 : decide (far16 x y ≤ lim) = p) (h2 : decide (far16 (if sec then q else x) (if sec then y else q) ≤ lim) = !p) (w : World) : Calls Try.prog 26 #[d.val, .int .i64 lim, .int .u16 (uv x), .int .u16 (uv y), .int .u16 (uv q), .bool sec] w fun e w' => e = .returned (.tuple #[.agg Z78, .int .i64 2]) ∧ Ext w w' := by
  have C1 := fun w => validDeal_any d hd w
  rw [hk] at C1
  replace C1 := Lib.hid C1
  have CI := fun w => within_any lim 0 15 w
  rw [show inB lim 0 15 = true by simp [inB]; omega] at CI
  replace CI := Lib.hid CI
  have F1 := Lib.hid (fun w => hx ▸ fits_any 15 (by omega) x w)
  have F2 := Lib.hid (fun w => hy ▸ fits_any 15 (by omega) y w)
  have F3 := Lib.hid (fun w => hq ▸ fits_any 15 (by omega) q w)
  have G1 := fun w => Far_any x y w
  generalize far16 x y = f1 at *
  replace G1 := Lib.hid G1
  clear hk hd hl hx hy hq
  cases sec
  · have G2 := fun w => Far_any x q w
    replace h2 : decide (far16 x q ≤ lim) = !p := h2
    generalize far16 x q = f2 at *
    replace G2 := Lib.hid G2
    cases p
    · replace h2 : decide (f2 ≤ lim) = true := h2
      go_enter Try.func26, Try.ntmps26
      go_wp2_with (refine wpList_load_row rfl 42 (.tmp 6) rfl (w.heap.size) rfl 42 d.cells (0, 0) _ ((Blk.new w 42 d.cells).alloc _) Try.underlying42 rfl (info42 d) ?_)
      change Calls _ _ _ ((w.alloc (.cells d.cells 42)).alloc (.cells Z78 42)) _
      refine Calls.ext (C1.out _) fun z1 => ?_
      have H12 := Lib.hid ((Blk.new' (w.alloc (.cells d.cells 42)) 42 Z78 (w.heap.size + 1) (by simp)).ext z1)
      have HE := Lib.hid ((((Ext.refl w).alloc (.cells d.cells 42)).alloc (.cells Z78 42)).ext z1)
      generalize ext ((w.alloc (.cells d.cells 42)).alloc (.cells Z78 42)) z1 = W at *
      go_wp2_with fail
      refine Calls.same (CI.out _) ?_
      go_wp2_with fail
      refine Calls.same (F1.out _) ?_
      go_wp2_with fail
      refine Calls.same (F2.out _) ?_
      go_wp2_with fail
      refine Calls.same (F3.out _) ?_
      go_wp2_with fail
      refine Calls.same (G1.out _) ?_
      go_wp2_with fail
      refine Calls.same (G2.out _) ?_
      go_wp2_with (first | (refine wpList_build_row rfl 42 [] rfl [] rfl Z78 build42y ?_) | ((with_reducible refine pre_op (.store 42 (.tmp 12) (.tmp 62)) ?_); refine wpList_store_row rfl 42 (.tmp 12) (.tmp 62) rfl (w.heap.size + 1) rfl 42 Z78 Z78 rfl H12.out info42z rfl z78_one ?_))
      refine bodyPost_ret (results_cell_tmp rfl _ _ (w.heap.size + 1) 42 Z78 (0, 0) _ rfl (H12.out.row Z78) Try.underlying42 rfl info42z) rfl ⟨ret_of rfl, HE.out.row (by omega) Z78⟩
    · replace h2 : decide (f2 ≤ lim) = false := h2
      go_enter Try.func26, Try.ntmps26
      go_wp2_with (refine wpList_load_row rfl 42 (.tmp 6) rfl (w.heap.size) rfl 42 d.cells (0, 0) _ ((Blk.new w 42 d.cells).alloc _) Try.underlying42 rfl (info42 d) ?_)
      change Calls _ _ _ ((w.alloc (.cells d.cells 42)).alloc (.cells Z78 42)) _
      refine Calls.ext (C1.out _) fun z1 => ?_
      have H12 := Lib.hid ((Blk.new' (w.alloc (.cells d.cells 42)) 42 Z78 (w.heap.size + 1) (by simp)).ext z1)
      have HE := Lib.hid ((((Ext.refl w).alloc (.cells d.cells 42)).alloc (.cells Z78 42)).ext z1)
      generalize ext ((w.alloc (.cells d.cells 42)).alloc (.cells Z78 42)) z1 = W at *
      go_wp2_with fail
      refine Calls.same (CI.out _) ?_
      go_wp2_with fail
      refine Calls.same (F1.out _) ?_
      go_wp2_with fail
      refine Calls.same (F2.out _) ?_
      go_wp2_with fail
      refine Calls.same (F3.out _) ?_
      go_wp2_with fail
      refine Calls.same (G1.out _) ?_
      go_wp2_with fail
      refine Calls.same (G2.out _) ?_
      go_wp2_with (first | (refine wpList_build_row rfl 42 [] rfl [] rfl Z78 build42y ?_) | ((with_reducible refine pre_op (.store 42 (.tmp 12) (.tmp 62)) ?_); refine wpList_store_row rfl 42 (.tmp 12) (.tmp 62) rfl (w.heap.size + 1) rfl 42 Z78 Z78 rfl H12.out info42z rfl z78_one ?_))
      refine bodyPost_ret (results_cell_tmp rfl _ _ (w.heap.size + 1) 42 Z78 (0, 0) _ rfl (H12.out.row Z78) Try.underlying42 rfl info42z) rfl ⟨ret_of rfl, HE.out.row (by omega) Z78⟩
  · have G2 := fun w => Far_any q y w
    replace h2 : decide (far16 q y ≤ lim) = !p := h2
    generalize far16 q y = f2 at *
    replace G2 := Lib.hid G2
    cases p
    · replace h2 : decide (f2 ≤ lim) = true := h2
      go_enter Try.func26, Try.ntmps26
      go_wp2_with (refine wpList_load_row rfl 42 (.tmp 6) rfl (w.heap.size) rfl 42 d.cells (0, 0) _ ((Blk.new w 42 d.cells).alloc _) Try.underlying42 rfl (info42 d) ?_)
      change Calls _ _ _ ((w.alloc (.cells d.cells 42)).alloc (.cells Z78 42)) _
      refine Calls.ext (C1.out _) fun z1 => ?_
      have H12 := Lib.hid ((Blk.new' (w.alloc (.cells d.cells 42)) 42 Z78 (w.heap.size + 1) (by simp)).ext z1)
      have HE := Lib.hid ((((Ext.refl w).alloc (.cells d.cells 42)).alloc (.cells Z78 42)).ext z1)
      generalize ext ((w.alloc (.cells d.cells 42)).alloc (.cells Z78 42)) z1 = W at *
      go_wp2_with fail
      refine Calls.same (CI.out _) ?_
      go_wp2_with fail
      refine Calls.same (F1.out _) ?_
      go_wp2_with fail
      refine Calls.same (F2.out _) ?_
      go_wp2_with fail
      refine Calls.same (F3.out _) ?_
      go_wp2_with fail
      refine Calls.same (G1.out _) ?_
      go_wp2_with fail
      refine Calls.same (G2.out _) ?_
      go_wp2_with (first | (refine wpList_build_row rfl 42 [] rfl [] rfl Z78 build42y ?_) | ((with_reducible refine pre_op (.store 42 (.tmp 12) (.tmp 62)) ?_); refine wpList_store_row rfl 42 (.tmp 12) (.tmp 62) rfl (w.heap.size + 1) rfl 42 Z78 Z78 rfl H12.out info42z rfl z78_one ?_))
      refine bodyPost_ret (results_cell_tmp rfl _ _ (w.heap.size + 1) 42 Z78 (0, 0) _ rfl (H12.out.row Z78) Try.underlying42 rfl info42z) rfl ⟨ret_of rfl, HE.out.row (by omega) Z78⟩
    · replace h2 : decide (f2 ≤ lim) = false := h2
      go_enter Try.func26, Try.ntmps26
      go_wp2_with (refine wpList_load_row rfl 42 (.tmp 6) rfl (w.heap.size) rfl 42 d.cells (0, 0) _ ((Blk.new w 42 d.cells).alloc _) Try.underlying42 rfl (info42 d) ?_)
      change Calls _ _ _ ((w.alloc (.cells d.cells 42)).alloc (.cells Z78 42)) _
      refine Calls.ext (C1.out _) fun z1 => ?_
      have H12 := Lib.hid ((Blk.new' (w.alloc (.cells d.cells 42)) 42 Z78 (w.heap.size + 1) (by simp)).ext z1)
      have HE := Lib.hid ((((Ext.refl w).alloc (.cells d.cells 42)).alloc (.cells Z78 42)).ext z1)
      generalize ext ((w.alloc (.cells d.cells 42)).alloc (.cells Z78 42)) z1 = W at *
      go_wp2_with fail
      refine Calls.same (CI.out _) ?_
      go_wp2_with fail
      refine Calls.same (F1.out _) ?_
      go_wp2_with fail
      refine Calls.same (F2.out _) ?_
      go_wp2_with fail
      refine Calls.same (F3.out _) ?_
      go_wp2_with fail
      refine Calls.same (G1.out _) ?_
      go_wp2_with fail
      refine Calls.same (G2.out _) ?_
      go_wp2_with (first | (refine wpList_build_row rfl 42 [] rfl [] rfl Z78 build42y ?_) | ((with_reducible refine pre_op (.store 42 (.tmp 12) (.tmp 62)) ?_); refine wpList_store_row rfl 42 (.tmp 12) (.tmp 62) rfl (w.heap.size + 1) rfl 42 Z78 Z78 rfl H12.out info42z rfl z78_one ?_))
      refine bodyPost_ret (results_cell_tmp rfl _ _ (w.heap.size + 1) 42 Z78 (0, 0) _ rfl (H12.out.row Z78) Try.underlying42 rfl info42z) rfl ⟨ret_of rfl, HE.out.row (by omega) Z78⟩
end Go.Proofs.Ytfdcapblgdlkaaa
