/- The program's explanation: the errors (25). -/
import Derived.Test.YtfdcapblgdlkaaaAllo
import Derived.Test.YtfdcapblgdlkaaaDealing
namespace Go.Proofs.Ytfdcapblgdlkaaa
open Go.RowKit

set_option maxRecDepth 100000 in
set_option maxHeartbeats 1000000 in
theorem explBad_par (d : Dl) (lim : Int) (x y q : BitVec 16) (sec : Bool) (hd : d.ok) (he : parErr d lim ≠ 0) (w : World) : Calls Try.prog 25 #[d.val, .int .i64 lim, .int .u16 (uv x), .int .u16 (uv y), .int .u16 (uv q), .bool sec] w fun e w' => e = .returned (.tuple #[.agg Z78, .int .i64 (parErr d lim)]) ∧ Ext w w' := by
  have C1 := fun w => Parties_any d lim hd w
  have hP : parP d lim = Z62 := by unfold parP; rw [if_neg he]
  have hQ : parQ d lim = Z62 := by unfold parQ; rw [if_neg he]
  rw [hP, hQ] at C1
  have hne : (parErr d lim != 0) = true := by simpa using he
  generalize parErr d lim = er at *
  replace C1 := Lib.hid C1
  clear hP hQ he hd
  go_enter Try.func25, Try.ntmps25
  go_wp2_with (refine wpList_load_row rfl 42 (.tmp 6) rfl (w.heap.size) rfl 42 d.cells (0, 0) _ ((Blk.new w 42 d.cells).alloc _) Try.underlying42 rfl (info42 d) ?_)
  change Calls _ _ _ ((w.alloc (.cells d.cells 42)).alloc (.cells Z78 42)) _
  refine Calls.ext (C1.out _) fun z1 => ?_
  have H12 := Lib.hid ((Blk.new' (w.alloc (.cells d.cells 42)) 42 Z78 (w.heap.size + 1) (by simp)).ext z1)
  have HE := Lib.hid ((((Ext.refl w).alloc (.cells d.cells 42)).alloc (.cells Z78 42)).ext z1)
  generalize ext ((w.alloc (.cells d.cells 42)).alloc (.cells Z78 42)) z1 = W at *
  have hlt := H12.out.lt
  have P1 := Lib.hid ((Blk.new W 26 Z62).alloc (.cells Z62 26))
  have P2 := Lib.hid ((Blk.new' (W.alloc (.cells Z62 26)) 26 Z62 (W.heap.size + 1) (by simp)).rowFar (k := W.heap.size) (by omega) Z62)
  have K12 := Lib.hid ((((H12.out.alloc (.cells Z62 26)).alloc (.cells Z62 26)).rowFar (k := W.heap.size) (by omega) Z62).rowFar (k := W.heap.size + 1) (by omega) Z62)
  have KE := Lib.hid ((((HE.out.alloc (.cells Z62 26)).alloc (.cells Z62 26)).row (g := W.heap.size) (by omega) Z62).row (g := W.heap.size + 1) (by omega) Z62)
  go_wp2_with (first | ((with_reducible refine pre_op (.store 26 (.tmp 14) (.tmp 27)) ?_); refine wpList_store_row rfl 26 (.tmp 14) (.tmp 27) rfl W.heap.size rfl 26 Z62 Z62 rfl P1.out info26z rfl z62_one ?_) | ((with_reducible refine pre_op (.store 26 (.tmp 15) (.tmp 28)) ?_); refine wpList_store_row rfl 26 (.tmp 15) (.tmp 28) rfl (W.heap.size + 1) rfl 26 Z62 Z62 rfl P2.out info26z rfl z62_one ?_) | (refine wpList_build_row rfl 42 [] rfl [] rfl Z78 build42y ?_) | ((with_reducible refine pre_op (.store 42 (.tmp 12) (.tmp 32)) ?_); refine wpList_store_row rfl 42 (.tmp 12) (.tmp 32) rfl (w.heap.size + 1) rfl 42 Z78 Z78 rfl K12.out info42z rfl z78_one ?_))
  refine bodyPost_ret (results_cell_tmp rfl _ _ (w.heap.size + 1) 42 Z78 (0, 0) _ rfl (K12.out.row Z78) Try.underlying42 rfl info42z) rfl ⟨ret_of rfl, KE.out.row (by omega) Z78⟩
set_option maxRecDepth 100000 in
set_option maxHeartbeats 1000000 in
theorem explBad_fit (d : Dl) (lim : Int) (x y q : BitVec 16) (sec : Bool) (hd : d.ok) (he : parErr d lim = 0) (hf : ¬ (fitB 15 x = true ∧ fitB 15 y = true ∧ fitB 15 q = true)) (w : World) : Calls Try.prog 25 #[d.val, .int .i64 lim, .int .u16 (uv x), .int .u16 (uv y), .int .u16 (uv q), .bool sec] w fun e w' => e = .returned (.tuple #[.agg Z78, .int .i64 2]) ∧ Ext w w' := by
  have C1 := fun w => Parties_any d lim hd w
  have hP : parP d lim = (ptyP d).cells := by unfold parP; rw [if_pos he]
  have hQ : parQ d lim = (ptyQ d lim).cells := by unfold parQ; rw [if_pos he]
  rw [hP, hQ, he] at C1
  have hmx : decide (32768 ≤ mx (mx (uv x) (uv y)) (uv q)) = true := by
    simp only [mx_max, decide_eq_true_eq]
    cases h1 : fitB 15 x
    · have := fit15' h1; omega
    · cases h2 : fitB 15 y
      · have := fit15' h2; omega
      · cases h3 : fitB 15 q
        · have := fit15' h3; omega
        · exact absurd ⟨h1, h2, h3⟩ hf
  replace C1 := Lib.hid C1
  clear hP hQ he hd hf
  go_enter Try.func25, Try.ntmps25
  go_wp2_with (refine wpList_load_row rfl 42 (.tmp 6) rfl (w.heap.size) rfl 42 d.cells (0, 0) _ ((Blk.new w 42 d.cells).alloc _) Try.underlying42 rfl (info42 d) ?_)
  change Calls _ _ _ ((w.alloc (.cells d.cells 42)).alloc (.cells Z78 42)) _
  refine Calls.ext (C1.out _) fun z1 => ?_
  have H12 := Lib.hid ((Blk.new' (w.alloc (.cells d.cells 42)) 42 Z78 (w.heap.size + 1) (by simp)).ext z1)
  have HE := Lib.hid ((((Ext.refl w).alloc (.cells d.cells 42)).alloc (.cells Z78 42)).ext z1)
  generalize ext ((w.alloc (.cells d.cells 42)).alloc (.cells Z78 42)) z1 = W at *
  have hlt := H12.out.lt
  have P1 := Lib.hid ((Blk.new W 26 Z62).alloc (.cells Z62 26))
  have P2 := Lib.hid ((Blk.new' (W.alloc (.cells Z62 26)) 26 Z62 (W.heap.size + 1) (by simp)).rowFar (k := W.heap.size) (by omega) (ptyP d).cells)
  have K12 := Lib.hid ((((H12.out.alloc (.cells Z62 26)).alloc (.cells Z62 26)).rowFar (k := W.heap.size) (by omega) (ptyP d).cells).rowFar (k := W.heap.size + 1) (by omega) (ptyQ d lim).cells)
  have KE := Lib.hid ((((HE.out.alloc (.cells Z62 26)).alloc (.cells Z62 26)).row (g := W.heap.size) (by omega) (ptyP d).cells).row (g := W.heap.size + 1) (by omega) (ptyQ d lim).cells)
  go_wp2_with (first | ((with_reducible refine pre_op (.store 26 (.tmp 14) (.tmp 27)) ?_); refine wpList_store_row rfl 26 (.tmp 14) (.tmp 27) rfl W.heap.size rfl 26 Z62 (ptyP d).cells rfl P1.out (info26 _) (z62_size _) pty_one ?_) | ((with_reducible refine pre_op (.store 26 (.tmp 15) (.tmp 28)) ?_); refine wpList_store_row rfl 26 (.tmp 15) (.tmp 28) rfl (W.heap.size + 1) rfl 26 Z62 (ptyQ d lim).cells rfl P2.out (info26 _) (z62_size _) pty_one ?_) | ((with_reducible refine pre_op (.call { callee := .builtin .max, args := #[.tmp 34, .tmp 35, .tmp 36], argTypes := #[27, 27, 27] }) ?_); refine wpList_max3 rfl (.tmp 34) (.tmp 35) (.tmp 36) #[27, 27, 27] rfl .u16 (uv x) (uv y) (uv q) rfl rfl rfl ?_) | (refine wpList_build_row rfl 42 [] rfl [] rfl Z78 build42y ?_) | ((with_reducible refine pre_op (.store 42 (.tmp 12) (.tmp 39)) ?_); refine wpList_store_row rfl 42 (.tmp 12) (.tmp 39) rfl (w.heap.size + 1) rfl 42 Z78 Z78 rfl K12.out info42z rfl z78_one ?_))
  refine bodyPost_ret (results_cell_tmp rfl _ _ (w.heap.size + 1) 42 Z78 (0, 0) _ rfl (K12.out.row Z78) Try.underlying42 rfl info42z) rfl ⟨ret_of rfl, KE.out.row (by omega) Z78⟩
end Go.Proofs.Ytfdcapblgdlkaaa
