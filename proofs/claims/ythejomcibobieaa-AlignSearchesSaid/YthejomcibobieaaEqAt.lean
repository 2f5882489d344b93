/- Equality of bends. -/
import Derived.ChangeKeysEq
import Derived.Test.YthejomcibobieaaTries
import Derived.DeepKeys
import Derived.Test.YthejomcibobieaaTops
namespace Go.Proofs.Ythejomcibobieaa
open Go.RowKit

theorem bd_iff (x y : Bd) : x = y ↔ (x.a = y.a ∧ x.b = y.b ∧ x.c = y.c ∧ x.d = y.d) := ⟨fun h => by subst h; exact ⟨rfl, rfl, rfl, rfl⟩, fun h => Bd.ext_ h.1 h.2.1 h.2.2.1 h.2.2.2⟩
theorem eq28_at (d : Nat) (x y : Bd) (w : World) : (Op.equalIn (d + 2) 28 (.agg x.cells) (.agg y.cells)).run Try.prog w = .ok (decide (x = y)) w := by
  have hc : Try.prog.cellsOf 3 = 1 := by kernel_rfl
  obtain ⟨i, hi⟩ : ∃ i, Try.prog.info? 3 = some i := by
    cases h : Try.prog.info? 3 with
    | some i => exact ⟨i, rfl⟩
    | none => exact absurd h (by intro h; have : (Try.prog.info? 3).isSome = true := by kernel_rfl
                                 rw [h] at this; cases this)
  rw [run_equalIn_array w (d + 1) x.cells y.cells Try.underlying28 hi, hc]
  have e : List.range 4 = [0, 1, 2, 3] := rfl
  rw [e]
  have he : decide (x = y) = (x.a == y.a && (x.b == y.b && (x.c == y.c && (x.d == y.d && true)))) := by
    rw [Bool.eq_iff_iff, decide_eq_true_eq, bd_iff]
    simp
  rw [he]
  simp [Op.eqItems, Op.equalIn, go_sem]
  by_cases h1 : x.a = y.a
  · by_cases h2 : x.b = y.b
    · by_cases h3 : x.c = y.c
      · by_cases h4 : x.d = y.d
        · simp [h1, h2, h3, h4]
        · simp [h1, h2, h3, h4]
      · simp [h1, h2, h3]
    · simp [h1, h2]
  · simp [h1]
theorem eq28 (x y : Bd) (w : World) : (Op.equalIn 9999 28 (.agg x.cells) (.agg y.cells)).run Try.prog w = .ok (decide (x = y)) w := eq28_at 9997 x y w
end Go.Proofs.Ythejomcibobieaa
/- Equality of attempts, and of blocks with their bounds. -/
namespace Go.Proofs.Ythejomcibobieaa
open Go.RowKit

def wfI (n : Int) : Prop := (Lit.int .i64 n).wf = true
structure At.wf (x : At) : Prop where
  wt : wfI x.mv.turn
  wx : wfI x.mv.dx
  wy : wfI x.mv.dy
  wa : wfI x.bd.a
  wb : wfI x.bd.b
  wc : wfI x.bd.c
  wd : wfI x.bd.d
  ws : wfI x.score
structure Rs.wf (x : Rs) : Prop where
  wt : wfI x.bk.turn
  wa : wfI x.bk.x0
  wb : wfI x.bk.y0
  wc : wfI x.bk.x1
  wd : wfI x.bk.y1
  ws : wfI x.bound
theorem cells_3 : Try.prog.cellsOf 3 = 1 := by kernel_rfl
theorem cells_26 : Try.prog.cellsOf 26 = 3 := by kernel_rfl
theorem cells_28 : Try.prog.cellsOf 28 = 4 := by kernel_rfl
theorem cells_46 : Try.prog.cellsOf 46 = 8 := by kernel_rfl
theorem cells_40 : Try.prog.cellsOf 40 = 5 := by kernel_rfl
theorem cells_105 : Try.prog.cellsOf 105 = 6 := by kernel_rfl
theorem kt_46 : Try.prog.keyTypeAt 10 46 = true := by kernel_rfl
theorem kt_105 : Try.prog.keyTypeAt 10 105 = true := by kernel_rfl
def atL (x : At) : List Lit := [.int .i64 x.mv.turn, .int .i64 x.mv.dx, .int .i64 x.mv.dy, .int .i64 x.bd.a, .int .i64 x.bd.b, .int .i64 x.bd.c, .int .i64 x.bd.d, .int .i64 x.score]
def rsL (x : Rs) : List Lit := [.int .i64 x.bk.turn, .int .i64 x.bk.x0, .int .i64 x.bk.y0, .int .i64 x.bk.x1, .int .i64 x.bk.y1, .int .i64 x.bound]
theorem key_3 (d : Nat) {n : Int} (h : wfI n) : Try.prog.keyLits (d + 1) 3 [.int .i64 n] = some [.int .i64 n] := by
  unfold wfI at h
  unfold Program.keyLits
  rw [Try.underlying3]
  simp [h]
theorem key_26 (d : Nat) {a b c : Int} (h1 : wfI a) (h2 : wfI b) (h3 : wfI c) : Try.prog.keyLits (d + 2) 26 [.int .i64 a, .int .i64 b, .int .i64 c] = some [.int .i64 a, .int .i64 b, .int .i64 c] := by
  have k1 := key_3 d h1
  have k2 := key_3 d h2
  have k3 := key_3 d h3
  unfold Program.keyLits
  rw [Try.underlying26]
  simp [cells_26, cells_3, k1, k2, k3]
theorem key_28 (d : Nat) {a b c e : Int} (h1 : wfI a) (h2 : wfI b) (h3 : wfI c) (h4 : wfI e) : Try.prog.keyLits (d + 2) 28 [.int .i64 a, .int .i64 b, .int .i64 c, .int .i64 e] = some [.int .i64 a, .int .i64 b, .int .i64 c, .int .i64 e] := by
  have k1 := key_3 d h1
  have k2 := key_3 d h2
  have k3 := key_3 d h3
  have k4 := key_3 d h4
  unfold Program.keyLits
  rw [Try.underlying28]
  simp [cells_28, cells_3, k1, k2, k3, k4, List.range_succ]
theorem key_40 (d : Nat) {a b c e f : Int} (h1 : wfI a) (h2 : wfI b) (h3 : wfI c) (h4 : wfI e) (h5 : wfI f) : Try.prog.keyLits (d + 2) 40 [.int .i64 a, .int .i64 b, .int .i64 c, .int .i64 e, .int .i64 f] = some [.int .i64 a, .int .i64 b, .int .i64 c, .int .i64 e, .int .i64 f] := by
  have k1 := key_3 d h1
  have k2 := key_3 d h2
  have k3 := key_3 d h3
  have k4 := key_3 d h4
  have k5 := key_3 d h5
  unfold Program.keyLits
  rw [Try.underlying40]
  simp [cells_40, cells_3, k1, k2, k3, k4, k5]
theorem keyL46 {x : At} (h : x.wf) : Try.prog.keyLits 10 46 x.cells.toList = some (atL x) := by
  have k1 := key_26 7 h.wt h.wx h.wy
  have k2 := key_28 7 h.wa h.wb h.wc h.wd
  have k3 := key_3 8 h.ws
  unfold Program.keyLits
  rw [Try.underlying46]
  simp [cells_46, cells_26, cells_28, cells_3, k1, k2, k3, atL]
theorem keyL105 {x : Rs} (h : x.wf) : Try.prog.keyLits 10 105 x.cellsL = some (rsL x) := by
  have k1 := key_40 7 h.wt h.wa h.wb h.wc h.wd
  have k3 := key_3 8 h.ws
  unfold Program.keyLits
  rw [Try.underlying105]
  simp [cells_105, cells_40, cells_3, k1, k3, rsL]
theorem form46 (x : At) : (Value.agg x.cells).formed Try.prog 46 = true := by kernel_rfl
theorem form105 (x : Rs) : (Value.agg x.cellsL.toArray).formed Try.prog 105 = true := by kernel_rfl
theorem eq46 {x y : At} (hx : x.wf) (hy : y.wf) (w : World) : (Op.equalIn 10000 46 (.agg x.cells) (.agg y.cells)).run Try.prog w = .ok (decide (x = y)) w := by
  obtain ⟨r, hr, hi⟩ := run_equalIn_deep 9990 10 46 kt_46 w 10 10 (.agg x.cells) (.agg y.cells) (atL x) (atL y) (form46 x) (form46 y) (keyL46 hx) (keyL46 hy)
  have e : r = decide (x = y) := by
    rw [Bool.eq_iff_iff, hi, decide_eq_true_eq]
    constructor
    · intro h
      simp only [atL, List.cons.injEq, Lit.int.injEq, true_and, and_true] at h
      obtain ⟨a1, a2, a3, a4, a5, a6, a7, a8⟩ := h
      exact At.ext_ (Mv.ext_ a1 a2 a3) (Bd.ext_ a4 a5 a6 a7) a8
    · rintro rfl; rfl
  rw [← e]
  exact hr
theorem rs_ext {x y : Rs} (h1 : x.bk.turn = y.bk.turn) (h2 : x.bk.x0 = y.bk.x0) (h3 : x.bk.y0 = y.bk.y0) (h4 : x.bk.x1 = y.bk.x1) (h5 : x.bk.y1 = y.bk.y1) (h6 : x.bound = y.bound) : x = y := by
  obtain ⟨⟨a, b, c, d, e⟩, f⟩ := x
  obtain ⟨⟨a', b', c', d', e'⟩, f'⟩ := y
  simp_all
instance rsDec : DecidableEq Rs := fun x y => decidable_of_iff (x.bk.turn = y.bk.turn ∧ x.bk.x0 = y.bk.x0 ∧ x.bk.y0 = y.bk.y0 ∧ x.bk.x1 = y.bk.x1 ∧ x.bk.y1 = y.bk.y1 ∧ x.bound = y.bound) ⟨fun h => rs_ext h.1 h.2.1 h.2.2.1 h.2.2.2.1 h.2.2.2.2.1 h.2.2.2.2.2, fun h => by subst h; exact ⟨rfl, rfl, rfl, rfl, rfl, rfl⟩⟩
theorem eq105 {x y : Rs} (hx : x.wf) (hy : y.wf) (w : World) : (Op.equalIn 10000 105 (.agg x.cellsL.toArray) (.agg y.cellsL.toArray)).run Try.prog w = .ok (decide (x = y)) w := by
  obtain ⟨r, hr, hi⟩ := run_equalIn_deep 9990 10 105 kt_105 w 10 10 (.agg x.cellsL.toArray) (.agg y.cellsL.toArray) (rsL x) (rsL y) (form105 x) (form105 y) (keyL105 hx) (keyL105 hy)
  have e : r = decide (x = y) := by
    rw [Bool.eq_iff_iff, hi, decide_eq_true_eq]
    constructor
    · intro h
      simp only [rsL, List.cons.injEq, Lit.int.injEq, true_and, and_true] at h
      obtain ⟨a1, a2, a3, a4, a5, a6⟩ := h
      exact rs_ext a1 a2 a3 a4 a5 a6
    · rintro rfl; rfl
  rw [← e]
  exact hr
end Go.Proofs.Ythejomcibobieaa
