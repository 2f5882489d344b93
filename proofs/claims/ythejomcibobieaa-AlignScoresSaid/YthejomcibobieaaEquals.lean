/- Equality of bends. -/
import Derived.ChangeKeysEq
import Derived.Test.YthejomcibobieaaTries
namespace Go.Proofs.Ythejomcibobieaa
open Go.RowKit

theorem bd_iff (x y : Bd) : x = y ↔ (x.a = y.a ∧ x.b = y.b ∧ x.c = y.c ∧ x.d = y.d) := ⟨fun h => by subst h; exact ⟨rfl, rfl, rfl, rfl⟩, fun h => Bd.ext_ h.1 h.2.1 h.2.2.1 h.2.2.2⟩
theorem eq28_at (d : Nat) (x y : Bd) (w : World) : (Op.equalIn (d + 2) 28 (.agg x.cells) (.agg y.cells)).run Try.prog w = .ok (decide (x = y)) w := by
  have hc : Try.prog.cellsOf 3 = 1 := by kernel_rfl
  obtain ⟨i, hi⟩ : ∃ i, Try.prog.info? 3 = some i := by
    cases h : Try.prog.info? 3 with
    | some i => exact ⟨i, rfl⟩
    | none => exact absurd h (by intro h; have : (Try.prog.info? 3).isSome = true := by kernel_rfl
                                 rw [h] at this; cases this)
  rw [run_equalIn_array w (d + 1) x.cells y.cells Try.underlying28 hi, hc]
  have e : List.range 4 = [0, 1, 2, 3] := rfl
  rw [e]
  have he : decide (x = y) = (x.a == y.a && (x.b == y.b && (x.c == y.c && (x.d == y.d && true)))) := by
    rw [Bool.eq_iff_iff, decide_eq_true_eq, bd_iff]
    simp
  rw [he]
  simp [Op.eqItems, Op.equalIn, go_sem]
  by_cases h1 : x.a = y.a
  · by_cases h2 : x.b = y.b
    · by_cases h3 : x.c = y.c
      · by_cases h4 : x.d = y.d
        · simp [h1, h2, h3, h4]
        · simp [h1, h2, h3, h4]
      · simp [h1, h2, h3]
    · simp [h1, h2]
  · simp [h1]
theorem eq28 (x y : Bd) (w : World) : (Op.equalIn 9999 28 (.agg x.cells) (.agg y.cells)).run Try.prog w = .ok (decide (x = y)) w := eq28_at 9997 x y w
end Go.Proofs.Ythejomcibobieaa
