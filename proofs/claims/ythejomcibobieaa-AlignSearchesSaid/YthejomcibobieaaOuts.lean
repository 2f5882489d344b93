/- What the walks of the statements without the reference share. -/
import Derived.Test.YthejomcibobieaaAlive
import Derived.Test.YthejomcibobieaaArgs
namespace Go.Proofs.Ythejomcibobieaa
open Go.RowKit

theorem bk_of {ns : List Int} (hl : ns.length = [IntKind.i64, .i64, .i64, .i64, .i64].length) :
    ∃ k : Bk, Value.agg (List.zipWith Value.int [IntKind.i64, .i64, .i64, .i64, .i64] ns).toArray = k.val := by
  match ns, hl with
  | [n0, n1, n2, n3, n4], _ => exact ⟨⟨n0, n1, n2, n3, n4⟩, rfl⟩
theorem scoreT_two (c : Cl) (lp lq : List Mi) (v : Mv) (b : Nat → Int) : ∃ x e : Int, scoreT c lp lq v b = .tuple #[.int .i64 x, .int .i64 e] := by
  unfold scoreT
  split
  · split <;> exact ⟨_, _, rfl⟩
  · exact ⟨_, _, rfl⟩
theorem boundT_two (c : Cl) (lp lq : List Mi) (k : Bk) : ∃ x e : Int, boundT c lp lq k = .tuple #[.int .i64 x, .int .i64 e] := by
  unfold boundT
  split
  · split <;> exact ⟨_, _, rfl⟩
  · exact ⟨_, _, rfl⟩
end Go.Proofs.Ythejomcibobieaa
