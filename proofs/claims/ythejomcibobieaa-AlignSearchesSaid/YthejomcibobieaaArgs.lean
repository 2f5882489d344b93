/- How the arguments of the statements are read: points, moves, bends, classes. -/
import Derived.Test.YthejomcibobieaaPlace
import Derived.Test.YthejomcibobieaaOpen
import Derived.Test.YthejomcibobieaaRows
namespace Go.Proofs.Ythejomcibobieaa
open Go.Joins Go.ChangeShapes Go.WideShapes Go.RowKit Go.Deep Go.ChangeAt

theorem own : ownKnob Try.prog.godebug = none := by kernel_rfl
theorem laidOut : laidOutB Try.prog = true := by kernel_rfl
theorem byte_in {n : Int} (h : (Lit.int .u8 n).wf = true) : 0 ≤ n ∧ n < 256 := by
  simp [Lit.wf, IntKind.min, IntKind.max, IntKind.signed, IntKind.bits] at h; omega
def toM (ns : List Int) : Mi := ⟨ns.getD 0 0, ns.getD 1 0, ns.getD 2 0, ns.getD 3 0⟩
theorem pts_of_rows {w : World} {A : Option Addr} {rows : List (List Int)} {cap : Nat}
    (hwf : ∀ ns ∈ rows, ns.length = [IntKind.i64, .i64, .u8, .u8].length ∧ ∀ (i : Nat) k n, [IntKind.i64, .i64, .u8, .u8][i]? = some k → ns[i]? = some n → (Lit.int k n).wf = true)
    (h : rows = [] ∨ ∃ b off, A = some ⟨b, off, none⟩ ∧ b < w.heap.size ∧ ∀ (i : Nat) ns, rows[i]? = some ns → ∀ (j : Nat) u, (List.zipWith Value.int [IntKind.i64, .i64, .u8, .u8] ns)[j]? = some u → w.cell? ⟨b, off + i * [IntKind.i64, .i64, .u8, .u8].length + j, none⟩ = some u)
    (hlc : rows.length ≤ cap) : ∃ l : List Mi, rows.length = l.length ∧ Pts w A l ∧ (∀ m ∈ l, 0 ≤ m.dir) ∧ l.length ≤ cap := by
  refine ⟨rows.map toM, by simp, ?_, ?_, by simpa using hlc⟩
  · rcases h with rfl | ⟨b, off, rfl, hb, hc⟩
    · exact .inl rfl
    · refine .inr ⟨b, off, rfl, hb, fun k x hk => ?_⟩
      rw [List.getElem?_map] at hk
      cases hr : rows[k]? with
      | none => rw [hr] at hk; cases hk
      | some ns =>
        rw [hr] at hk
        have hx : toM ns = x := by simpa using hk
        subst hx
        have hl := (hwf ns (List.mem_of_getElem? hr)).1
        match ns, hl with
        | [n0, n1, n2, n3], _ =>
          have := hc k _ hr
          exact ⟨this 0 _ rfl, this 1 _ rfl, this 2 _ rfl, this 3 _ rfl⟩
  · intro x hx
    obtain ⟨ns, hns, rfl⟩ := List.mem_map.1 hx
    obtain ⟨hl, hw⟩ := hwf ns hns
    match ns, hl with
    | [n0, n1, n2, n3], _ => exact (byte_in (hw 3 _ _ rfl rfl)).1
theorem mi_of {ns : List Int} (hl : ns.length = [IntKind.i64, .i64, .u8, .u8].length) (wf : ∀ (i : Nat) k n, [IntKind.i64, .i64, .u8, .u8][i]? = some k → ns[i]? = some n → (Lit.int k n).wf = true) :
    ∃ m : Mi, Value.agg (List.zipWith Value.int [IntKind.i64, .i64, .u8, .u8] ns).toArray = m.val ∧ 0 ≤ m.dir := by
  match ns, hl with
  | [n0, n1, n2, n3], _ => exact ⟨⟨n0, n1, n2, n3⟩, rfl, (byte_in (wf 3 _ _ rfl rfl)).1⟩
theorem mv_of {ns : List Int} (hl : ns.length = [IntKind.i64, .i64, .i64].length) :
    ∃ v : Mv, Value.agg (List.zipWith Value.int [IntKind.i64, .i64, .i64] ns).toArray = v.val := by
  match ns, hl with
  | [n0, n1, n2], _ => exact ⟨⟨n0, n1, n2⟩, rfl⟩
theorem bend_of {ns : List Int} (hl : ns.length = (List.replicate 4 IntKind.i64).length) :
    ∃ b : Nat → Int, Value.agg (List.zipWith Value.int (List.replicate 4 .i64) ns).toArray = bendV b := by
  match ns, hl with
  | [n0, n1, n2, n3], _ => exact ⟨fun i => [n0, n1, n2, n3].getD i 0, rfl⟩
theorem cl_of {ns : List Int} (hl : ns.length = [IntKind.i64, .i64, .i64, .i64, .i64].length) :
    ∃ c : Cl, Value.agg (List.zipWith Value.int [IntKind.i64, .i64, .i64, .i64, .i64] ns).toArray = c.val := by
  match ns, hl with
  | [n0, n1, n2, n3, n4], _ => exact ⟨⟨n0, n1, n2, n3, n4⟩, rfl⟩
end Go.Proofs.Ythejomcibobieaa
