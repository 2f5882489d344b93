/- Logs as arguments: from the rows that were read to the entries. -/
import Derived.Test.YtkhmjkhgmggjcaaTips
import Derived.Test.YtkhmjkhgmggjcaaOpen
namespace Go.Proofs.Ytkhmjkhgmggjcaa
open Go.Joins Go.ChangeShapes Go.WideShapes Go.RowKit Go.Deep Go.ChangeAt

theorem own : ownKnob Try.prog.godebug = none := by kernel_rfl
theorem laidOut : laidOutB Try.prog = true := by kernel_rfl

def eks : List IntKind := [.i64, .i64, .i64, .u64, .u64, .u64, .u64]
def toE (ns : List Int) : E := ⟨ns.getD 0 0, ns.getD 1 0, ns.getD 2 0, ns.getD 3 0, ns.getD 4 0, ns.getD 5 0, ns.getD 6 0⟩
/-- All numbers of an entry fit their kinds. -/
structure E.fit (x : E) : Prop where
  time : (Lit.int .i64 x.time).wf = true
  kind : (Lit.int .i64 x.kind).wf = true
  person : (Lit.int .i64 x.person).wf = true
  detail : (Lit.int .u64 x.detail).wf = true
  salt : (Lit.int .u64 x.salt).wf = true
  sl : (Lit.int .u64 x.seal_).wf = true
  link : (Lit.int .u64 x.link).wf = true
theorem E.fit.ok {x : E} (h : x.fit) : x.ok := by
  have h1 := wf_u64 h.detail
  have h2 := wf_u64 h.salt
  have h3 := wf_u64 h.sl
  exact ⟨h1.1, h1.2, h2.1, h2.2, h3.1, h3.2⟩
theorem log_of_rows {w : World} {A : Option Addr} {rows : List (List Int)} {cap : Nat}
    (hwf : ∀ ns ∈ rows, ns.length = [IntKind.i64, .i64, .i64, .u64, .u64, .u64, .u64].length ∧ ∀ (i : Nat) k n, [IntKind.i64, .i64, .i64, .u64, .u64, .u64, .u64][i]? = some k → ns[i]? = some n → (Lit.int k n).wf = true)
    (h : rows = [] ∨ ∃ b off, A = some ⟨b, off, none⟩ ∧ b < w.heap.size ∧ ∀ (i : Nat) ns, rows[i]? = some ns → ∀ (j : Nat) u, (List.zipWith Value.int [IntKind.i64, .i64, .i64, .u64, .u64, .u64, .u64] ns)[j]? = some u → w.cell? ⟨b, off + i * [IntKind.i64, .i64, .i64, .u64, .u64, .u64, .u64].length + j, none⟩ = some u)
    (hlc : rows.length ≤ cap) : ∃ l : List E, rows.length = l.length ∧ Log w A l ∧ (∀ x ∈ l, x.fit) ∧ l.length ≤ cap := by
  refine ⟨rows.map toE, by simp, ?_, ?_, by simpa using hlc⟩
  · rcases h with rfl | ⟨b, off, rfl, hb, hc⟩
    · exact .inl rfl
    · refine .inr ⟨b, off, rfl, hb, fun k x hk => ?_⟩
      rw [List.getElem?_map] at hk
      cases hr : rows[k]? with
      | none => rw [hr] at hk; cases hk
      | some ns =>
        rw [hr] at hk
        have hx : toE ns = x := by simpa using hk
        subst hx
        have hl := (hwf ns (List.mem_of_getElem? hr)).1
        match ns, hl with
        | [n0, n1, n2, n3, n4, n5, n6], _ =>
          have := hc k _ hr
          exact ⟨this 0 _ rfl, this 1 _ rfl, this 2 _ rfl, this 3 _ rfl, this 4 _ rfl, this 5 _ rfl, this 6 _ rfl⟩
  · intro x hx
    obtain ⟨ns, hns, rfl⟩ := List.mem_map.1 hx
    obtain ⟨hl, hw⟩ := hwf ns hns
    match ns, hl with
    | [n0, n1, n2, n3, n4, n5, n6], _ => exact ⟨hw 0 _ _ rfl rfl, hw 1 _ _ rfl rfl, hw 2 _ _ rfl rfl, hw 3 _ _ rfl rfl, hw 4 _ _ rfl rfl, hw 5 _ _ rfl rfl, hw 6 _ _ rfl rfl⟩
end Go.Proofs.Ytkhmjkhgmggjcaa
