/- How the arguments of the statements are read: codes, limits, lists of codes. -/
import Derived.Test.YtcacbolbedhcoaaTurns
import Derived.Test.YtcacbolbedhcoaaOpen2
namespace Go.Proofs.Ytcacbolbedhcoaa
open Go.Joins Go.ChangeShapes Go.WideShapes Go.RowKit Go.Deep Go.ChangeAt

theorem own : ownKnob Try.prog.godebug = none := by kernel_rfl
theorem laidOut : laidOutB Try.prog = true := by kernel_rfl
theorem uw_of {n : Int} (h : (Lit.int .u64 n).wf = true) : uw (BitVec.ofNat 64 n.toNat) = n := by
  have := wf_u64 h
  unfold uw
  rw [BitVec.toNat_ofNat, Nat.mod_eq_of_lt (by omega)]; omega
def toIr (ns : List Int) : Ir := ⟨BitVec.ofNat 64 (ns.getD 0 0).toNat, BitVec.ofNat 64 (ns.getD 1 0).toNat⟩
theorem ir_of {ns : List Int} (hl : ns.length = [IntKind.u64, .u64].length) (wf : ∀ (i : Nat) k n, [IntKind.u64, .u64][i]? = some k → ns[i]? = some n → (Lit.int k n).wf = true) :
    Value.agg (List.zipWith Value.int [IntKind.u64, .u64] ns).toArray = (toIr ns).val := by
  match ns, hl with
  | [x, y], _ =>
    have h0 := uw_of (wf 0 .u64 x rfl rfl)
    have h1 := uw_of (wf 1 .u64 y rfl rfl)
    simp [toIr, Ir.val, h0, h1]
theorem two_of {ns : List Int} (hl : ns.length = 2) : ∃ x y, ns = [x, y] := by
  match ns, hl with
  | [x, y], _ => exact ⟨x, y, rfl⟩
theorem irs_of {w : World} {A : Option Addr} {rows : List (List Int)} {cap : Nat}
    (hwf : ∀ ns ∈ rows, ns.length = [IntKind.u64, .u64].length ∧ ∀ (i : Nat) k n, [IntKind.u64, .u64][i]? = some k → ns[i]? = some n → (Lit.int k n).wf = true)
    (h : rows = [] ∨ ∃ b off, A = some ⟨b, off, none⟩ ∧ b < w.heap.size ∧ ∀ (i : Nat) ns, rows[i]? = some ns → ∀ (j : Nat) u, (List.zipWith Value.int [IntKind.u64, .u64] ns)[j]? = some u → w.cell? ⟨b, off + i * [IntKind.u64, .u64].length + j, none⟩ = some u)
    (hlc : rows.length ≤ cap) : ∃ l : List Ir, rows.length = l.length ∧ Irs w A l ∧ l.length ≤ cap := by
  refine ⟨rows.map toIr, by simp, ?_, by simpa using hlc⟩
  rcases h with rfl | ⟨b, off, rfl, hb, hc⟩
  · exact .inl rfl
  · refine .inr ⟨b, off, rfl, hb, fun k x hx => ?_⟩
    rw [List.getElem?_map] at hx
    obtain ⟨ns, hns, rfl⟩ := Option.map_eq_some_iff.1 hx
    obtain ⟨hl, wf⟩ := hwf ns (List.mem_of_getElem? hns)
    have hk := hc k ns hns
    match ns, hl with
    | [x, y], _ =>
      have h0 := uw_of (wf 0 .u64 x rfl rfl)
      have h1 := uw_of (wf 1 .u64 y rfl rfl)
      have k0 := hk 0 (.int .u64 x) rfl
      have k1 := hk 1 (.int .u64 y) rfl
      simp only [toIr, List.getD_cons_zero, List.getD_cons_succ, h0, h1]
      exact ⟨k0, k1⟩
end Go.Proofs.Ytcacbolbedhcoaa
