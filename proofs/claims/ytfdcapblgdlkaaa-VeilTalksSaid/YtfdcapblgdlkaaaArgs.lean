/- How the arguments of the statements are read: words, keys. -/
import Derived.Test.YtfdcapblgdlkaaaRest
import Derived.Test.YtfdcapblgdlkaaaOpen
import Derived.Test.YtfdcapblgdlkaaaRows
namespace Go.Proofs.Ytfdcapblgdlkaaa
open Go.Joins Go.ChangeShapes Go.WideShapes Go.RowKit Go.Deep Go.ChangeAt

theorem own : ownKnob Try.prog.godebug = none := by kernel_rfl
theorem laidOut : laidOutB Try.prog = true := by kernel_rfl
theorem wf_u16 {n : Int} (h : (Lit.int .u16 n).wf = true) : 0 ≤ n ∧ n < 65536 := by
  simp [Lit.wf, IntKind.min, IntKind.max, IntKind.signed, IntKind.bits] at h; omega
theorem uv_of {n : Int} (h : (Lit.int .u16 n).wf = true) : uv (BitVec.ofNat 16 n.toNat) = n := by
  have := wf_u16 h
  unfold uv
  rw [BitVec.toNat_ofNat, Nat.mod_eq_of_lt (by omega)]; omega
theorem key_of {ns : List Int} (hl : ns.length = [IntKind.i64, .i64, .u16].length) (wf : ∀ (i : Nat) k n, [IntKind.i64, .i64, .u16][i]? = some k → ns[i]? = some n → (Lit.int k n).wf = true) :
    ∃ k : K, Value.agg (List.zipWith Value.int [IntKind.i64, .i64, .u16] ns).toArray = k.val := by
  match ns, hl with
  | [x, y, z], _ =>
    have h0 := uv_of (wf 2 .u16 z rfl rfl)
    exact ⟨⟨x, y, BitVec.ofNat 16 z.toNat⟩, by simp [K.val, h0]⟩
end Go.Proofs.Ytfdcapblgdlkaaa
