/- Whole arrays: stored into a block that is there. -/
import Derived.Test.YtchplmenkdghcaaCommon
import Derived.Deep.WholeRow
import Derived.Test.YtchplmenkdghcaaRel
import Derived.Test.YtchplmenkdghcaaSlices
import Derived.Test.YtchplmenkdghcaaMatched
import Derived.Test.YtchplmenkdghcaaPlace
namespace Go.Proofs.Ytchplmenkdghcaa
open Go.RowKit
end Go.Proofs.Ytchplmenkdghcaa
namespace Go.Proofs.Ytchplmenkdghcaa
open Go.RowKit
end Go.Proofs.Ytchplmenkdghcaa
namespace Go.Proofs.Ytchplmenkdghcaa
open Go.RowKit
/-- All other blocks are as they were; each cell of block T is as it was, or as it will be. -/
structure RT (T : Nat) (t : TypeId) (fin : Array Value) (w w' : World) : Prop where
  os : w'.os = w.os
  tape : w'.tape = w.tape
  output : w'.output = w.output
  size : w.heap.size ≤ w'.heap.size
  other : ∀ b, b ≠ T → b < w.heap.size → w'.heap[b]? = w.heap[b]?
  part : ∀ cur, Blk w T t cur → cur.size = fin.size → ∃ cur', Blk w' T t cur' ∧ cur'.size = fin.size ∧ ∀ j : Nat, cur'[j]? = cur[j]? ∨ cur'[j]? = fin[j]?
section
variable {T : Nat} {t : TypeId} {fin : Array Value}
theorem RT.refl (w : World) : RT T t fin w w := ⟨rfl, rfl, rfl, Nat.le_refl _, fun _ _ _ => rfl, fun cur h hs => ⟨cur, h, hs, fun _ => .inl rfl⟩⟩
theorem RT.trans (a b c : World) (h : RT T t fin a b) (k : RT T t fin b c) : RT T t fin a c :=
  ⟨k.os.trans h.os, k.tape.trans h.tape, k.output.trans h.output, Nat.le_trans h.size k.size, fun x hx hb => (k.other x hx (Nat.lt_of_lt_of_le hb h.size)).trans (h.other x hx hb), fun cur hc hs => by
    obtain ⟨c1, h1, h2, h3⟩ := h.part cur hc hs
    obtain ⟨c2, k1, k2, k3⟩ := k.part c1 h1 h2
    refine ⟨c2, k1, k2, fun j => ?_⟩
    rcases k3 j with e | e
    · rcases h3 j with e2 | e2
      · exact .inl (e.trans e2)
      · exact .inr (e.trans e2)
    · exact .inr e⟩
theorem RT.of_ext {w w' : World} (h : Ext w w') : RT T t fin w w' :=
  ⟨h.os, h.tape, h.output, h.size, fun b _ hb => h.block b hb, fun cur hc hs => ⟨cur, hc.grow h, hs, fun _ => .inl rfl⟩⟩
theorem RT.blk {w w' : World} (h : RT T t fin w w') {b : Nat} {u : TypeId} {cs : Array Value} (hb : Blk w b u cs) (hne : b ≠ T) : Blk w' b u cs := (h.other b hne hb.lt).trans hb
end
end Go.Proofs.Ytchplmenkdghcaa
/- The reference's score (Scored, 55). -/
namespace Go.Proofs.Ytchplmenkdghcaa
open Go.RowKit
def mayL (c : Cl) (lp lq : List Mi) (v : Mv) (b : Nat → Int) (pi j : Nat) : Bool := match lp[pi]?, lq[j]? with | some m, some o => alikeB c m o v b | _, _ => false
end Go.Proofs.Ytchplmenkdghcaa
