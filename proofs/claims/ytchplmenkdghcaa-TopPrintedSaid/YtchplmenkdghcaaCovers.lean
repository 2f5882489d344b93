/- Maps keyed by structs, of numbers: m[k]++ as the translation lays it (a look-up, the entry, the store into it), in a region that draws its order. -/
import Derived.Maps.RangeWalk
import Derived.Maps.OwnSet
import Derived.WideKeyEntry
import Derived.Test.YtchplmenkdghcaaRel
import Derived.Test.YtchplmenkdghcaaSlices
import Derived.Test.YtchplmenkdghcaaProm
import Derived.DeepKeys4
namespace Go.Proofs.Ytchplmenkdghcaa
open Go.RowKit Go.ChangeMaps Go.MapKept Go.WideElems
open Go.Maps (Keyed)
section
variable {H : Type} {P : Program} {w w2 : World} {t k e : TypeId} {B n : Nat} {D : DataW H}
theorem own_same {R : Value → Option (DataW H × List MemPlace)} (h : w.ownsMap P k R B n D) (hb : w2.heap[B]? = w.heap[B]?) : w2.ownsMap P k R B n D := by
  obtain ⟨es, clock, h1, r⟩ := h
  exact ⟨es, clock, hb.trans h1, r⟩
end
end Go.Proofs.Ytchplmenkdghcaa
/- Which moves are counted, and how often: the map of the program's proof check, in plain words. -/
namespace Go.Proofs.Ytchplmenkdghcaa
open Go.RowKit
def klM (v : Mv) : Lit := .string (keyBytes [.int .i64 v.turn, .int .i64 v.dx, .int .i64 v.dy])
/-- a small move -/
def smV (v : Mv) : Prop := (-100 ≤ v.turn ∧ v.turn ≤ 100) ∧ (-100 ≤ v.dx ∧ v.dx ≤ 100) ∧ (-100 ≤ v.dy ∧ v.dy ≤ 100)
/-- the map D counts the moves of the list l -/
structure MapL {H : Type} (D : DataW H) (l : List Mv) : Prop where
  at_ : ∀ v, smV v → D.atKey (klM v) (.lit (.int .i64 0)) = .lit (.int .i64 (l.count v : Nat))
  has : ∀ kl, Maps.has D kl = true ↔ ∃ v ∈ l, klM v = kl
  sm : ∀ v ∈ l, smV v
  size : ∃ ks : List Mv, ks.Nodup ∧ (∀ v, v ∈ ks ↔ v ∈ l) ∧ Maps.size D = ks.length
theorem MapL.nil {H : Type} : MapL (H := H) (.map []) [] :=
  ⟨fun v _ => rfl, fun kl => by simp [Maps.has], fun v h => (by cases h), [], List.nodup_nil, fun v => Iff.rfl, rfl⟩
end Go.Proofs.Ytchplmenkdghcaa
