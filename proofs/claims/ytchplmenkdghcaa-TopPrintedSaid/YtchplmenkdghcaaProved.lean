/- The program's proof check: what its map holds on the way. -/
import Derived.Test.YtchplmenkdghcaaCovers
import Derived.Test.YtchplmenkdghcaaBestS
import Derived.ChangeKeysEq
import Derived.Test.YtchplmenkdghcaaTries
import Derived.DeepKeys
import Derived.Test.YtchplmenkdghcaaTops
import Derived.Test.YtchplmenkdghcaaSum
import Derived.Deep.CutRange
import Derived.Deep.CutBlock
namespace Go.Proofs.Ytchplmenkdghcaa
open Go.RowKit
/-- the map in block B counts the list l; the boxes of the class and of the result lie in b, b + 1 -/
structure PvI (w : World) (b B : Nat) (c : Cl) (cs : Array Value) (l : List Mv) (D : DataW Unit) (W : World) : Prop where
  own : W.ownsMap Try.prog 51 (plainElem Try.prog 3) B l.length D
  map : MapL D l
  ext : Ext w W
  cb : Blk W b 26 (clCells c)
  ab : Blk W (b + 1) 45 cs
  lo : w.heap.size ≤ b
  hB : b + 1 < B
section
variable {w : World} {b B : Nat} {c : Cl} {cs : Array Value} {l : List Mv} {D : DataW Unit} {W W' : World}
theorem PvI.grow (h : PvI w b B c cs l D W) (hE : Ext W W') : PvI w b B c cs l D W' :=
  ⟨own_same h.own (hE.block B h.own.lt), h.map, h.ext.trans hE, h.cb.grow hE, h.ab.grow hE, h.lo, h.hB⟩
end
end Go.Proofs.Ytchplmenkdghcaa
namespace Go.Proofs.Ytchplmenkdghcaa
open Go.RowKit
end Go.Proofs.Ytchplmenkdghcaa

