/- Whole arrays: stored into a block that is there. -/
import Derived.Test.YtfdcapblgdlkaaaCommon
import Derived.Deep.WholeRow
namespace Go.Proofs.Ytfdcapblgdlkaaa
open Go.RowKit

theorem setRow_heap (w : World) (g i : Nat) (cs : Array Value) (h : i ≠ g) : (w.setRow g cs).heap[i]? = w.heap[i]? := by
  simp only [World.setRow]
  rw [Array.getElem?_modify, if_neg (fun e => h e.symm)]
theorem setRow_size (w : World) (g : Nat) (cs : Array Value) : (w.setRow g cs).heap.size = w.heap.size := by
  simp [World.setRow]
theorem Blk.row {w : World} {g : Nat} {t : TypeId} {c : Array Value} (h : Blk w g t c) (c' : Array Value) : Blk (w.setRow g c') g t c' := by
  unfold Blk at h ⊢
  simp [World.setRow, Array.getElem?_modify, h]
theorem Blk.rowFar {w : World} {g k : Nat} {t : TypeId} {c : Array Value} (h : Blk w g t c) (hk : g ≠ k) (c' : Array Value) : Blk (w.setRow k c') g t c := by
  unfold Blk at h ⊢
  rw [setRow_heap _ _ _ _ hk, h]
theorem Ext.row {w0 w : World} {g : Nat} (h : Ext w0 w) (hg : w0.heap.size ≤ g) (cs : Array Value) : Ext w0 (w.setRow g cs) :=
  ⟨h.os, h.tape, h.output, by rw [setRow_size]; exact h.size, fun b hb => by rw [setRow_heap _ _ _ _ (by omega)]; exact h.block b hb⟩
section
variable {P : Program} {o : Oper} {a : Act} {Q : Exit → Act → World → Prop}
theorem wpList_store_row {ops : Array Oper} {rest : List Oper} {w : World} (hgd : o.guard = none) (t : TypeId) (x y : Operand) (ho : o.op = .store t x y) (g : Nat) (hx : a.eval x = .pointer (some ⟨g, 0, none⟩)) (u : TypeId) (c c' : Array Value) (hy : a.eval y = .agg c') (hB : Blk w g u c)
    (hi : (P.info? t).map (·.size) = some c'.size) (hc : c.size = c'.size) (h1 : c'.all (·.oneCell') = true)
    (h : wpList P ops Q rest (a.put o.dst undef) (w.setRow g c')) : wpList P ops Q (o :: rest) a w :=
  wpList_plain hgd fun _ hK => by
    unfold Oper.wp execOp
    simp only [ho, hx, hy, Sem.run_bind, Instr.storeAt, Instr.sureAddr, Sem.run_pure, Result.andThen, run_storeVar_row w g u t c c' hB hi hc h1]
    exact hK _ _ h
end
end Go.Proofs.Ytfdcapblgdlkaaa
