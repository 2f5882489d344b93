/- The exported talk, both sides. -/
import Derived.Test.YtfdcapblgdlkaaaTalked
import Derived.Test.YtfdcapblgdlkaaaExp
namespace Go.Proofs.Ytfdcapblgdlkaaa
open Go.RowKit

theorem wpList_load_row_g {P : Program} {ops : Array Oper} {rest : List Oper} {o : Oper} {a : Act} {w : World} {Q : Exit → Act → World → Prop} (ty : TypeId) (x : Operand) (ho : o.op = .load ty x) (hw : Region.wanted o (yielded ops a.tmps) = true)
    (g : Nat) (hx : a.eval x = .pointer (some ⟨g, 0, none⟩)) (t : TypeId) (cs : Array Value) (fr : Nat × Nat) (d : TypeDesc) (hg : w.heap[g]? = some (.cells cs t fr))
    (hu : P.underlying ty = some d) (hd : (match d with | .struct _ | .array _ _ => true | _ => false) = true) (hi : (P.info? ty).map (·.size) = some cs.size)
    (h : wpList P ops Q rest (a.put o.dst (.agg cs)) w) : wpList P ops Q (o :: rest) a w := by
  unfold wpList
  rw [if_pos hw]
  exact .inl (wp_load_row ty x ho g hx t cs fr d hg hu hd hi h)
theorem info26 (p : Pty) : (Try.prog.info? 26).map (·.size) = some p.cells.size := by rw [Pty.size]; kernel_rfl
def talkErr (p q : Pty) (x y : BitVec 16) : Int := if p.okB && q.okB then (if fitB 15 x && fitB 15 y then 0 else 2) else 60
def playC (p q : Pty) (x y : BitVec 16) : Array Value := if talkErr p q x y = 0 then (talkOf p q x y).cells else Z35
end Go.Proofs.Ytfdcapblgdlkaaa
