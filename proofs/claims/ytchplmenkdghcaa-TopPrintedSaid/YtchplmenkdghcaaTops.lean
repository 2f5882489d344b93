/- The reference's attempt of a move (Bends 41, Tried 57). -/
import Derived.Test.YtchplmenkdghcaaTries
import Derived.Test.YtchplmenkdghcaaPlace
namespace Go.Proofs.Ytchplmenkdghcaa
open Go.RowKit
def bdAt (i : Nat) : Bd := ⟨(i : Int) / 27 - 1, (i : Int) / 9 % 3 - 1, (i : Int) / 3 % 3 - 1, (i : Int) % 3 - 1⟩
def bendsK (E : Nat) (k : Nat) : List Bd := ((List.range k).map bdAt).filter fun b => isBend E b.f
theorem bends_eq0 : bendsK 0 81 = growL 0 4 0 bd0 := by kernel_rfl
theorem bends_eq1 : bendsK 1 81 = growL 1 4 0 bd0 := by kernel_rfl
theorem bends_eq (E : Nat) (h : E ≤ 1) : bendsK E 81 = growL E 4 0 bd0 := by
  rcases (show E = 0 ∨ E = 1 by omega) with rfl | rfl
  · exact bends_eq0
  · exact bends_eq1
theorem bends_len (E : Nat) (h : E ≤ 1) : 1 ≤ (bendsK E 81).length ∧ (bendsK E 81).length ≤ 81 := by
  rcases (show E = 0 ∨ E = 1 by omega) with rfl | rfl <;> decide +kernel
end Go.Proofs.Ytchplmenkdghcaa
/- Attempts with their errors (Try 23, 24). -/
namespace Go.Proofs.Ytchplmenkdghcaa
open Go.RowKit
def trK (c : Cl) (lp lq : List Mi) (v : Mv) : At := tryL (fun b => scrK c lp lq v b.f) v (growL c.elastic.toNat 4 0 bd0)
end Go.Proofs.Ytchplmenkdghcaa
/- The reference: the greatest score (Top, 78), the first block with the greatest bound (High, 82), halves of a block (83, 90). -/
namespace Go.Proofs.Ytchplmenkdghcaa
open Go.RowKit
abbrev At.cellsL (x : At) : List Value := [.int .i64 x.mv.turn, .int .i64 x.mv.dx, .int .i64 x.mv.dy, .int .i64 x.bd.a, .int .i64 x.bd.b, .int .i64 x.bd.c, .int .i64 x.bd.d, .int .i64 x.score]
abbrev Rs.cellsL (x : Rs) : List Value := [.int .i64 x.bk.turn, .int .i64 x.bk.x0, .int .i64 x.bk.y0, .int .i64 x.bk.x1, .int .i64 x.bk.y1, .int .i64 x.bound]
theorem at_len (x : At) : x.cellsL.length = 8 := rfl
theorem rs_len (x : Rs) : x.cellsL.length = 6 := rfl
theorem at_one (x : At) : ∀ u ∈ x.cellsL, u.oneCell' = true := by
  intro u hu
  simp only [At.cellsL, List.mem_cons, List.not_mem_nil, or_false] at hu
  rcases hu with rfl | rfl | rfl | rfl | rfl | rfl | rfl | rfl <;> rfl
theorem rs_one (x : Rs) : ∀ u ∈ x.cellsL, u.oneCell' = true := by
  intro u hu
  simp only [Rs.cellsL, List.mem_cons, List.not_mem_nil, or_false] at hu
  rcases hu with rfl | rfl | rfl | rfl | rfl | rfl <;> rfl
theorem infoAt : ElemInfo Try.prog 42 78 8 64 := elemInfo (z := .agg #[.int .i64 0, .int .i64 0, .int .i64 0, .int .i64 0, .int .i64 0, .int .i64 0, .int .i64 0, .int .i64 0]) Try.underlying42 (by kernel_rfl) rfl (by decide)
theorem infoRs : ElemInfo Try.prog 43 70 6 48 := elemInfo (z := .agg #[.int .i64 0, .int .i64 0, .int .i64 0, .int .i64 0, .int .i64 0, .int .i64 0]) Try.underlying43 (by kernel_rfl) rfl (by decide)
def Ats (w : World) (A : Option Addr) (l : List At) : Prop := Sl 8 At.cellsL w A l
def Rss (w : World) (A : Option Addr) (l : List Rs) : Prop := Sl 6 Rs.cellsL w A l
theorem Ats.grow {w w' : World} {A : Option Addr} {l : List At} (h : Ats w A l) (hg : Ext w w') : Ats w' A l := Sl.grow h hg
theorem Rss.grow {w w' : World} {A : Option Addr} {l : List Rs} (h : Rss w A l) (hg : Ext w w') : Rss w' A l := Sl.grow h hg
theorem Ats.own {w : World} {base : Nat} {l : List At} {A : Option Addr} {c : Nat} (h : w.ownsRow base 78 8 (.slice A l.length c) l.length (flatG At.cellsL l)) : Ats w A l := Slc.sl at_len (Slc.of_own h)
theorem Rss.own {w : World} {base : Nat} {l : List Rs} {A : Option Addr} {c : Nat} (h : w.ownsRow base 70 6 (.slice A l.length c) l.length (flatG Rs.cellsL l)) : Rss w A l := Slc.sl rs_len (Slc.of_own h)
/-- the greatest score of the first k -/
def topN (l : List At) (k : Nat) : Int := topA (l.take k)
theorem topN_succ {l : List At} {k : Nat} {x : At} (h : l[k]? = some x) : topN l (k + 1) = max (topN l k) x.score := by
  have hk : k < l.length := by
    rcases Nat.lt_or_ge k l.length with h1 | h1
    · exact h1
    · rw [List.getElem?_eq_none h1] at h; cases h
  unfold topN
  rw [List.take_succ_eq_append_getElem hk, topA_append]
  rw [List.getElem?_eq_getElem hk] at h
  injection h with h
  rw [h]
structure TwoB (V : World) (t : TypeId) (cs : Array Value) (g h : Nat) (W : World) : Prop where
  one : Blk W g t cs
  two : Blk W h t cs
  ge : V.heap.size ≤ g ∧ V.heap.size ≤ h ∧ g ≠ h
  ext : Ext V W
theorem two_new (V : World) (t : TypeId) (cs : Array Value) : TwoB V t cs V.heap.size (V.heap.size + 1) ((V.alloc (.cells cs t)).alloc (.cells cs t)).drew :=
  ⟨((Blk.new V t cs).alloc _).drew, (Blk.new' (V.alloc (.cells cs t)) t cs _ (by simp)).drew, ⟨Nat.le_refl _, by omega, by omega⟩, (((Ext.refl V).alloc _).alloc _).drew⟩
theorem TwoB.swap {V : World} {t : TypeId} {cs : Array Value} {g h : Nat} {W : World} (x : TwoB V t cs g h W) : TwoB V t cs h g W :=
  ⟨x.two, x.one, ⟨x.ge.2.1, x.ge.1, fun e => x.ge.2.2 e.symm⟩, x.ext⟩
end Go.Proofs.Ytchplmenkdghcaa
/- Points in the order of a print (46). -/
namespace Go.Proofs.Ytchplmenkdghcaa
open Go.RowKit
def ltM (a b : Mi) : Bool := decide (a.y < b.y) || (a.y == b.y && decide (a.x < b.x))
theorem ltM_iff {a b : Mi} : ltM a b = true ↔ a.y < b.y ∨ a.y = b.y ∧ a.x < b.x := by simp [ltM]
theorem ltM_not {a b : Mi} : ltM a b = false ↔ ¬ (a.y < b.y ∨ a.y = b.y ∧ a.x < b.x) := by
  rw [← ltM_iff]; simp
def leR (a b : Mi) : Prop := ltM b a = false
end Go.Proofs.Ytchplmenkdghcaa
