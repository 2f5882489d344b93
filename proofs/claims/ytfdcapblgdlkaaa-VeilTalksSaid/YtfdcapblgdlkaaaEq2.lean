/- Equality of parties, deals and arrays. -/
import Derived.Test.YtfdcapblgdlkaaaBlindLaw
namespace Go.Proofs.Ytfdcapblgdlkaaa
open Go.RowKit

def ptyL (p : Pty) : List Lit := u8L p.m ++ (u8L p.s ++ ([.int .u8 p.sh] ++ u32L p.t))
set_option maxRecDepth 100000 in
theorem keyT26 (p : Pty) (h : p.ok) : Try.prog.keyLits 10 26 p.cells.toList = some (ptyL p) := by
  have h0 := key22 7 p.m h.m
  have h1 := key22 7 p.s h.s
  have h2 := key5 8 p.sh h.sh
  have h3 := key24 7 p.t h.t
  unfold Program.keyLits
  rw [Try.underlying26]
  have e0 : p.cells.toList.take 15 = valL 15 (u8V p.m) := by kernel_rfl
  have e1 : (p.cells.toList.drop 15).take 15 = valL 15 (u8V p.s) := by kernel_rfl
  have e2 : (p.cells.toList.drop 30).take 1 = [.int .u8 p.sh] := by kernel_rfl
  have e3 : (p.cells.toList.drop 31).take 31 = valL 31 (u32V p.t) := by kernel_rfl
  have c22 : Try.prog.cellsOf 22 = 15 := by kernel_rfl
  have c24 : Try.prog.cellsOf 24 = 31 := by kernel_rfl
  have c5 : Try.prog.cellsOf 5 = 1 := by kernel_rfl
  have c26 : Try.prog.cellsOf 26 = 62 := by kernel_rfl
  have hl : p.cells.toList.length = 62 := by rw [Array.length_toList, Pty.size]
  simp only [hl, c26]
  simp [c22, c24, c5, e0, e1, e2, e3, h0, h1, h2, h3, ptyL]
theorem form26 (p : Pty) : (Value.agg p.cells).formed Try.prog 26 = true := by kernel_rfl
theorem kt26 : Try.prog.keyTypeAt 10 26 = true := by kernel_rfl
theorem eg26 : Try.prog.eqGuardType Try.prog.depth 26 = false := by kernel_rfl
theorem eq26 (p : Pty) (h : p.ok) (w : World) : (Op.equalIn 10000 26 (.agg p.cells) (.agg p.cells)).run Try.prog w = .ok true w :=
  eq_same kt26 (form26 p) (keyT26 p h) w
def dlL (d : Dl) : List Lit := u8L d.a ++ (u8L d.b ++ (u8L d.u ++ ([.int .u8 d.rc] ++ ([.int .u8 d.rs] ++ u32L d.t))))
set_option maxRecDepth 100000 in
theorem keyT42 (d : Dl) (h : d.ok) : Try.prog.keyLits 10 42 d.cells.toList = some (dlL d) := by
  have h0 := key22 7 d.a h.a
  have h1 := key22 7 d.b h.b
  have h2 := key22 7 d.u h.u
  have h3 := key5 8 d.rc h.rc
  have h4 := key5 8 d.rs h.rs
  have h5 := key24 7 d.t h.t
  unfold Program.keyLits
  rw [Try.underlying42]
  have e0 : d.cells.toList.take 15 = valL 15 (u8V d.a) := by kernel_rfl
  have e1 : (d.cells.toList.drop 15).take 15 = valL 15 (u8V d.b) := by kernel_rfl
  have e2 : (d.cells.toList.drop 30).take 15 = valL 15 (u8V d.u) := by kernel_rfl
  have e3 : (d.cells.toList.drop 45).take 1 = [.int .u8 d.rc] := by kernel_rfl
  have e4 : (d.cells.toList.drop 46).take 1 = [.int .u8 d.rs] := by kernel_rfl
  have e5 : (d.cells.toList.drop 47).take 31 = valL 31 (u32V d.t) := by kernel_rfl
  have c22 : Try.prog.cellsOf 22 = 15 := by kernel_rfl
  have c24 : Try.prog.cellsOf 24 = 31 := by kernel_rfl
  have c5 : Try.prog.cellsOf 5 = 1 := by kernel_rfl
  have c42 : Try.prog.cellsOf 42 = 78 := by kernel_rfl
  have hl : d.cells.toList.length = 78 := by rw [Array.length_toList, Dl.size]
  simp only [hl, c42]
  simp [c22, c24, c5, e0, e1, e2, e3, e4, e5, h0, h1, h2, h3, h4, h5, dlL]
theorem form42 (d : Dl) : (Value.agg d.cells).formed Try.prog 42 = true := by kernel_rfl
theorem kt42 : Try.prog.keyTypeAt 10 42 = true := by kernel_rfl
theorem eg42 : Try.prog.eqGuardType Try.prog.depth 42 = false := by kernel_rfl
theorem eq42 (d : Dl) (h : d.ok) (w : World) : (Op.equalIn 10000 42 (.agg d.cells) (.agg d.cells)).run Try.prog w = .ok true w :=
  eq_same kt42 (form42 d) (keyT42 d h) w
theorem form22 (f : Nat → Int) : (Value.agg (A15 f)).formed Try.prog 22 = true := by kernel_rfl
theorem kt22 : Try.prog.keyTypeAt 10 22 = true := by kernel_rfl
theorem eg22 : Try.prog.eqGuardType Try.prog.depth 22 = false := by kernel_rfl
theorem eq22 (f : Nat → Int) (h : ∀ i, i < 15 → 0 ≤ f i ∧ f i < 256) (w : World) : (Op.equalIn 10000 22 (.agg (A15 f)) (.agg (A15 f))).run Try.prog w = .ok true w :=
  eq_same kt22 (form22 f) (key22 8 f h) w
theorem form24 (f : Nat → Int) : (Value.agg (A31 f)).formed Try.prog 24 = true := by kernel_rfl
theorem kt24 : Try.prog.keyTypeAt 10 24 = true := by kernel_rfl
theorem eg24 : Try.prog.eqGuardType Try.prog.depth 24 = false := by kernel_rfl
theorem eq24 (f : Nat → Int) (h : ∀ i, i < 31 → 0 ≤ f i ∧ f i < 4294967296) (w : World) : (Op.equalIn 10000 24 (.agg (A31 f)) (.agg (A31 f))).run Try.prog w = .ok true w :=
  eq_same kt24 (form24 f) (key24 8 f h) w
section
variable {P : Program} {ops : Array Oper} {rest : List Oper} {o : Oper} {a : Act} {w : World} {K : Act → World → Prop} {Q : Exit → Act → World → Prop}
theorem wp_neq_row (T : TypeId) (x y : Operand) (ho : o.op = .binOp .neq T x y T) (c c' : Array Value) (hx : a.eval x = .agg c) (hy : a.eval y = .agg c') (hm : P.eqGuardType P.depth T = false) (b : Bool) (he : ∀ w, (Op.equalIn 10000 T (.agg c) (.agg c')).run P w = .ok b w)
    (h : K (a.put o.dst (.bool !b)) w) : o.wp P a w K Q := by
  unfold Oper.wp execOp
  simp only [ho, hx, hy]
  simp [go_sem, hm, he]
  exact h
theorem wp_eql_row (T : TypeId) (x y : Operand) (ho : o.op = .binOp .eql T x y T) (c c' : Array Value) (hx : a.eval x = .agg c) (hy : a.eval y = .agg c') (hm : P.eqGuardType P.depth T = false) (b : Bool) (he : ∀ w, (Op.equalIn 10000 T (.agg c) (.agg c')).run P w = .ok b w)
    (h : K (a.put o.dst (.bool b)) w) : o.wp P a w K Q := by
  unfold Oper.wp execOp
  simp only [ho, hx, hy]
  simp [go_sem, hm, he]
  exact h
theorem wpList_neq_row (hgd : o.guard = none) (T : TypeId) (x y : Operand) (ho : o.op = .binOp .neq T x y T) (c c' : Array Value) (hx : a.eval x = .agg c) (hy : a.eval y = .agg c') (hm : P.eqGuardType P.depth T = false) (b : Bool) (he : ∀ w, (Op.equalIn 10000 T (.agg c) (.agg c')).run P w = .ok b w)
    (h : wpList P ops Q rest (a.put o.dst (.bool !b)) w) : wpList P ops Q (o :: rest) a w :=
  wpList_plain hgd fun _ hK => wp_neq_row T x y ho c c' hx hy hm b he (hK _ _ h)
theorem wpList_neq_row_g (T : TypeId) (x y : Operand) (ho : o.op = .binOp .neq T x y T) (hw : Region.wanted o (yielded ops a.tmps) = true) (c c' : Array Value) (hx : a.eval x = .agg c) (hy : a.eval y = .agg c') (hm : P.eqGuardType P.depth T = false) (b : Bool) (he : ∀ w, (Op.equalIn 10000 T (.agg c) (.agg c')).run P w = .ok b w)
    (h : wpList P ops Q rest (a.put o.dst (.bool !b)) w) : wpList P ops Q (o :: rest) a w := by
  unfold wpList
  rw [if_pos hw]
  exact .inl (wp_neq_row T x y ho c c' hx hy hm b he h)
theorem wpList_eql_row_g (T : TypeId) (x y : Operand) (ho : o.op = .binOp .eql T x y T) (hw : Region.wanted o (yielded ops a.tmps) = true) (c c' : Array Value) (hx : a.eval x = .agg c) (hy : a.eval y = .agg c') (hm : P.eqGuardType P.depth T = false) (b : Bool) (he : ∀ w, (Op.equalIn 10000 T (.agg c) (.agg c')).run P w = .ok b w)
    (h : wpList P ops Q rest (a.put o.dst (.bool b)) w) : wpList P ops Q (o :: rest) a w := by
  unfold wpList
  rw [if_pos hw]
  exact .inl (wp_eql_row T x y ho c c' hx hy hm b he h)
end
end Go.Proofs.Ytfdcapblgdlkaaa
