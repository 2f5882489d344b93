/- New blocks that are written whole as soon as they are made: the world behind is named. -/
import Derived.Test.YtfdcapblgdlkaaaExplHead
namespace Go.Proofs.Ytfdcapblgdlkaaa
open Go.RowKit
section
variable {P : Program} {a : Act} {Q : Exit → Act → World → Prop}
theorem wpList_alloc_as {o : Oper} {ops : Array Oper} {rest : List Oper} {w : World} (hgd : o.guard = none) (T : TypeId) (ho : o.op = .alloc T) (c : Array Value) (hz : ∀ w, (Instr.alloc T true (.tuple #[])).run P w = .ok (.pointer (some ⟨w.heap.size, 0, none⟩)) (w.alloc (.cells c T)))
    (h : wpList P ops Q rest (a.put o.dst (.pointer (some ⟨w.heap.size, 0, none⟩))) (w.alloc (.cells c T))) : wpList P ops Q (o :: rest) a w :=
  wpList_plain hgd fun _ hK => by
    unfold Oper.wp execOp
    simp only [ho, hz, Sem.run_bind, Sem.run_pure, Result.andThen]
    exact hK _ _ h
abbrev ptr (n : Nat) : Value := .pointer (some ⟨n, 0, none⟩)
/-- one block -/
theorem wpList_made1 {o1 o4 : Oper} {ops : Array Oper} {rest : List Oper} {w : World} (t1 : Tmp) (s1 : Operand) (T1 : TypeId) (Z1 c1 : Array Value)
    (g1 : o1.guard = none) (g4 : o4.guard = none) (h1 : o1.op = .alloc T1) (d1 : o1.dst = some t1)
    (z1 : ∀ w, (Instr.alloc T1 true (.tuple #[])).run P w = .ok (ptr w.heap.size) (w.alloc (.cells Z1 T1)))
    (h4 : o4.op = .store T1 (.tmp t1) s1) (d4 : o4.dst = none)
    (x1 : ∀ p, (a.put (some t1) p).eval (.tmp t1) = p) (y1 : ∀ p, (a.put (some t1) p).eval s1 = .agg c1)
    (i1 : (P.info? T1).map (·.size) = some c1.size) (e1 : Z1.size = c1.size) (k1 : c1.all (·.oneCell') = true)
    (h : ∀ n W, w.heap.size ≤ n → Ext w W → Blk W n T1 c1 → wpList P ops Q rest (a.put (some t1) (ptr n)) W) : wpList P ops Q (o1 :: o4 :: rest) a w := by
  refine wpList_alloc_as g1 T1 h1 Z1 z1 ?_
  rw [d1]
  refine wpList_store_row g4 T1 (.tmp t1) s1 h4 w.heap.size (x1 _) T1 Z1 c1 (y1 _) (Blk.new w T1 Z1) i1 e1 k1 ?_
  rw [d4]
  exact h _ _ (Nat.le_refl _) (((Ext.refl w).alloc _).row (Nat.le_refl _) _) ((Blk.new w T1 Z1).row _)
/-- three blocks -/
theorem wpList_made3 {o1 o2 o3 o4 o5 o6 : Oper} {ops : Array Oper} {rest : List Oper} {w : World} (t1 t2 t3 : Tmp) (s1 s2 s3 : Operand) (T1 T2 T3 : TypeId) (Z1 Z2 Z3 c1 c2 c3 : Array Value)
    (g1 : o1.guard = none) (g2 : o2.guard = none) (g3 : o3.guard = none) (g4 : o4.guard = none) (g5 : o5.guard = none) (g6 : o6.guard = none)
    (h1 : o1.op = .alloc T1) (h2 : o2.op = .alloc T2) (h3 : o3.op = .alloc T3) (d1 : o1.dst = some t1) (d2 : o2.dst = some t2) (d3 : o3.dst = some t3)
    (z1 : ∀ w, (Instr.alloc T1 true (.tuple #[])).run P w = .ok (ptr w.heap.size) (w.alloc (.cells Z1 T1)))
    (z2 : ∀ w, (Instr.alloc T2 true (.tuple #[])).run P w = .ok (ptr w.heap.size) (w.alloc (.cells Z2 T2)))
    (z3 : ∀ w, (Instr.alloc T3 true (.tuple #[])).run P w = .ok (ptr w.heap.size) (w.alloc (.cells Z3 T3)))
    (h4 : o4.op = .store T1 (.tmp t1) s1) (h5 : o5.op = .store T2 (.tmp t2) s2) (h6 : o6.op = .store T3 (.tmp t3) s3) (d4 : o4.dst = none) (d5 : o5.dst = none) (d6 : o6.dst = none)
    (x1 : ∀ p q r, (((a.put (some t1) p).put (some t2) q).put (some t3) r).eval (.tmp t1) = p) (x2 : ∀ p q r, (((a.put (some t1) p).put (some t2) q).put (some t3) r).eval (.tmp t2) = q) (x3 : ∀ p q r, (((a.put (some t1) p).put (some t2) q).put (some t3) r).eval (.tmp t3) = r)
    (y1 : ∀ p q r, (((a.put (some t1) p).put (some t2) q).put (some t3) r).eval s1 = .agg c1) (y2 : ∀ p q r, (((a.put (some t1) p).put (some t2) q).put (some t3) r).eval s2 = .agg c2) (y3 : ∀ p q r, (((a.put (some t1) p).put (some t2) q).put (some t3) r).eval s3 = .agg c3)
    (i1 : (P.info? T1).map (·.size) = some c1.size) (i2 : (P.info? T2).map (·.size) = some c2.size) (i3 : (P.info? T3).map (·.size) = some c3.size) (e1 : Z1.size = c1.size) (e2 : Z2.size = c2.size) (e3 : Z3.size = c3.size) (k1 : c1.all (·.oneCell') = true) (k2 : c2.all (·.oneCell') = true) (k3 : c3.all (·.oneCell') = true)
    (h : ∀ n m k W, w.heap.size ≤ n → w.heap.size ≤ m → w.heap.size ≤ k → Ext w W → Blk W n T1 c1 → Blk W m T2 c2 → Blk W k T3 c3 → wpList P ops Q rest (((a.put (some t1) (ptr n)).put (some t2) (ptr m)).put (some t3) (ptr k)) W) : wpList P ops Q (o1 :: o2 :: o3 :: o4 :: o5 :: o6 :: rest) a w := by
  refine wpList_alloc_as g1 T1 h1 Z1 z1 ?_
  rw [d1]
  refine wpList_alloc_as g2 T2 h2 Z2 z2 ?_
  rw [d2]
  refine wpList_alloc_as g3 T3 h3 Z3 z3 ?_
  rw [d3]
  have s1' : (w.alloc (.cells Z1 T1)).heap.size = w.heap.size + 1 := by simp
  have s2' : ((w.alloc (.cells Z1 T1)).alloc (.cells Z2 T2)).heap.size = w.heap.size + 2 := by simp
  have B1 := ((Blk.new w T1 Z1).alloc (.cells Z2 T2)).alloc (.cells Z3 T3)
  have B2 := (Blk.new (w.alloc (.cells Z1 T1)) T2 Z2).alloc (.cells Z3 T3)
  have B3 := Blk.new ((w.alloc (.cells Z1 T1)).alloc (.cells Z2 T2)) T3 Z3
  have E0 := (((Ext.refl w).alloc (.cells Z1 T1)).alloc (.cells Z2 T2)).alloc (.cells Z3 T3)
  rw [s1'] at B2 ⊢
  rw [s2'] at B3 ⊢
  refine wpList_store_row g4 T1 (.tmp t1) s1 h4 w.heap.size (x1 _ _ _) T1 Z1 c1 (y1 _ _ _) B1 i1 e1 k1 ?_
  rw [d4]
  refine wpList_store_row g5 T2 (.tmp t2) s2 h5 (w.heap.size + 1) (x2 _ _ _) T2 Z2 c2 (y2 _ _ _) (B2.rowFar (k := w.heap.size) (by omega) _) i2 e2 k2 ?_
  rw [d5]
  refine wpList_store_row g6 T3 (.tmp t3) s3 h6 (w.heap.size + 2) (x3 _ _ _) T3 Z3 c3 (y3 _ _ _) ((B3.rowFar (k := w.heap.size) (by omega) _).rowFar (k := w.heap.size + 1) (by omega) _) i3 e3 k3 ?_
  rw [d6]
  exact h _ _ _ _ (Nat.le_refl _) (by omega) (by omega) (((E0.row (Nat.le_refl _) _).row (by omega) _).row (by omega) _)
    (((B1.row _).rowFar (k := w.heap.size + 1) (by omega) _).rowFar (k := w.heap.size + 2) (by omega) _)
    (((B2.rowFar (k := w.heap.size) (by omega) _).row _).rowFar (k := w.heap.size + 2) (by omega) _)
    (((B3.rowFar (k := w.heap.size) (by omega) _).rowFar (k := w.heap.size + 1) (by omega) _).row _)
end
theorem alloc26 (w : World) : (Instr.alloc 26 true (.tuple #[])).run Try.prog w = .ok (.pointer (some ⟨w.heap.size, 0, none⟩)) (w.alloc (.cells Z62 26)) := by kernel_rfl
theorem alloc29 (w : World) : (Instr.alloc 29 true (.tuple #[])).run Try.prog w = .ok (.pointer (some ⟨w.heap.size, 0, none⟩)) (w.alloc (.cells Z35 29)) := by kernel_rfl
theorem alloc42 (w : World) : (Instr.alloc 42 true (.tuple #[])).run Try.prog w = .ok (.pointer (some ⟨w.heap.size, 0, none⟩)) (w.alloc (.cells Z78 42)) := by kernel_rfl
theorem eval_ne {a : Act} {d s : Tmp} (v : Value) (h : d ≠ s) : (a.put (some d) v).eval (.tmp s) = a.eval (.tmp s) := by
  simp only [Act.eval, Act.put, Array.getD_eq_getD_getElem?, Array.getElem?_setIfInBounds_ne h]
theorem eval_eq {a : Act} {d : Tmp} (v : Value) (h : d < a.tmps.size) : (a.put (some d) v).eval (.tmp d) = v := by
  simp only [Act.eval, Act.put, Array.getD_eq_getD_getElem?, Array.getElem?_setIfInBounds_self_of_lt h, Option.getD_some]
theorem put_size (a : Act) (d : Tmp) (v : Value) : (a.put (some d) v).tmps.size = a.tmps.size := by
  simp only [Act.put, Array.size_setIfInBounds]
section
variable {a : Act} {Q : Exit → Act → World → Prop}
theorem wpList_talk {o1 o2 o3 o4 o5 o6 : Oper} {ops : Array Oper} {rest : List Oper} {w : World} (t1 t2 t3 s1 s2 s3 : Tmp) (p q : Pty) (t : Tlk) (N : Nat)
    (hall : o1.guard = none ∧ o2.guard = none ∧ o3.guard = none ∧ o4.guard = none ∧ o5.guard = none ∧ o6.guard = none ∧
      o1.op = .alloc 26 ∧ o2.op = .alloc 26 ∧ o3.op = .alloc 29 ∧ o1.dst = some t1 ∧ o2.dst = some t2 ∧ o3.dst = some t3 ∧
      o4.op = .store 26 (.tmp t1) (.tmp s1) ∧ o5.op = .store 26 (.tmp t2) (.tmp s2) ∧ o6.op = .store 29 (.tmp t3) (.tmp s3) ∧ o4.dst = none ∧ o5.dst = none ∧ o6.dst = none ∧
      a.tmps.size = N ∧ (decide (t1 < N) && decide (t2 < N) && decide (t3 < N) && decide (t1 ≠ t2) && decide (t1 ≠ t3) && decide (t2 ≠ t3) && decide (t1 ≠ s1) && decide (t1 ≠ s2) && decide (t1 ≠ s3) && decide (t2 ≠ s1) && decide (t2 ≠ s2) && decide (t2 ≠ s3) && decide (t3 ≠ s1) && decide (t3 ≠ s2) && decide (t3 ≠ s3)) = true ∧
      a.eval (.tmp s1) = .agg p.cells ∧ a.eval (.tmp s2) = .agg q.cells ∧ a.eval (.tmp s3) = .agg t.cells)
    (h : ∀ n m k W, w.heap.size ≤ n → w.heap.size ≤ m → w.heap.size ≤ k → Ext w W → Blk W n 26 p.cells → Blk W m 26 q.cells → Blk W k 29 t.cells → wpList Try.prog ops Q rest (((a.put (some t1) (ptr n)).put (some t2) (ptr m)).put (some t3) (ptr k)) W) : wpList Try.prog ops Q (o1 :: o2 :: o3 :: o4 :: o5 :: o6 :: rest) a w := by
  obtain ⟨g1, g2, g3, g4, g5, g6, h1, h2, h3, d1, d2, d3, h4, h5, h6, d4, d5, d6, hN, hok, y1, y2, y3⟩ := hall
  simp only [Bool.and_eq_true, decide_eq_true_eq] at hok
  obtain ⟨⟨⟨⟨⟨⟨⟨⟨⟨⟨⟨⟨⟨⟨b1, b2⟩, b3⟩, n12⟩, n13⟩, n23⟩, m11⟩, m12⟩, m13⟩, m21⟩, m22⟩, m23⟩, m31⟩, m32⟩, m33⟩ := hok
  subst hN
  exact wpList_made3 t1 t2 t3 (.tmp s1) (.tmp s2) (.tmp s3) 26 26 29 Z62 Z62 Z35 p.cells q.cells t.cells g1 g2 g3 g4 g5 g6 h1 h2 h3 d1 d2 d3 alloc26 alloc26 alloc29 h4 h5 h6 d4 d5 d6
    (fun _ _ _ => by rw [eval_ne _ n13.symm, eval_ne _ n12.symm, eval_eq _ b1])
    (fun _ _ _ => by rw [eval_ne _ n23.symm, eval_eq _ (by rw [put_size]; exact b2)])
    (fun _ _ _ => by rw [eval_eq _ (by rw [put_size, put_size]; exact b3)])
    (fun _ _ _ => by rw [eval_ne _ m31, eval_ne _ m21, eval_ne _ m11]; exact y1)
    (fun _ _ _ => by rw [eval_ne _ m32, eval_ne _ m22, eval_ne _ m12]; exact y2)
    (fun _ _ _ => by rw [eval_ne _ m33, eval_ne _ m23, eval_ne _ m13]; exact y3)
    (info26 _) (info26 _) (info29t _) (z62_size _) (z62_size _) (z35t _) pty_one pty_one tlk_one h
theorem wpList_deal {o1 o4 : Oper} {ops : Array Oper} {rest : List Oper} {w : World} (t1 s1 : Tmp) (d : Dl) (N : Nat)
    (hall : o1.guard = none ∧ o4.guard = none ∧ o1.op = .alloc 42 ∧ o1.dst = some t1 ∧ o4.op = .store 42 (.tmp t1) (.tmp s1) ∧ o4.dst = none ∧
      a.tmps.size = N ∧ (decide (t1 < N) && decide (t1 ≠ s1)) = true ∧ a.eval (.tmp s1) = .agg d.cells)
    (h : ∀ n W, w.heap.size ≤ n → Ext w W → Blk W n 42 d.cells → wpList Try.prog ops Q rest (a.put (some t1) (ptr n)) W) : wpList Try.prog ops Q (o1 :: o4 :: rest) a w := by
  obtain ⟨g1, g4, h1, d1, h4, d4, hN, hok, y1⟩ := hall
  simp only [Bool.and_eq_true, decide_eq_true_eq] at hok
  subst hN
  exact wpList_made1 t1 (.tmp s1) 42 Z78 d.cells g1 g4 h1 d1 alloc42 h4 d4 (fun _ => by rw [eval_eq _ hok.1]) (fun _ => by rw [eval_ne _ hok.2]; exact y1) (info42 _) (z78_size _) dl_one h
end
section
variable {a : Act} {Q : Exit → Act → World → Prop}
theorem wp_load_one {o : Oper} {w : World} {K : Act → World → Prop} (ty : TypeId) (x : Operand) (ho : o.op = .load ty x) (hg : ∀ w, (isAgg ty).run Try.prog w = .ok false w) (p : Addr) (hx : a.eval x = .pointer (some p)) (v : Value) (hc : w.cell? p = some v)
    (h : K (a.put o.dst v) w) : o.wp Try.prog a w K Q := by
  unfold Oper.wp execOp
  have hl : (loadVar ty p).run Try.prog w = .ok v w := by simp [loadVar, hg, hc]
  simp only [ho, hx, Instr.loadAt, Instr.sureAddr, Sem.run_bind, Sem.run_pure, Result.andThen_ok, hl]
  exact h
theorem wpList_load_one {ops : Array Oper} {rest : List Oper} {o : Oper} {w : World} (hgd : o.guard = none) (ty : TypeId) (x : Operand) (ho : o.op = .load ty x) (hg : ∀ w, (isAgg ty).run Try.prog w = .ok false w)
    (p : Addr) (hx : a.eval x = .pointer (some p)) (v : Value) (hc : w.cell? p = some v) (h : wpList Try.prog ops Q rest (a.put o.dst v) w) : wpList Try.prog ops Q (o :: rest) a w :=
  wpList_plain hgd fun _ hK => wp_load_one ty x ho hg p hx v hc (hK _ _ h)
theorem wpList_load_one_g {ops : Array Oper} {rest : List Oper} {o : Oper} {w : World} (ty : TypeId) (x : Operand) (ho : o.op = .load ty x) (hw : Region.wanted o (yielded ops a.tmps) = true) (hg : ∀ w, (isAgg ty).run Try.prog w = .ok false w)
    (p : Addr) (hx : a.eval x = .pointer (some p)) (v : Value) (hc : w.cell? p = some v) (h : wpList Try.prog ops Q rest (a.put o.dst v) w) : wpList Try.prog ops Q (o :: rest) a w := by
  unfold wpList
  rw [if_pos hw]
  exact .inl (wp_load_one ty x ho hg p hx v hc h)
end
theorem agg4 (w : World) : (isAgg 4).run Try.prog w = .ok false w := by kernel_rfl
theorem agg5 (w : World) : (isAgg 5).run Try.prog w = .ok false w := by kernel_rfl
/-- the first operation is this one: a quick look (with_reducible refine) ahead of an arm -/
theorem pre_op {P : Program} {Q : Exit → Act → World → Prop} {a : Act} {ops : Array Oper} {rest : List Oper} {w : World} {dst : Option Tmp} (op : Op) {ty : TypeId} {pos : String} {after : Array Edge} {g : Option (Nat × Bool)}
    (h : wpList P ops Q (⟨dst, op, ty, pos, after, g⟩ :: rest) a w) : wpList P ops Q (⟨dst, op, ty, pos, after, g⟩ :: rest) a w := h
end Go.Proofs.Ytfdcapblgdlkaaa
