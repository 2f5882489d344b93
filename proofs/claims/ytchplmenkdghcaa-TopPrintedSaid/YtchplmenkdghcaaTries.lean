/- The program's attempt of a move (bends 76, 87; try 56). -/
import Derived.Test.YtchplmenkdghcaaGrow
import Derived.Test.YtchplmenkdghcaaScores
namespace Go.Proofs.Ytchplmenkdghcaa
open Go.RowKit Go.Shelf
theorem bends_any (c : Cl) (w : World) : Calls Try.prog 42 #[c.val] w fun e w' => e = .returned (.func (.func 52) #[] #[.pointer (some ⟨w.heap.size, 0, none⟩)]) ∧ w' = w.alloc (.cells #[.int .i64 c.turns, .int .i64 c.shift, .int .i64 c.elastic, .int .i64 c.reach, .int .i64 c.spread] 26) := by
  go_enter Try.func42, Try.ntmps42
  go_wp2
  go_ret
  exact ⟨rfl, rfl⟩
def bd0 : Bd := ⟨0, 0, 0, 0⟩
set_option maxRecDepth 100000 in
set_option maxHeartbeats 2000000 in
theorem bends1_any (l cB E : Nat) (hE : E ≤ 1) (J : List Bd → World → Prop) (W : World) (h : GrIn l cB W.heap.size E (inX E 4) J) (hJ : J [] W) :
    Calls Try.prog 52 #[.func (.yield l) #[] #[], .pointer (some ⟨cB, 0, none⟩)] W fun e W' => (∃ v, e = .returned v) ∧ J (growL E 4 0 bd0) W' := by
  have HH := Lib.hid h
  have HJ := Lib.hid hJ
  clear h hJ
  go_enter Try.func52, Try.ntmps52
  go_wp2_with fail
  have HN := Lib.hid (Blk.new' ((W.alloc (.cells #[.func (.yield l) #[] #[]] 116)).alloc (.cells #[.int .i64 0, .int .i64 0, .int .i64 0, .int .i64 0] 53)) 117 #[.nilFunc] (W.heap.size + 1 + 1) (by simp))
  have cN : (((W.alloc (.cells #[.func (.yield l) #[] #[]] 116)).alloc (.cells #[.int .i64 0, .int .i64 0, .int .i64 0, .int .i64 0] 53)).alloc (.cells #[.nilFunc] 117)).cell? ⟨W.heap.size + 1 + 1, 0, none⟩ = some .nilFunc := HN.out.cell 0
  have fN := HN.out.frozen 0
  have hoc : Value.oneCell' (.func (.func 53) #[] #[.pointer (some ⟨W.heap.size, 0, none⟩), .pointer (some ⟨W.heap.size + 1, 0, none⟩), .pointer (some ⟨cB, 0, none⟩), .pointer (some ⟨W.heap.size + 1 + 1, 0, none⟩)]) = true := rfl
  rw [run_store _ _ _ _ _ hoc]
  simp only [cN, fN]
  clear cN fN hoc
  go_wp2_with fail
  have hz := Below.refl W.heap.size W
  have h1 := ((hz.alloc (Nat.le_refl _) (.cells #[.func (.yield l) #[] #[]] 116)).alloc (by simp) (.cells #[.int .i64 0, .int .i64 0, .int .i64 0, .int .i64 0] 53)).alloc (by simp; omega) (.cells #[.func (.func 53) #[] #[.pointer (some ⟨W.heap.size, 0, none⟩), .pointer (some ⟨W.heap.size + 1, 0, none⟩), .pointer (some ⟨cB, 0, none⟩), .pointer (some ⟨W.heap.size + 1 + 1, 0, none⟩)]] 117)
  refine (grow_any l cB W.heap.size E hE J HH.out 4 0 rfl bd0 [] _ (HH.out.keep _ _ _ HJ.out h1) ⟨?_, ?_, ?_⟩ (fun j h => absurd h (Nat.not_lt_zero _))).mono ?_
  · exact ((Blk.new W 116 #[.func (.yield l) #[] #[]]).alloc _).alloc _
  · exact (Blk.new' (W.alloc (.cells #[.func (.yield l) #[] #[]] 116)) 53 bd0.cells (W.heap.size + 1) (by simp)).alloc _
  · exact Blk.new' ((W.alloc (.cells #[.func (.yield l) #[] #[]] 116)).alloc (.cells bd0.cells 53)) 117 _ (W.heap.size + 2) (by simp)
  rintro e W3 ⟨rfl, hJ3, -⟩
  go_wp2_with fail
  go_end0
  exact ⟨⟨_, rfl⟩, hJ3⟩
abbrev At.cells (x : At) : Array Value := #[.int .i64 x.mv.turn, .int .i64 x.mv.dx, .int .i64 x.mv.dy, .int .i64 x.bd.a, .int .i64 x.bd.b, .int .i64 x.bd.c, .int .i64 x.bd.d, .int .i64 x.score]
abbrev At.val (x : At) : Value := .agg x.cells
def stepT (f : Bd → Int) (best : At) (b : Bd) : At := if best.score < f b then ⟨best.mv, b, f b⟩ else best
def tryL (f : Bd → Int) (v : Mv) (l : List Bd) : At := l.foldl (stepT f) ⟨v, bd0, -1⟩
theorem tryL_snoc (f : Bd → Int) (v : Mv) (l : List Bd) (b : Bd) : tryL f v (l ++ [b]) = stepT f (tryL f v l) b := by simp [tryL]
/-- what lies ahead of the loop -/
structure TryI (w : World) (PS QS : Value) (cl : Cl) (mv : Mv) (best : At) (W : World) : Prop where
  p : Blk W w.heap.size 38 #[PS]
  q : Blk W (w.heap.size + 1) 38 #[QS]
  c : Blk W (w.heap.size + 1 + 1) 26 #[.int .i64 cl.turns, .int .i64 cl.shift, .int .i64 cl.elastic, .int .i64 cl.reach, .int .i64 cl.spread]
  v : Blk W (w.heap.size + 1 + 1 + 1) 51 #[.int .i64 mv.turn, .int .i64 mv.dx, .int .i64 mv.dy]
  r : Blk W (w.heap.size + 1 + 1 + 1 + 1) 78 #[.int .i64 0, .int .i64 0, .int .i64 0, .int .i64 0, .int .i64 0, .int .i64 0, .int .i64 0, .int .i64 0]
  best : Blk W (w.heap.size + 1 + 1 + 1 + 1 + 1) 78 best.cells
  cls : Blk W (w.heap.size + 1 + 1 + 1 + 1 + 1 + 1) 26 #[.int .i64 cl.turns, .int .i64 cl.shift, .int .i64 cl.elastic, .int .i64 cl.reach, .int .i64 cl.spread]
  ext : Ext w W
theorem TryI.keep {w : World} {PS QS : Value} {c : Cl} {v : Mv} {best : At} {A A' : World} (h : TryI w PS QS c v best A) (k : Below (w.heap.size + 7) A A') : TryI w PS QS c v best A' :=
  ⟨(k.block _ (by omega)).trans h.p, (k.block _ (by omega)).trans h.q, (k.block _ (by omega)).trans h.c, (k.block _ (by omega)).trans h.v, (k.block _ (by omega)).trans h.r, (k.block _ (by omega)).trans h.best, (k.block _ (by omega)).trans h.cls, Below.trans h.ext (k.mono (by omega))⟩
theorem TryI.grow {w : World} {PS QS : Value} {c : Cl} {v : Mv} {best : At} {A A' : World} (h : TryI w PS QS c v best A) (k : Ext A A') : TryI w PS QS c v best A' :=
  ⟨h.p.grow k, h.q.grow k, h.c.grow k, h.v.grow k, h.r.grow k, h.best.grow k, h.cls.grow k, h.ext.trans k⟩
theorem TryI.five {w : World} {PS QS : Value} {c : Cl} {v : Mv} {best : At} {A : World} (h : TryI w PS QS c v best A) (x : Bd) (s : Int) : TryI w PS QS c v ⟨best.mv, x, s⟩ (((((A.setCell ⟨w.heap.size + 1 + 1 + 1 + 1 + 1, 3, none⟩ (.int .i64 x.a)).setCell ⟨w.heap.size + 1 + 1 + 1 + 1 + 1, 4, none⟩ (.int .i64 x.b)).setCell ⟨w.heap.size + 1 + 1 + 1 + 1 + 1, 5, none⟩ (.int .i64 x.c)).setCell ⟨w.heap.size + 1 + 1 + 1 + 1 + 1, 6, none⟩ (.int .i64 x.d)).setCell ⟨w.heap.size + 1 + 1 + 1 + 1 + 1, 7, none⟩ (.int .i64 s)) :=
  ⟨(((((h.p.far (by show w.heap.size ≠ w.heap.size + 1 + 1 + 1 + 1 + 1; omega) _).far (by show w.heap.size ≠ w.heap.size + 1 + 1 + 1 + 1 + 1; omega) _).far (by show w.heap.size ≠ w.heap.size + 1 + 1 + 1 + 1 + 1; omega) _).far (by show w.heap.size ≠ w.heap.size + 1 + 1 + 1 + 1 + 1; omega) _).far (by show w.heap.size ≠ w.heap.size + 1 + 1 + 1 + 1 + 1; omega) _), (((((h.q.far (by show w.heap.size + 1 ≠ w.heap.size + 1 + 1 + 1 + 1 + 1; omega) _).far (by show w.heap.size + 1 ≠ w.heap.size + 1 + 1 + 1 + 1 + 1; omega) _).far (by show w.heap.size + 1 ≠ w.heap.size + 1 + 1 + 1 + 1 + 1; omega) _).far (by show w.heap.size + 1 ≠ w.heap.size + 1 + 1 + 1 + 1 + 1; omega) _).far (by show w.heap.size + 1 ≠ w.heap.size + 1 + 1 + 1 + 1 + 1; omega) _), (((((h.c.far (by show w.heap.size + 1 + 1 ≠ w.heap.size + 1 + 1 + 1 + 1 + 1; omega) _).far (by show w.heap.size + 1 + 1 ≠ w.heap.size + 1 + 1 + 1 + 1 + 1; omega) _).far (by show w.heap.size + 1 + 1 ≠ w.heap.size + 1 + 1 + 1 + 1 + 1; omega) _).far (by show w.heap.size + 1 + 1 ≠ w.heap.size + 1 + 1 + 1 + 1 + 1; omega) _).far (by show w.heap.size + 1 + 1 ≠ w.heap.size + 1 + 1 + 1 + 1 + 1; omega) _), (((((h.v.far (by show w.heap.size + 1 + 1 + 1 ≠ w.heap.size + 1 + 1 + 1 + 1 + 1; omega) _).far (by show w.heap.size + 1 + 1 + 1 ≠ w.heap.size + 1 + 1 + 1 + 1 + 1; omega) _).far (by show w.heap.size + 1 + 1 + 1 ≠ w.heap.size + 1 + 1 + 1 + 1 + 1; omega) _).far (by show w.heap.size + 1 + 1 + 1 ≠ w.heap.size + 1 + 1 + 1 + 1 + 1; omega) _).far (by show w.heap.size + 1 + 1 + 1 ≠ w.heap.size + 1 + 1 + 1 + 1 + 1; omega) _), (((((h.r.far (by show w.heap.size + 1 + 1 + 1 + 1 ≠ w.heap.size + 1 + 1 + 1 + 1 + 1; omega) _).far (by show w.heap.size + 1 + 1 + 1 + 1 ≠ w.heap.size + 1 + 1 + 1 + 1 + 1; omega) _).far (by show w.heap.size + 1 + 1 + 1 + 1 ≠ w.heap.size + 1 + 1 + 1 + 1 + 1; omega) _).far (by show w.heap.size + 1 + 1 + 1 + 1 ≠ w.heap.size + 1 + 1 + 1 + 1 + 1; omega) _).far (by show w.heap.size + 1 + 1 + 1 + 1 ≠ w.heap.size + 1 + 1 + 1 + 1 + 1; omega) _), (((((h.best.set_ 3 _).set_ 4 _).set_ 5 _).set_ 6 _).set_ 7 _), (((((h.cls.far (by show w.heap.size + 1 + 1 + 1 + 1 + 1 + 1 ≠ w.heap.size + 1 + 1 + 1 + 1 + 1; omega) _).far (by show w.heap.size + 1 + 1 + 1 + 1 + 1 + 1 ≠ w.heap.size + 1 + 1 + 1 + 1 + 1; omega) _).far (by show w.heap.size + 1 + 1 + 1 + 1 + 1 + 1 ≠ w.heap.size + 1 + 1 + 1 + 1 + 1; omega) _).far (by show w.heap.size + 1 + 1 + 1 + 1 + 1 + 1 ≠ w.heap.size + 1 + 1 + 1 + 1 + 1; omega) _).far (by show w.heap.size + 1 + 1 + 1 + 1 + 1 + 1 ≠ w.heap.size + 1 + 1 + 1 + 1 + 1; omega) _), (Ext.setCell (Ext.setCell (Ext.setCell (Ext.setCell (Ext.setCell h.ext (p := ⟨w.heap.size + 1 + 1 + 1 + 1 + 1, 3, none⟩) (by show w.heap.size ≤ w.heap.size + 1 + 1 + 1 + 1 + 1; omega) _) (p := ⟨w.heap.size + 1 + 1 + 1 + 1 + 1, 4, none⟩) (by show w.heap.size ≤ w.heap.size + 1 + 1 + 1 + 1 + 1; omega) _) (p := ⟨w.heap.size + 1 + 1 + 1 + 1 + 1, 5, none⟩) (by show w.heap.size ≤ w.heap.size + 1 + 1 + 1 + 1 + 1; omega) _) (p := ⟨w.heap.size + 1 + 1 + 1 + 1 + 1, 6, none⟩) (by show w.heap.size ≤ w.heap.size + 1 + 1 + 1 + 1 + 1; omega) _) (p := ⟨w.heap.size + 1 + 1 + 1 + 1 + 1, 7, none⟩) (by show w.heap.size ≤ w.heap.size + 1 + 1 + 1 + 1 + 1; omega) _)⟩
/-- an attempt is stored -/
theorem store_att {W : World} {g : Nat} {z0 z1 z2 z3 z4 z5 z6 z7 : Value} (h : Blk W g 78 #[z0, z1, z2, z3, z4, z5, z6, z7]) (x : At) : Blk ((((((((W.setCell ⟨g, 0, none⟩ (.int .i64 x.mv.turn)).setCell ⟨g, 1, none⟩ (.int .i64 x.mv.dx)).setCell ⟨g, 2, none⟩ (.int .i64 x.mv.dy)).setCell ⟨g, 3, none⟩ (.int .i64 x.bd.a)).setCell ⟨g, 4, none⟩ (.int .i64 x.bd.b)).setCell ⟨g, 5, none⟩ (.int .i64 x.bd.c)).setCell ⟨g, 6, none⟩ (.int .i64 x.bd.d)).setCell ⟨g, 7, none⟩ (.int .i64 x.score)) g 78 x.cells := by
  have h8 := ((((((((h.set_ 0 (.int .i64 x.mv.turn)).set_ 1 (.int .i64 x.mv.dx)).set_ 2 (.int .i64 x.mv.dy)).set_ 3 (.int .i64 x.bd.a)).set_ 4 (.int .i64 x.bd.b)).set_ 5 (.int .i64 x.bd.c)).set_ 6 (.int .i64 x.bd.d)).set_ 7 (.int .i64 x.score))
  simp only [List.setIfInBounds_toArray, List.set_cons_zero, List.set_cons_succ] at h8
  exact h8
section
attribute [local go_sem] Oper.semAt_some
set_option maxRecDepth 100000 in
set_option maxHeartbeats 4000000 in
theorem try_any (c : Cl) (hc : c.ok) (lp lq : List Mi) (v : Mv) (hp : ∀ m ∈ lp, m.ok) (hq : ∀ m ∈ lq, m.ok) (ht : -3 ≤ v.turn ∧ v.turn ≤ 3) (hdx : -4 ≤ v.dx ∧ v.dx ≤ 4) (hdy : -4 ≤ v.dy ∧ v.dy ≤ 4) (hnp : lp.length ≤ 100) (hnq : lq.length ≤ 100) (Ap Aq : Option Addr) (cp cq : Nat) (w : World) (hP : Pts w Ap lp) (hQ : Pts w Aq lq) :
    Calls Try.prog 24 #[.slice Ap lp.length cp, .slice Aq lq.length cq, c.val, v.val] w fun e w' => e = .returned (tryL (fun b => scrK c lp lq v b.f) v (growL c.elastic.toNat 4 0 bd0)).val ∧ Ext w w' := by
  obtain ⟨E, hE⟩ : ∃ E : Nat, c.elastic = E := ⟨c.elastic.toNat, by have := hc.elastic; omega⟩
  have hE1 : E ≤ 1 := by have := hc.elastic; omega
  have hEn : c.elastic.toNat = E := by omega
  rw [hEn]
  have HE1 := Lib.hid hE1
  have HEe := Lib.hid hE
  clear hE hE1 hEn
  obtain ⟨f, hf⟩ : ∃ f : Bd → Int, f = fun b => scrK c lp lq v b.f := ⟨_, rfl⟩
  have CS := Lib.hid (fun (b : Bd) (hb : inX E 4 b) w h1 h2 => score_any c hc lp lq v b.f hp hq ht hdx hdy (fun j hj => by have := hb j hj; have := HE1.out; omega) hnp hnq Ap Aq cp cq w h1 h2)
  have CS2 := Lib.hid (show ∀ (b : Bd), inX E 4 b → ∀ w, Pts w Ap lp → Pts w Aq lq → Calls Try.prog 27 #[.slice Ap lp.length cp, .slice Aq lq.length cq, c.val, v.val, .agg b.cells] w fun e w' => e = .returned (.int .i64 (f b)) ∧ Ext w w' from fun b hb w h1 h2 => by rw [hf]; exact CS.out b hb w h1 h2)
  rw [← hf]
  clear CS hf
  have HP := Lib.hid hP
  have HQ := Lib.hid hQ
  clear hP hQ hp hq ht hdx hdy hnp hnq hc
  refine (callsIn_wide (n := 4)).1 ?_
  refine callsIn_of_wp_marks Try.func24 rfl trivial ?_ rfl
  simp only [Try.ntmps24, List.size_toArray, List.length_cons, List.length_nil, Nat.reduceAdd, Nat.reduceSub, Array.replicate_succ, Array.replicate_zero, List.push_toArray, List.append_toArray, List.nil_append, List.cons_append]
  gi_wp2_with (refine ⟨trivial, ?_⟩; gi_at_call 42; refine (callsIn_wide.2 (bends_any _ _)).mono ?_; rintro e w' ⟨rfl, rfl⟩)
  have HT := Lib.hid (show TryI w (.slice Ap lp.length cp) (.slice Aq lq.length cq) c v ⟨v, bd0, -1⟩ (((((((w.alloc (.cells #[.slice Ap lp.length cp] 38)).alloc (.cells #[.slice Aq lq.length cq] 38)).alloc (.cells #[.int .i64 c.turns, .int .i64 c.shift, .int .i64 c.elastic, .int .i64 c.reach, .int .i64 c.spread] 26)).alloc (.cells #[.int .i64 v.turn, .int .i64 v.dx, .int .i64 v.dy] 51)).alloc (.cells #[.int .i64 0, .int .i64 0, .int .i64 0, .int .i64 0, .int .i64 0, .int .i64 0, .int .i64 0, .int .i64 0] 78)).alloc (.cells #[.int .i64 v.turn, .int .i64 v.dx, .int .i64 v.dy, .int .i64 0, .int .i64 0, .int .i64 0, .int .i64 0, .int .i64 (-1)] 78)).alloc (.cells #[.int .i64 c.turns, .int .i64 c.shift, .int .i64 c.elastic, .int .i64 c.reach, .int .i64 c.spread] 26)) from ⟨(((((((Blk.new' w 38 #[.slice Ap lp.length cp] (w.heap.size) (by simp)).alloc (.cells #[.slice Aq lq.length cq] 38)).alloc (.cells #[.int .i64 c.turns, .int .i64 c.shift, .int .i64 c.elastic, .int .i64 c.reach, .int .i64 c.spread] 26)).alloc (.cells #[.int .i64 v.turn, .int .i64 v.dx, .int .i64 v.dy] 51)).alloc (.cells #[.int .i64 0, .int .i64 0, .int .i64 0, .int .i64 0, .int .i64 0, .int .i64 0, .int .i64 0, .int .i64 0] 78)).alloc (.cells #[.int .i64 v.turn, .int .i64 v.dx, .int .i64 v.dy, .int .i64 0, .int .i64 0, .int .i64 0, .int .i64 0, .int .i64 (-1)] 78)).alloc (.cells #[.int .i64 c.turns, .int .i64 c.shift, .int .i64 c.elastic, .int .i64 c.reach, .int .i64 c.spread] 26)), ((((((Blk.new' (w.alloc (.cells #[.slice Ap lp.length cp] 38)) 38 #[.slice Aq lq.length cq] (w.heap.size + 1) (by simp)).alloc (.cells #[.int .i64 c.turns, .int .i64 c.shift, .int .i64 c.elastic, .int .i64 c.reach, .int .i64 c.spread] 26)).alloc (.cells #[.int .i64 v.turn, .int .i64 v.dx, .int .i64 v.dy] 51)).alloc (.cells #[.int .i64 0, .int .i64 0, .int .i64 0, .int .i64 0, .int .i64 0, .int .i64 0, .int .i64 0, .int .i64 0] 78)).alloc (.cells #[.int .i64 v.turn, .int .i64 v.dx, .int .i64 v.dy, .int .i64 0, .int .i64 0, .int .i64 0, .int .i64 0, .int .i64 (-1)] 78)).alloc (.cells #[.int .i64 c.turns, .int .i64 c.shift, .int .i64 c.elastic, .int .i64 c.reach, .int .i64 c.spread] 26)), (((((Blk.new' ((w.alloc (.cells #[.slice Ap lp.length cp] 38)).alloc (.cells #[.slice Aq lq.length cq] 38)) 26 #[.int .i64 c.turns, .int .i64 c.shift, .int .i64 c.elastic, .int .i64 c.reach, .int .i64 c.spread] (w.heap.size + 1 + 1) (by simp)).alloc (.cells #[.int .i64 v.turn, .int .i64 v.dx, .int .i64 v.dy] 51)).alloc (.cells #[.int .i64 0, .int .i64 0, .int .i64 0, .int .i64 0, .int .i64 0, .int .i64 0, .int .i64 0, .int .i64 0] 78)).alloc (.cells #[.int .i64 v.turn, .int .i64 v.dx, .int .i64 v.dy, .int .i64 0, .int .i64 0, .int .i64 0, .int .i64 0, .int .i64 (-1)] 78)).alloc (.cells #[.int .i64 c.turns, .int .i64 c.shift, .int .i64 c.elastic, .int .i64 c.reach, .int .i64 c.spread] 26)), ((((Blk.new' (((w.alloc (.cells #[.slice Ap lp.length cp] 38)).alloc (.cells #[.slice Aq lq.length cq] 38)).alloc (.cells #[.int .i64 c.turns, .int .i64 c.shift, .int .i64 c.elastic, .int .i64 c.reach, .int .i64 c.spread] 26)) 51 #[.int .i64 v.turn, .int .i64 v.dx, .int .i64 v.dy] (w.heap.size + 1 + 1 + 1) (by simp)).alloc (.cells #[.int .i64 0, .int .i64 0, .int .i64 0, .int .i64 0, .int .i64 0, .int .i64 0, .int .i64 0, .int .i64 0] 78)).alloc (.cells #[.int .i64 v.turn, .int .i64 v.dx, .int .i64 v.dy, .int .i64 0, .int .i64 0, .int .i64 0, .int .i64 0, .int .i64 (-1)] 78)).alloc (.cells #[.int .i64 c.turns, .int .i64 c.shift, .int .i64 c.elastic, .int .i64 c.reach, .int .i64 c.spread] 26)), (((Blk.new' ((((w.alloc (.cells #[.slice Ap lp.length cp] 38)).alloc (.cells #[.slice Aq lq.length cq] 38)).alloc (.cells #[.int .i64 c.turns, .int .i64 c.shift, .int .i64 c.elastic, .int .i64 c.reach, .int .i64 c.spread] 26)).alloc (.cells #[.int .i64 v.turn, .int .i64 v.dx, .int .i64 v.dy] 51)) 78 #[.int .i64 0, .int .i64 0, .int .i64 0, .int .i64 0, .int .i64 0, .int .i64 0, .int .i64 0, .int .i64 0] (w.heap.size + 1 + 1 + 1 + 1) (by simp)).alloc (.cells #[.int .i64 v.turn, .int .i64 v.dx, .int .i64 v.dy, .int .i64 0, .int .i64 0, .int .i64 0, .int .i64 0, .int .i64 (-1)] 78)).alloc (.cells #[.int .i64 c.turns, .int .i64 c.shift, .int .i64 c.elastic, .int .i64 c.reach, .int .i64 c.spread] 26)), ((Blk.new' (((((w.alloc (.cells #[.slice Ap lp.length cp] 38)).alloc (.cells #[.slice Aq lq.length cq] 38)).alloc (.cells #[.int .i64 c.turns, .int .i64 c.shift, .int .i64 c.elastic, .int .i64 c.reach, .int .i64 c.spread] 26)).alloc (.cells #[.int .i64 v.turn, .int .i64 v.dx, .int .i64 v.dy] 51)).alloc (.cells #[.int .i64 0, .int .i64 0, .int .i64 0, .int .i64 0, .int .i64 0, .int .i64 0, .int .i64 0, .int .i64 0] 78)) 78 #[.int .i64 v.turn, .int .i64 v.dx, .int .i64 v.dy, .int .i64 0, .int .i64 0, .int .i64 0, .int .i64 0, .int .i64 (-1)] (w.heap.size + 1 + 1 + 1 + 1 + 1) (by simp)).alloc (.cells #[.int .i64 c.turns, .int .i64 c.shift, .int .i64 c.elastic, .int .i64 c.reach, .int .i64 c.spread] 26)), (Blk.new' ((((((w.alloc (.cells #[.slice Ap lp.length cp] 38)).alloc (.cells #[.slice Aq lq.length cq] 38)).alloc (.cells #[.int .i64 c.turns, .int .i64 c.shift, .int .i64 c.elastic, .int .i64 c.reach, .int .i64 c.spread] 26)).alloc (.cells #[.int .i64 v.turn, .int .i64 v.dx, .int .i64 v.dy] 51)).alloc (.cells #[.int .i64 0, .int .i64 0, .int .i64 0, .int .i64 0, .int .i64 0, .int .i64 0, .int .i64 0, .int .i64 0] 78)).alloc (.cells #[.int .i64 v.turn, .int .i64 v.dx, .int .i64 v.dy, .int .i64 0, .int .i64 0, .int .i64 0, .int .i64 0, .int .i64 (-1)] 78)) 26 #[.int .i64 c.turns, .int .i64 c.shift, .int .i64 c.elastic, .int .i64 c.reach, .int .i64 c.spread] (w.heap.size + 1 + 1 + 1 + 1 + 1 + 1) (by simp)), ((((((((Ext.refl w).alloc (.cells #[.slice Ap lp.length cp] 38)).alloc (.cells #[.slice Aq lq.length cq] 38)).alloc (.cells #[.int .i64 c.turns, .int .i64 c.shift, .int .i64 c.elastic, .int .i64 c.reach, .int .i64 c.spread] 26)).alloc (.cells #[.int .i64 v.turn, .int .i64 v.dx, .int .i64 v.dy] 51)).alloc (.cells #[.int .i64 0, .int .i64 0, .int .i64 0, .int .i64 0, .int .i64 0, .int .i64 0, .int .i64 0, .int .i64 0] 78)).alloc (.cells #[.int .i64 v.turn, .int .i64 v.dx, .int .i64 v.dy, .int .i64 0, .int .i64 0, .int .i64 0, .int .i64 0, .int .i64 (-1)] 78)).alloc (.cells #[.int .i64 c.turns, .int .i64 c.shift, .int .i64 c.elastic, .int .i64 c.reach, .int .i64 c.spread] 26))⟩)
  have hsz : (((((((w.alloc (.cells #[.slice Ap lp.length cp] 38)).alloc (.cells #[.slice Aq lq.length cq] 38)).alloc (.cells #[.int .i64 c.turns, .int .i64 c.shift, .int .i64 c.elastic, .int .i64 c.reach, .int .i64 c.spread] 26)).alloc (.cells #[.int .i64 v.turn, .int .i64 v.dx, .int .i64 v.dy] 51)).alloc (.cells #[.int .i64 0, .int .i64 0, .int .i64 0, .int .i64 0, .int .i64 0, .int .i64 0, .int .i64 0, .int .i64 0] 78)).alloc (.cells #[.int .i64 v.turn, .int .i64 v.dx, .int .i64 v.dy, .int .i64 0, .int .i64 0, .int .i64 0, .int .i64 0, .int .i64 (-1)] 78)).alloc (.cells #[.int .i64 c.turns, .int .i64 c.shift, .int .i64 c.elastic, .int .i64 c.reach, .int .i64 c.spread] 26)).heap.size = w.heap.size + 7 := by simp
  generalize (((((((w.alloc (.cells #[.slice Ap lp.length cp] 38)).alloc (.cells #[.slice Aq lq.length cq] 38)).alloc (.cells #[.int .i64 c.turns, .int .i64 c.shift, .int .i64 c.elastic, .int .i64 c.reach, .int .i64 c.spread] 26)).alloc (.cells #[.int .i64 v.turn, .int .i64 v.dx, .int .i64 v.dy] 51)).alloc (.cells #[.int .i64 0, .int .i64 0, .int .i64 0, .int .i64 0, .int .i64 0, .int .i64 0, .int .i64 0, .int .i64 0] 78)).alloc (.cells #[.int .i64 v.turn, .int .i64 v.dx, .int .i64 v.dy, .int .i64 0, .int .i64 0, .int .i64 0, .int .i64 0, .int .i64 (-1)] 78)).alloc (.cells #[.int .i64 c.turns, .int .i64 c.shift, .int .i64 c.elastic, .int .i64 c.reach, .int .i64 c.spread] 26)) = V at *
  have HSZ := Lib.hid hsz
  clear hsz
  refine range_mem (gf := 52) (lb := #[.pointer (some ⟨w.heap.size + 1 + 1 + 1 + 1 + 1 + 1, 0, none⟩)]) rfl (enters_of Try.func52 (by kernel_rfl) rfl) (fun x : Bd => #[.agg x.cells]) (inX E 4) (growL E 4 0 bd0) (fun A => A.cell? ⟨w.heap.size + 1 + 1 + 1 + 1 + 1 + 1, 2, none⟩ = some (.int .i64 E)) ?seq (fun _ => rfl)
    (fun pre A => TryI w (.slice Ap lp.length cp) (.slice Aq lq.length cq) c v (tryL f v pre) A) ?keep ?cls HT.out
    (fun x b => { tmps := #[.slice Ap lp.length cp, .slice Aq lq.length cq, c.val, v.val, .pointer (some ⟨w.heap.size, 0, none⟩), .pointer (some ⟨w.heap.size + 1, 0, none⟩), .pointer (some ⟨w.heap.size + 1 + 1, 0, none⟩), .pointer (some ⟨w.heap.size + 1 + 1 + 1, 0, none⟩), .pointer (some ⟨w.heap.size + 1 + 1 + 1 + 1, 0, none⟩), .pointer (some ⟨w.heap.size + 1 + 1 + 1 + 1 + 1, 0, none⟩), .pointer (some ⟨b, 0, none⟩), undef, .agg #[.int .i64 v.turn, .int .i64 v.dx, .int .i64 v.dy], .agg #[.int .i64 v.turn, .int .i64 v.dx, .int .i64 v.dy, .int .i64 0, .int .i64 0, .int .i64 0, .int .i64 0, .int .i64 (-1)], .agg #[.int .i64 c.turns, .int .i64 c.shift, .int .i64 c.elastic, .int .i64 c.reach, .int .i64 c.spread], .func (.func 52) #[] #[.pointer (some ⟨w.heap.size + 1 + 1 + 1 + 1 + 1 + 1, 0, none⟩)], .agg x.cells, undef, undef, undef, undef, undef, undef, undef, undef, undef, undef, undef, undef, undef, undef, undef], defers := [] }) (fun x b W => Blk W b 53 x.cells) (fun x b A B h e => e.trans h) ?assign ?body ?done
  case seq =>
    intro l J W hW h1 h2 h3 h4
    exact bends1_any l _ E HE1.out J W ⟨h1, h2, h3⟩ h4
  case keep =>
    intro s A B hA hb
    exact hA.keep (by rw [← HSZ.out]; exact hb)
  case cls =>
    intro s A hA
    rw [← HEe.out]
    exact hA.cls.cell 2
  case assign =>
    intro l x W K hK
    gi_wp2
    refine hK _ ((Ext.refl W).alloc _) (Blk.new W 53 _)
  case body =>
    intro l pre x g W hI hg hS hx
    have hgl := hS.lt
    have hne : w.heap.size + 7 ≤ g := by rw [← HSZ.out]; exact hg
    have C := Lib.hid (fun w' h => CS2.out x hx w' (HP.out.grow h) (HQ.out.grow h))
    have HI := Lib.hid hI
    have p0 : W.cell? ⟨w.heap.size, 0, none⟩ = some (.slice Ap lp.length cp) := hI.p.cell 0
    have q0 : W.cell? ⟨w.heap.size + 1, 0, none⟩ = some (.slice Aq lq.length cq) := hI.q.cell 0
    have c0 : W.cell? ⟨w.heap.size + 1 + 1, 0, none⟩ = some (.int .i64 c.turns) := hI.c.cell 0
    have c1 : W.cell? ⟨w.heap.size + 1 + 1, 1, none⟩ = some (.int .i64 c.shift) := hI.c.cell 1
    have c2 : W.cell? ⟨w.heap.size + 1 + 1, 2, none⟩ = some (.int .i64 c.elastic) := hI.c.cell 2
    have c3 : W.cell? ⟨w.heap.size + 1 + 1, 3, none⟩ = some (.int .i64 c.reach) := hI.c.cell 3
    have c4 : W.cell? ⟨w.heap.size + 1 + 1, 4, none⟩ = some (.int .i64 c.spread) := hI.c.cell 4
    have v0 : W.cell? ⟨w.heap.size + 1 + 1 + 1, 0, none⟩ = some (.int .i64 v.turn) := hI.v.cell 0
    have v1 : W.cell? ⟨w.heap.size + 1 + 1 + 1, 1, none⟩ = some (.int .i64 v.dx) := hI.v.cell 1
    have v2 : W.cell? ⟨w.heap.size + 1 + 1 + 1, 2, none⟩ = some (.int .i64 v.dy) := hI.v.cell 2
    have x0 : W.cell? ⟨g, 0, none⟩ = some (.int .i64 x.a) := hS.cell 0
    have x1 : W.cell? ⟨g, 1, none⟩ = some (.int .i64 x.b) := hS.cell 1
    have x2 : W.cell? ⟨g, 2, none⟩ = some (.int .i64 x.c) := hS.cell 2
    have x3 : W.cell? ⟨g, 3, none⟩ = some (.int .i64 x.d) := hS.cell 3
    have hS' := hS
    clear hI hS hx
    have HS := Lib.hid (show Blk W g 53 x.cells from hS')
    clear hS'
    have Hsn := Lib.hid (tryL_snoc f v pre x)
    obtain ⟨best, hbest⟩ : ∃ best, best = tryL f v pre := ⟨_, rfl⟩
    rw [← hbest] at HI Hsn
    clear hbest
    cases hlt : decide (best.score < f x)
    · have HV := Lib.hid (show tryL f v (pre ++ [x]) = best from by rw [Hsn.out]; unfold stepT; rw [if_neg (by simpa using hlt)])
      gi_wp2_with (refine ⟨trivial, ?_⟩; gi_at_call 27; refine (CallsIn.inRound l (callsIn_wide.2 (C.out _ HI.out.ext))).mono ?_; rintro e w' ⟨rfl, hw'⟩; have HI2 := Lib.hid (HI.out.grow hw'); have HW := Lib.hid hw'; have HG2 := Lib.hid (HS.out.grow hw'); have y0 : w'.cell? ⟨g, 0, none⟩ = some (.int .i64 x.a) := HG2.out.cell 0; have y1 : w'.cell? ⟨g, 1, none⟩ = some (.int .i64 x.b) := HG2.out.cell 1; have y2 : w'.cell? ⟨g, 2, none⟩ = some (.int .i64 x.c) := HG2.out.cell 2; have y3 : w'.cell? ⟨g, 3, none⟩ = some (.int .i64 x.d) := HG2.out.cell 3; have s3 : w'.cell? ⟨w.heap.size + 1 + 1 + 1 + 1 + 1, 3, none⟩ = some (.int .i64 best.bd.a) := HI2.out.best.cell 3; have s4 : w'.cell? ⟨w.heap.size + 1 + 1 + 1 + 1 + 1, 4, none⟩ = some (.int .i64 best.bd.b) := HI2.out.best.cell 4; have s5 : w'.cell? ⟨w.heap.size + 1 + 1 + 1 + 1 + 1, 5, none⟩ = some (.int .i64 best.bd.c) := HI2.out.best.cell 5; have s6 : w'.cell? ⟨w.heap.size + 1 + 1 + 1 + 1 + 1, 6, none⟩ = some (.int .i64 best.bd.d) := HI2.out.best.cell 6; have s7 : w'.cell? ⟨w.heap.size + 1 + 1 + 1 + 1 + 1, 7, none⟩ = some (.int .i64 best.score) := HI2.out.best.cell 7; have fb := HI2.out.best.frozen; have hob := Old.mk HI2.out.best.lt; clear hw')
      exact ⟨KeepB.of_ext HW.out, by rw [HV.out]; exact HI2.out⟩
    · have HV := Lib.hid (show tryL f v (pre ++ [x]) = ⟨best.mv, x, f x⟩ from by rw [Hsn.out]; unfold stepT; rw [if_pos (by simpa using hlt)])
      gi_wp2_with (refine ⟨trivial, ?_⟩; gi_at_call 27; refine (CallsIn.inRound l (callsIn_wide.2 (C.out _ HI.out.ext))).mono ?_; rintro e w' ⟨rfl, hw'⟩; have HI2 := Lib.hid (HI.out.grow hw'); have HW := Lib.hid hw'; have HG2 := Lib.hid (HS.out.grow hw'); have y0 : w'.cell? ⟨g, 0, none⟩ = some (.int .i64 x.a) := HG2.out.cell 0; have y1 : w'.cell? ⟨g, 1, none⟩ = some (.int .i64 x.b) := HG2.out.cell 1; have y2 : w'.cell? ⟨g, 2, none⟩ = some (.int .i64 x.c) := HG2.out.cell 2; have y3 : w'.cell? ⟨g, 3, none⟩ = some (.int .i64 x.d) := HG2.out.cell 3; have s3 : w'.cell? ⟨w.heap.size + 1 + 1 + 1 + 1 + 1, 3, none⟩ = some (.int .i64 best.bd.a) := HI2.out.best.cell 3; have s4 : w'.cell? ⟨w.heap.size + 1 + 1 + 1 + 1 + 1, 4, none⟩ = some (.int .i64 best.bd.b) := HI2.out.best.cell 4; have s5 : w'.cell? ⟨w.heap.size + 1 + 1 + 1 + 1 + 1, 5, none⟩ = some (.int .i64 best.bd.c) := HI2.out.best.cell 5; have s6 : w'.cell? ⟨w.heap.size + 1 + 1 + 1 + 1 + 1, 6, none⟩ = some (.int .i64 best.bd.d) := HI2.out.best.cell 6; have s7 : w'.cell? ⟨w.heap.size + 1 + 1 + 1 + 1 + 1, 7, none⟩ = some (.int .i64 best.score) := HI2.out.best.cell 7; have fb := HI2.out.best.frozen; have hob := Old.mk HI2.out.best.lt; clear hw')
      exact ⟨((((((KeepB.of_ext HW.out).trans (KeepB.set_ _ (p := ⟨w.heap.size + 1 + 1 + 1 + 1 + 1, 3, none⟩) (by show w.heap.size + 1 + 1 + 1 + 1 + 1 < V.heap.size; rw [HSZ.out]; omega) _)).trans (KeepB.set_ _ (p := ⟨w.heap.size + 1 + 1 + 1 + 1 + 1, 4, none⟩) (by show w.heap.size + 1 + 1 + 1 + 1 + 1 < V.heap.size; rw [HSZ.out]; omega) _)).trans (KeepB.set_ _ (p := ⟨w.heap.size + 1 + 1 + 1 + 1 + 1, 5, none⟩) (by show w.heap.size + 1 + 1 + 1 + 1 + 1 < V.heap.size; rw [HSZ.out]; omega) _)).trans (KeepB.set_ _ (p := ⟨w.heap.size + 1 + 1 + 1 + 1 + 1, 6, none⟩) (by show w.heap.size + 1 + 1 + 1 + 1 + 1 < V.heap.size; rw [HSZ.out]; omega) _)).trans (KeepB.set_ _ (p := ⟨w.heap.size + 1 + 1 + 1 + 1 + 1, 7, none⟩) (by show w.heap.size + 1 + 1 + 1 + 1 + 1 < V.heap.size; rw [HSZ.out]; omega) _)), by rw [HV.out]; exact HI2.out.five x (f x)⟩
  case done =>
    rintro D W hD hI hK
    obtain ⟨best, hbest⟩ : ∃ best, tryL f v (growL E 4 0 bd0) = best := ⟨_, rfl⟩
    rw [hbest] at hI
    have HBe := Lib.hid hbest
    clear hbest
    have HI := Lib.hid hI
    have HK := Lib.hid hK
    have s0 : W.cell? ⟨w.heap.size + 1 + 1 + 1 + 1 + 1, 0, none⟩ = some (.int .i64 best.mv.turn) := hI.best.cell 0
    have s1 : W.cell? ⟨w.heap.size + 1 + 1 + 1 + 1 + 1, 1, none⟩ = some (.int .i64 best.mv.dx) := hI.best.cell 1
    have s2 : W.cell? ⟨w.heap.size + 1 + 1 + 1 + 1 + 1, 2, none⟩ = some (.int .i64 best.mv.dy) := hI.best.cell 2
    have s3 : W.cell? ⟨w.heap.size + 1 + 1 + 1 + 1 + 1, 3, none⟩ = some (.int .i64 best.bd.a) := hI.best.cell 3
    have s4 : W.cell? ⟨w.heap.size + 1 + 1 + 1 + 1 + 1, 4, none⟩ = some (.int .i64 best.bd.b) := hI.best.cell 4
    have s5 : W.cell? ⟨w.heap.size + 1 + 1 + 1 + 1 + 1, 5, none⟩ = some (.int .i64 best.bd.c) := hI.best.cell 5
    have s6 : W.cell? ⟨w.heap.size + 1 + 1 + 1 + 1 + 1, 6, none⟩ = some (.int .i64 best.bd.d) := hI.best.cell 6
    have s7 : W.cell? ⟨w.heap.size + 1 + 1 + 1 + 1 + 1, 7, none⟩ = some (.int .i64 best.score) := hI.best.cell 7
    have rf := hI.r.frozen
    have r0 : ∀ j, j < 8 → W.cell? ⟨w.heap.size + 1 + 1 + 1 + 1, j, none⟩ = some (.int .i64 0) := fun j hj => by
      rw [hI.r.cell]
      rcases (show j = 0 ∨ j = 1 ∨ j = 2 ∨ j = 3 ∨ j = 4 ∨ j = 5 ∨ j = 6 ∨ j = 7 by omega) with rfl | rfl | rfl | rfl | rfl | rfl | rfl | rfl <;> rfl
    have k0 := r0 0 (by omega)
    have k1 := r0 1 (by omega)
    have k2 := r0 2 (by omega)
    have k3 := r0 3 (by omega)
    have k4 := r0 4 (by omega)
    have k5 := r0 5 (by omega)
    have k6 := r0 6 (by omega)
    have k7 := r0 7 (by omega)
    clear hI hK r0
    gi_wp2
    have HS := Lib.hid (store_att HI.out.r best)
    have HK2 := Lib.hid (((((((((KeepsOthers.setCell W ⟨w.heap.size + 1 + 1 + 1 + 1, 0, none⟩ (.int .i64 best.mv.turn)).trans (KeepsOthers.setCell _ ⟨w.heap.size + 1 + 1 + 1 + 1, 1, none⟩ (.int .i64 best.mv.dx))).trans (KeepsOthers.setCell _ ⟨w.heap.size + 1 + 1 + 1 + 1, 2, none⟩ (.int .i64 best.mv.dy))).trans (KeepsOthers.setCell _ ⟨w.heap.size + 1 + 1 + 1 + 1, 3, none⟩ (.int .i64 best.bd.a))).trans (KeepsOthers.setCell _ ⟨w.heap.size + 1 + 1 + 1 + 1, 4, none⟩ (.int .i64 best.bd.b))).trans (KeepsOthers.setCell _ ⟨w.heap.size + 1 + 1 + 1 + 1, 5, none⟩ (.int .i64 best.bd.c))).trans (KeepsOthers.setCell _ ⟨w.heap.size + 1 + 1 + 1 + 1, 6, none⟩ (.int .i64 best.bd.d))).trans (KeepsOthers.setCell _ ⟨w.heap.size + 1 + 1 + 1 + 1, 7, none⟩ (.int .i64 best.score))).same D _ HK.out rfl)
    have HB2 : Hid (Ext w ((((((((W.setCell ⟨w.heap.size + 1 + 1 + 1 + 1, 0, none⟩ (.int .i64 best.mv.turn)).setCell ⟨w.heap.size + 1 + 1 + 1 + 1, 1, none⟩ (.int .i64 best.mv.dx)).setCell ⟨w.heap.size + 1 + 1 + 1 + 1, 2, none⟩ (.int .i64 best.mv.dy)).setCell ⟨w.heap.size + 1 + 1 + 1 + 1, 3, none⟩ (.int .i64 best.bd.a)).setCell ⟨w.heap.size + 1 + 1 + 1 + 1, 4, none⟩ (.int .i64 best.bd.b)).setCell ⟨w.heap.size + 1 + 1 + 1 + 1, 5, none⟩ (.int .i64 best.bd.c)).setCell ⟨w.heap.size + 1 + 1 + 1 + 1, 6, none⟩ (.int .i64 best.bd.d)).setCell ⟨w.heap.size + 1 + 1 + 1 + 1, 7, none⟩ (.int .i64 best.score))) := Lib.hid (Ext.setCell (Ext.setCell (Ext.setCell (Ext.setCell (Ext.setCell (Ext.setCell (Ext.setCell (Ext.setCell HI.out.ext (p := ⟨w.heap.size + 1 + 1 + 1 + 1, 0, none⟩) (by show w.heap.size ≤ w.heap.size + 1 + 1 + 1 + 1; omega) (.int .i64 best.mv.turn)) (p := ⟨w.heap.size + 1 + 1 + 1 + 1, 1, none⟩) (by show w.heap.size ≤ w.heap.size + 1 + 1 + 1 + 1; omega) (.int .i64 best.mv.dx)) (p := ⟨w.heap.size + 1 + 1 + 1 + 1, 2, none⟩) (by show w.heap.size ≤ w.heap.size + 1 + 1 + 1 + 1; omega) (.int .i64 best.mv.dy)) (p := ⟨w.heap.size + 1 + 1 + 1 + 1, 3, none⟩) (by show w.heap.size ≤ w.heap.size + 1 + 1 + 1 + 1; omega) (.int .i64 best.bd.a)) (p := ⟨w.heap.size + 1 + 1 + 1 + 1, 4, none⟩) (by show w.heap.size ≤ w.heap.size + 1 + 1 + 1 + 1; omega) (.int .i64 best.bd.b)) (p := ⟨w.heap.size + 1 + 1 + 1 + 1, 5, none⟩) (by show w.heap.size ≤ w.heap.size + 1 + 1 + 1 + 1; omega) (.int .i64 best.bd.c)) (p := ⟨w.heap.size + 1 + 1 + 1 + 1, 6, none⟩) (by show w.heap.size ≤ w.heap.size + 1 + 1 + 1 + 1; omega) (.int .i64 best.bd.d)) (p := ⟨w.heap.size + 1 + 1 + 1 + 1, 7, none⟩) (by show w.heap.size ≤ w.heap.size + 1 + 1 + 1 + 1; omega) (.int .i64 best.score))
    generalize ((((((((W.setCell ⟨w.heap.size + 1 + 1 + 1 + 1, 0, none⟩ (.int .i64 best.mv.turn)).setCell ⟨w.heap.size + 1 + 1 + 1 + 1, 1, none⟩ (.int .i64 best.mv.dx)).setCell ⟨w.heap.size + 1 + 1 + 1 + 1, 2, none⟩ (.int .i64 best.mv.dy)).setCell ⟨w.heap.size + 1 + 1 + 1 + 1, 3, none⟩ (.int .i64 best.bd.a)).setCell ⟨w.heap.size + 1 + 1 + 1 + 1, 4, none⟩ (.int .i64 best.bd.b)).setCell ⟨w.heap.size + 1 + 1 + 1 + 1, 5, none⟩ (.int .i64 best.bd.c)).setCell ⟨w.heap.size + 1 + 1 + 1 + 1, 6, none⟩ (.int .i64 best.bd.d)).setCell ⟨w.heap.size + 1 + 1 + 1 + 1, 7, none⟩ (.int .i64 best.score)) = Wf at *
    have q0 : Wf.cell? ⟨w.heap.size + 1 + 1 + 1 + 1, 0, none⟩ = some (.int .i64 best.mv.turn) := HS.out.cell 0
    have q1 : Wf.cell? ⟨w.heap.size + 1 + 1 + 1 + 1, 1, none⟩ = some (.int .i64 best.mv.dx) := HS.out.cell 1
    have q2 : Wf.cell? ⟨w.heap.size + 1 + 1 + 1 + 1, 2, none⟩ = some (.int .i64 best.mv.dy) := HS.out.cell 2
    have q3 : Wf.cell? ⟨w.heap.size + 1 + 1 + 1 + 1, 3, none⟩ = some (.int .i64 best.bd.a) := HS.out.cell 3
    have q4 : Wf.cell? ⟨w.heap.size + 1 + 1 + 1 + 1, 4, none⟩ = some (.int .i64 best.bd.b) := HS.out.cell 4
    have q5 : Wf.cell? ⟨w.heap.size + 1 + 1 + 1 + 1, 5, none⟩ = some (.int .i64 best.bd.c) := HS.out.cell 5
    have q6 : Wf.cell? ⟨w.heap.size + 1 + 1 + 1 + 1, 6, none⟩ = some (.int .i64 best.bd.d) := HS.out.cell 6
    have q7 : Wf.cell? ⟨w.heap.size + 1 + 1 + 1 + 1, 7, none⟩ = some (.int .i64 best.score) := HS.out.cell 7
    refine ⟨by simp, .inl ⟨_, _, rfl, run_takeDeferred HK2.out, ?_⟩⟩
    have j0 := cell_kept q0 (grownBy_putObj' _ D (.deferred none)) (fun r e => by cases e; exact ⟨_, HK2.out, rfl⟩)
    have j1 := cell_kept q1 (grownBy_putObj' _ D (.deferred none)) (fun r e => by cases e; exact ⟨_, HK2.out, rfl⟩)
    have j2 := cell_kept q2 (grownBy_putObj' _ D (.deferred none)) (fun r e => by cases e; exact ⟨_, HK2.out, rfl⟩)
    have j3 := cell_kept q3 (grownBy_putObj' _ D (.deferred none)) (fun r e => by cases e; exact ⟨_, HK2.out, rfl⟩)
    have j4 := cell_kept q4 (grownBy_putObj' _ D (.deferred none)) (fun r e => by cases e; exact ⟨_, HK2.out, rfl⟩)
    have j5 := cell_kept q5 (grownBy_putObj' _ D (.deferred none)) (fun r e => by cases e; exact ⟨_, HK2.out, rfl⟩)
    have j6 := cell_kept q6 (grownBy_putObj' _ D (.deferred none)) (fun r e => by cases e; exact ⟨_, HK2.out, rfl⟩)
    have j7 := cell_kept q7 (grownBy_putObj' _ D (.deferred none)) (fun r e => by cases e; exact ⟨_, HK2.out, rfl⟩)
    refine ⟨best.val, ?_, by rw [HBe.out], ?_⟩
    · simp [results, Try.f24, go_sem, j0, j1, j2, j3, j4, j5, j6, j7]
    · exact Below.trans HB2.out (belowK_b (w := w) (Nat.le_refl _) _ D _ _ (by have := HSZ.out; omega) HK2.out rfl rfl)
end
end Go.Proofs.Ytchplmenkdghcaa

