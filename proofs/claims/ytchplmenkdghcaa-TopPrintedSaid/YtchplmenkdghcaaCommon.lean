/- Tools for walks: a world that has grown from another one ('ext'), regions that draw their order and only read or call. -/
import Derived.WalkKit
import Derived.Below
import Derived.Deep.QuietTactic
import Derived.BigQuiet
import Derived.BigGuardPart
import Derived.Lib.Hide
import Derived.StillTailTactics
namespace Go.Proofs.Ytchplmenkdghcaa
open Go.RowKit
theorem ret_of {a b : Value} (h : a = b) : Ending.returned a = .returned b := by rw [h]
/-- The world w' has all that w has, as w has it. -/
def Ext (w w' : World) : Prop := Below w.heap.size w w'
theorem Ext.refl (w : World) : Ext w w := Below.refl _ _
theorem Ext.size {w w' : World} (h : Ext w w') : w.heap.size ≤ w'.heap.size := Below.size h
theorem Ext.trans {a b c : World} (h : Ext a b) (k : Ext b c) : Ext a c := Below.trans h (Below.mono k h.size)
theorem Ext.alloc {a w : World} (h : Ext a w) (o : Obj) : Ext a (w.alloc o) := Below.alloc h h.size o
theorem Ext.drew {a w : World} (h : Ext a w) : Ext a w.drew := Below.drew h
theorem Ext.drewN {a w : World} (h : Ext a w) (n : Nat) : Ext a (w.drewN n) := ⟨h.os, h.tape, h.output, h.size, h.block⟩
theorem Ext.setCell {a w : World} (h : Ext a w) {p : Addr} (hp : a.heap.size ≤ p.block) (u : Value) : Ext a (w.setCell p u) := Below.setCell h hp u
theorem Ext.cell {w w' : World} (h : Ext w w') {p : Addr} (hp : p.block < w.heap.size) : w'.cell? p = w.cell? p := Below.cell h hp
theorem Ext.frozen {w w' : World} (h : Ext w w') {p : Addr} (hp : p.block < w.heap.size) : w'.frozen? p = w.frozen? p := Below.frozen h hp
open Classical in
/-- z, if it has grown from w; else w. -/
noncomputable def ext (w z : World) : World := if Ext w z then z else w
theorem ext_of {w z : World} (h : Ext w z) : ext w z = z := by simp [ext, h]
theorem Ext.ext_self (w z : World) : Ext w (ext w z) := by
  unfold ext; split
  · assumption
  · exact Ext.refl _
theorem Ext.ext {a w : World} (h : Ext a w) (z : World) : Ext a (ext w z) := h.trans (Ext.ext_self w z)
theorem ext_size (w z : World) : w.heap.size ≤ (ext w z).heap.size := (Ext.ext_self w z).size
/-- Block b lies in the world w. (Taken as 'Nonempty (Old b w)', so that it is found by itself.) -/
def Old (b : Nat) (w : World) : Prop := b < w.heap.size
theorem Old.mk {b : Nat} {w : World} (h : b < w.heap.size) : Nonempty (Old b w) := ⟨h⟩
theorem old_lt {b : Nat} {w : World} (h : Nonempty (Old b w)) : b < w.heap.size := h.elim id
theorem old_new (w : World) (o : Obj) : Nonempty (Old w.heap.size (w.alloc o)) := ⟨by simp [Old]⟩
theorem old_alloc (b : Nat) (w : World) (o : Obj) [h : Nonempty (Old b w)] : Nonempty (Old b (w.alloc o)) := ⟨by have := old_lt h; simp [Old]; omega⟩
theorem old_succ (b : Nat) (w : World) (o : Obj) [h : Nonempty (Old b w)] : Nonempty (Old (b + 1) (w.alloc o)) := ⟨by have := old_lt h; simp [Old]; omega⟩
theorem old_ext (b : Nat) (w z : World) [h : Nonempty (Old b w)] : Nonempty (Old b (ext w z)) := ⟨Nat.lt_of_lt_of_le (old_lt h) (ext_size w z)⟩
theorem old_set (b : Nat) (w : World) (p : Addr) (v : Value) [h : Nonempty (Old b w)] : Nonempty (Old b (w.setCell p v)) := ⟨by have := old_lt h; simpa [Old, World.setCell] using this⟩
theorem old_drew (b : Nat) (w : World) [h : Nonempty (Old b w)] : Nonempty (Old b w.drew) := h
theorem old_drewN (b n : Nat) (w : World) [h : Nonempty (Old b w)] : Nonempty (Old b (w.drewN n)) := h
attribute [instance] old_new old_alloc old_succ old_ext old_set old_drew old_drewN
def Diff (b c : Nat) : Prop := b ≠ c
theorem diff_old (b k : Nat) (w : World) [h : Nonempty (Old b w)] : Nonempty (Diff b (w.heap.size + k)) := ⟨by have := old_lt h; unfold Diff; omega⟩
theorem diff_old' (b k : Nat) (w : World) [h : Nonempty (Old b w)] : Nonempty (Diff (w.heap.size + k) b) := ⟨by have := old_lt h; unfold Diff; omega⟩
theorem diff_old0 (b : Nat) (w : World) [h : Nonempty (Old b w)] : Nonempty (Diff b w.heap.size) := ⟨by have := old_lt h; unfold Diff; omega⟩
theorem diff_old0' (b : Nat) (w : World) [h : Nonempty (Old b w)] : Nonempty (Diff w.heap.size b) := ⟨by have := old_lt h; unfold Diff; omega⟩
attribute [instance] diff_old diff_old' diff_old0 diff_old0'
@[go_sem] theorem ext_cell (w z : World) (b o : Nat) (n : Option Nat) [h : Nonempty (Old b w)] : (ext w z).cell? ⟨b, o, n⟩ = w.cell? ⟨b, o, n⟩ := (Ext.ext_self w z).cell (old_lt h)
@[go_sem] theorem ext_frozen (w z : World) (b o : Nat) (n : Option Nat) [h : Nonempty (Old b w)] : (ext w z).frozen? ⟨b, o, n⟩ = w.frozen? ⟨b, o, n⟩ := (Ext.ext_self w z).frozen (old_lt h)
@[go_sem] theorem alloc_cell (w : World) (q : Obj) (b o : Nat) (n : Option Nat) [h : Nonempty (Old b w)] : (w.alloc q).cell? ⟨b, o, n⟩ = w.cell? ⟨b, o, n⟩ := ((Ext.refl w).alloc q).cell (old_lt h)
@[go_sem] theorem alloc_frozen (w : World) (q : Obj) (b o : Nat) (n : Option Nat) [h : Nonempty (Old b w)] : (w.alloc q).frozen? ⟨b, o, n⟩ = w.frozen? ⟨b, o, n⟩ := ((Ext.refl w).alloc q).frozen (old_lt h)
@[go_sem] theorem set_cell (w : World) (v : Value) (b c o k : Nat) (n m : Option Nat) [h : Nonempty (Diff b c)] : (w.setCell ⟨c, k, m⟩ v).cell? ⟨b, o, n⟩ = w.cell? ⟨b, o, n⟩ :=
  World.cell?_setCell_other w _ _ v (fun e => by have := h.elim id; unfold Diff at this; injection e with e; exact this e.symm)
/-- A call of which it is known that it returns v and that nothing old turns. -/
theorem Calls.ext {P : Program} {f : FuncId} {args : Array Value} {w : World} {v : Value} {R : Ending → World → Prop}
    (h : Calls P f args w fun e w' => e = .returned v ∧ Ext w w') (hR : ∀ z, R (.returned v) (ext w z)) : Calls P f args w R :=
  h.mono fun e w' ⟨he, hw⟩ => by subst he; have := hR w'; rwa [ext_of hw] at this
theorem Calls.same {P : Program} {f : FuncId} {args : Array Value} {w : World} {v : Value} {R : Ending → World → Prop}
    (h : Calls P f args w fun e w' => e = .returned v ∧ w = w') (hR : R (.returned v) w) : Calls P f args w R :=
  h.mono fun e w' ⟨he, hw⟩ => by subst he; subst hw; exact hR
theorem Calls.ext_of_same {P : Program} {f : FuncId} {args : Array Value} {w : World} {v : Value}
    (h : Calls P f args w fun e w' => e = .returned v ∧ w = w') : Calls P f args w fun e w' => e = .returned v ∧ Ext w w' :=
  h.mono fun e w' ⟨he, hw⟩ => ⟨he, by subst hw; exact Ext.refl _⟩
/-- In a region that draws: a callee's contract, met in a world that has grown. -/
theorem Calls.quiet_ext {P : Program} {f : FuncId} {args : Array Value} {w z : World} {v : Value}
    (h : Calls P f args (Proofs.Ytchplmenkdghcaa.ext w z) fun e w' => e = .returned v ∧ Ext (Proofs.Ytchplmenkdghcaa.ext w z) w') :
    Calls P f args (Proofs.Ytchplmenkdghcaa.ext w z) fun e w'' => e = .returned v ∧ ∃ z', w'' = Proofs.Ytchplmenkdghcaa.ext w z' :=
  h.mono fun _ w'' ⟨he, hw⟩ => ⟨he, w'', (ext_of ((Ext.ext_self w z).trans hw)).symm⟩
theorem Calls.quiet_same {P : Program} {f : FuncId} {args : Array Value} {w z : World} {v : Value}
    (h : Calls P f args (Proofs.Ytchplmenkdghcaa.ext w z) fun e w' => e = .returned v ∧ Proofs.Ytchplmenkdghcaa.ext w z = w') :
    Calls P f args (Proofs.Ytchplmenkdghcaa.ext w z) fun e w'' => e = .returned v ∧ ∃ z', w'' = Proofs.Ytchplmenkdghcaa.ext w z' :=
  h.mono fun _ _ ⟨he, hw⟩ => ⟨he, z, hw.symm⟩
/-- A region that draws its order and only reads, or calls what only reads and makes memory of its own: one walk, in the text's order. -/
theorem wp_region_ext {P : Program} {id : Nat} {Q : Exit → Act → World → Prop} {a : Act} {w : World} {l : List Oper} (hm : P.follows .mixedOrders = true) (hB : Region.lexB .any l.toArray = true)
    (h : wpQuiet P l.toArray (fun w' => ∃ z, w' = ext w z) (fun a' => ∀ w', (∃ z, w' = ext w z) → Q .normal a' w') l a) : (Code.region id l.toArray true).wp P Q a w :=
  wp_region_quiet (C := fun w' => ∃ z, w' = ext w z) hm hB ⟨w.drew, (ext_of (Ext.refl w).drew).symm⟩ (by simpa using h)
/-- A region that draws its order: n operations that leave the world alone, then the others in the text's order. -/
theorem wp_region_tail {P : Program} {id : Nat} {Q : Exit → Act → World → Prop} {a : Act} {w : World} {l : List Oper} (n : Nat) (hm : P.follows .mixedOrders = true) (hB : Region.lexTailB .any l.toArray n = true)
    (h : wpStill P l.toArray w.drew (fun a' => wpList P l.toArray Q (l.drop n) a' w.drew) (l.take n) a) : (Code.region id l.toArray true).wp P Q a w := wp_region_still_tail n hm hB h
/-- Block g is just the cells cs, of the type t, none of them frozen. -/
def Blk (w : World) (g : Nat) (t : TypeId) (cs : Array Value) : Prop := w.heap[g]? = some (.cells cs t (0, 0))
section
variable {w w' : World} {g : Nat} {t : TypeId} {cs : Array Value}
theorem Blk.lt (h : Blk w g t cs) : g < w.heap.size := by
  rcases Nat.lt_or_ge g w.heap.size with hlt | hge
  · exact hlt
  · unfold Blk at h; rw [Array.getElem?_eq_none hge] at h; cases h
theorem Blk.cell (h : Blk w g t cs) (i : Nat) : w.cell? ⟨g, i, none⟩ = cs[i]? := cell_of_row w g i cs t (0, 0) h
theorem Blk.frozen (h : Blk w g t cs) (i : Nat) : w.frozen? ⟨g, i, none⟩ = false := by
  unfold Blk at h
  simp [World.frozen?, h]
theorem Blk.new (w : World) (t : TypeId) (cs : Array Value) : Blk (w.alloc (.cells cs t)) w.heap.size t cs := heap_alloc_new w _
theorem Blk.new' (w : World) (t : TypeId) (cs : Array Value) (n : Nat) (h : n = w.heap.size) : Blk (w.alloc (.cells cs t)) n t cs := h ▸ Blk.new w t cs
theorem Blk.drew (h : Blk w g t cs) : Blk w.drew g t cs := h
theorem Blk.alloc (h : Blk w g t cs) (o : Obj) : Blk (w.alloc o) g t cs := (Below.heap_alloc w o g h.lt).trans h
theorem Blk.set_ (h : Blk w g t cs) (i : Nat) (u : Value) : Blk (w.setCell ⟨g, i, none⟩ u) g t (cs.setIfInBounds i u) := by
  unfold Blk at h ⊢
  simp [World.setCell, Array.getElem?_modify, h]
theorem Blk.far (h : Blk w g t cs) {p : Addr} (hp : g ≠ p.block) (u : Value) : Blk (w.setCell p u) g t cs := (Below.heap_setCell w p u g hp).trans h
theorem Blk.grow (h : Blk w g t cs) (hb : Ext w w') : Blk w' g t cs := (Below.block hb g h.lt).trans h
theorem Blk.ext (h : Blk w g t cs) (z : World) : Blk (ext w z) g t cs := h.grow (Ext.ext_self w z)
end
end Go.Proofs.Ytchplmenkdghcaa

