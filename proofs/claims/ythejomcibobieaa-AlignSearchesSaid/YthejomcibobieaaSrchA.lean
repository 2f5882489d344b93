/- The reference's search: how its state turns. -/
import Derived.Test.YthejomcibobieaaBest
namespace Go.Proofs.Ythejomcibobieaa
open Go.RowKit

section
variable {P : Program} {o : Oper} {a : Act} {w : World} {Q : Exit → Act → World → Prop} {K : Act → World → Prop}
theorem step_append_keep {ops : Array Oper} {E : Prop} (hgd : o.guard = none) (W0 : World) (hW : Ext W0 w) {t e : TypeId} {size bytes : Nat} (hI : ElemInfo P t e size bytes) (s x : Operand)
    (ho : o.op = .call { callee := .builtin .append, args := #[s, x], argTypes := #[t, t] })
    (v : Value) (n : Nat) (xs : List Value) (hs : a.eval s = v) (hown : w.ownsRow W0.heap.size e size v n xs)
    (A : Option Addr) (m c : Nat) (news : List Value) (hx : a.eval x = .slice A m c) (hm : 0 < m) (hr : Slc w size A m news) (h1 : ∀ u ∈ news, u.oneCell' = true)
    (hsmall : n + m ≤ 65536) (hby : bytes ≤ 65536)
    (h : ∀ A' c' z, (ext W0 z).ownsRow W0.heap.size e size (.slice A' (n + m) c') (n + m) (xs ++ news) → (∀ b, b < w.heap.size → v.ownBlock ≠ some b → (ext W0 z).heap[b]? = w.heap[b]? ∧ (Value.slice A' (n + m) c').ownBlock ≠ some b) → K (a.put o.dst (.slice A' (n + m) c')) (ext W0 z)) :
    if Region.wanted o (yielded ops a.tmps) = true then Oper.wp P o a w K Q else E := by
  have hw : Region.wanted o (yielded ops a.tmps) = true := by simp [Region.wanted, hgd]
  rw [if_pos hw]
  obtain ⟨A', c', w', hrun, h2, h3, h4, h5⟩ := run_append_keep hW hI o.type hown c hm hr h1 hsmall hby
  unfold Oper.wp execOp
  simp only [ho, resolve, invoke, builtin, Sem.run_bind, Sem.run_pure, Result.andThen_ok, List.map_toArray, List.map_cons, List.map_nil, hs, hx, hrun]
  have := h A' c' w'
  rw [ext_of h3] at this
  refine this h2 fun b hb hne => ⟨h4.block b hb (fun e => hne e.symm), fun e => ?_⟩
  rcases h5 with h5 | h5
  · exact hne (h5.symm.trans e)
  · rw [h5] at e
    injection e with e
    omega
end
theorem own_up {w : World} {B B' : Nat} {e : TypeId} {sz n : Nat} {v : Value} {xs : List Value} (h : w.ownsRow B e sz v n xs) (hb : ∀ g, v.ownBlock = some g → B' ≤ g) : w.ownsRow B' e sz v n xs := by
  refine ⟨h.1, ?_⟩
  rcases h.2 with h2 | ⟨g, cap, cur, rfl, hg, r⟩
  · exact .inl h2
  · exact .inr ⟨g, cap, cur, rfl, hb g rfl, r⟩
theorem heap_far (w : World) (p : Addr) (u : Value) {g : Nat} (h : g ≠ p.block) : (w.setCell p u).heap[g]? = w.heap[g]? := Below.heap_setCell w p u g h
section
variable {gA : Nat} {s : St} {sc bd : Int} {vA vL v : Value} {W W1 W2 : World} {B0 n' : Nat}
theorem up_blk (h : AlW (gA + 1) gA s sc bd vA vL W) {vX : Value} (hX : ∀ g, vX.ownBlock = some g → gA + 1 ≤ g) (hE : Ext W W1) (hk : ∀ b, b < W1.heap.size → vX.ownBlock ≠ some b → W2.heap[b]? = W1.heap[b]? ∧ v.ownBlock ≠ some b) : ∀ g, v.ownBlock = some g → gA + 1 ≤ g := by
  intro g e
  rcases Nat.lt_or_ge g W1.heap.size with h1 | h1
  · by_cases h2 : vX.ownBlock = some g
    · exact hX g h2
    · exact absurd e (hk g h1 h2).2
  · have := h.blk.lt
    have := hE.size
    omega
/-- blocks at the list's left stay when one is appended -/
theorem AlW.pushL {l : List Rs} (h : AlW (gA + 1) gA s sc bd vA vL W) (hE : Ext W W1) (hown : W2.ownsRow B0 105 6 v n' (flatG Rs.cellsL (s.left ++ l))) (hn : n' = (s.left ++ l).length)
    (hk : ∀ b, b < W1.heap.size → vL.ownBlock ≠ some b → W2.heap[b]? = W1.heap[b]? ∧ v.ownBlock ≠ some b) : AlW (gA + 1) gA ⟨s.att, s.left ++ l⟩ sc bd vA v (W2.setCell ⟨gA, 3, none⟩ v) := by
  subst hn
  have hl : ∀ g, vL.ownBlock = some g → gA + 1 ≤ g := fun g e => (h.left.lt g e).1
  have hb := up_blk h hl hE hk
  have hgl : gA < W1.heap.size := Nat.lt_of_lt_of_le h.blk.lt hE.size
  have hgL : vL.ownBlock ≠ some gA := fun e => by have := hl gA e; omega
  have hB1 : Blk W2 gA 58 #[.int .i64 sc, .int .i64 bd, vA, vL] := ((hk gA hgl hgL).1).trans (h.blk.grow hE)
  refine ⟨hB1.set_ 3 v, ?_, ?_, h.ga, ?_⟩
  · refine own_at (own_grow h.att hE) fun g e => ?_
    have h1 := h.att.lt g e
    have h2 : g < W1.heap.size := Nat.lt_of_lt_of_le h1.2 hE.size
    rw [heap_far _ _ _ (show g ≠ gA by omega)]
    exact (hk g h2 (h.ne g e)).1
  · exact own_at (own_up hown hb) fun g e => heap_far _ _ _ (by have := hb g e; show g ≠ gA; omega)
  · intro g e
    have h1 := h.att.lt g e
    exact (hk g (Nat.lt_of_lt_of_le h1.2 hE.size) (h.ne g e)).2
theorem AlW.pushA {l : List At} (h : AlW (gA + 1) gA s sc bd vA vL W) (hE : Ext W W1) (hown : W2.ownsRow B0 46 8 v n' (flatG At.cellsL (s.att ++ l))) (hn : n' = (s.att ++ l).length)
    (hk : ∀ b, b < W1.heap.size → vA.ownBlock ≠ some b → W2.heap[b]? = W1.heap[b]? ∧ v.ownBlock ≠ some b) : AlW (gA + 1) gA ⟨s.att ++ l, s.left⟩ sc bd v vL (W2.setCell ⟨gA, 2, none⟩ v) := by
  subst hn
  have hl : ∀ g, vA.ownBlock = some g → gA + 1 ≤ g := fun g e => (h.att.lt g e).1
  have hb := up_blk h hl hE hk
  have hgl : gA < W1.heap.size := Nat.lt_of_lt_of_le h.blk.lt hE.size
  have hgL : vA.ownBlock ≠ some gA := fun e => by have := hl gA e; omega
  have hne : ∀ g, vL.ownBlock = some g → vA.ownBlock ≠ some g := fun g e e2 => h.ne g e2 e
  have hB1 : Blk W2 gA 58 #[.int .i64 sc, .int .i64 bd, vA, vL] := ((hk gA hgl hgL).1).trans (h.blk.grow hE)
  refine ⟨hB1.set_ 2 v, ?_, ?_, h.ga, ?_⟩
  · exact own_at (own_up hown hb) fun g e => heap_far _ _ _ (by have := hb g e; show g ≠ gA; omega)
  · refine own_at (own_grow h.left hE) fun g e => ?_
    have h1 := h.left.lt g e
    have h2 : g < W1.heap.size := Nat.lt_of_lt_of_le h1.2 hE.size
    rw [heap_far _ _ _ (show g ≠ gA by omega)]
    exact (hk g h2 (hne g e)).1
  · intro g e e2
    have h1 := h.left.lt g e2
    exact (hk g (Nat.lt_of_lt_of_le h1.2 hE.size) (hne g e2)).2 e
theorem AlW.setL {l : List Rs} (h : AlW (gA + 1) gA s sc bd vA vL W) (hE : Ext W W2) (hown : W2.ownsRow W.heap.size 105 6 v n' (flatG Rs.cellsL l)) (hn : n' = l.length) : AlW (gA + 1) gA ⟨s.att, l⟩ sc bd vA v (W2.setCell ⟨gA, 3, none⟩ v) := by
  subst hn
  have hlt := h.blk.lt
  have hb : ∀ g, v.ownBlock = some g → gA + 1 ≤ g := fun g e => by have := (hown.lt g e).1; omega
  refine ⟨(h.blk.grow hE).set_ 3 v, ?_, ?_, h.ga, ?_⟩
  · refine own_at (own_grow h.att hE) fun g e => ?_
    have h1 := h.att.lt g e
    exact heap_far _ _ _ (show g ≠ gA by omega)
  · exact own_at (own_up hown hb) fun g e => heap_far _ _ _ (by have := hb g e; show g ≠ gA; omega)
  · intro g e e2
    have h1 := (h.att.lt g e).2
    have h2 := (hown.lt g e2).1
    omega
/-- what lies before stays -/
theorem push_far {vX : Value} {p : Addr} {u : Value} (hE : Ext W W1) (hk : ∀ b, b < W1.heap.size → vX.ownBlock ≠ some b → W2.heap[b]? = W1.heap[b]? ∧ v.ownBlock ≠ some b) {g : Nat} {t : TypeId} {cs : Array Value} (hB : Blk W g t cs) (hg : g ≠ p.block) (hX : ∀ b, vX.ownBlock = some b → g < b) : Blk (W2.setCell p u) g t cs := by
  have h1 : g < W1.heap.size := Nat.lt_of_lt_of_le hB.lt hE.size
  exact (heap_far _ _ _ hg).trans (((hk g h1 (fun e => by have := hX g e; omega)).1).trans (hB.grow hE))
end
theorem flatG_snoc {α : Type} (f : α → List Value) (l : List α) (x : α) : flatG f (l ++ [x]) = flatG f l ++ f x := by simp [flatG]
theorem flatG_two {α : Type} (f : α → List Value) (l : List α) (x y : α) : flatG f (l ++ [x, y]) = flatG f l ++ (f x ++ f y) := by simp [flatG]
/-- the reference's search at hand: its state lies in gA; what lay in V stays -/
structure SvI (w V : World) (gA : Nat) (s : St) (vA vL : Value) (W : World) : Prop where
  al : AlW (gA + 1) gA s 0 0 vA vL W
  far : ∀ b, b < V.heap.size → b ≠ gA → W.heap[b]? = V.heap[b]?
  size : V.heap.size ≤ W.heap.size
  ext : Ext w W
  hL : ∀ g, vL.ownBlock = some g → V.heap.size ≤ g
  hA : ∀ g, vA.ownBlock = some g → V.heap.size ≤ g
  hw : w.heap.size ≤ gA
  hV : gA + 1 < V.heap.size
section
variable {w V : World} {gA : Nat} {s : St} {vA vL v : Value} {W W1 W2 : World} {B0 n' : Nat}
theorem SvI.blk (h : SvI w V gA s vA vL W) {g : Nat} {t : TypeId} {cs : Array Value} (hB : Blk V g t cs) (hg : g ≠ gA) : Blk W g t cs := (h.far g hB.lt hg).trans hB
theorem SvI.grow (h : SvI w V gA s vA vL W) (hE : Ext W W1) : SvI w V gA s vA vL W1 :=
  ⟨h.al.grow hE, fun b hb hg => (hE.block b (Nat.lt_of_lt_of_le hb h.size)).trans (h.far b hb hg), Nat.le_trans h.size hE.size, h.ext.trans hE, h.hL, h.hA, h.hw, h.hV⟩
theorem keep_size (h : SvI w V gA s vA vL W) {vX : Value} (hX : ∀ g, vX.ownBlock = some g → V.heap.size ≤ g) (hE : Ext W W1) (hk : ∀ b, b < W1.heap.size → vX.ownBlock ≠ some b → W2.heap[b]? = W1.heap[b]? ∧ v.ownBlock ≠ some b) : V.heap.size ≤ W2.heap.size ∧ (∀ b, b < V.heap.size → b ≠ gA → W2.heap[b]? = V.heap[b]?) ∧ ∀ g, v.ownBlock = some g → V.heap.size ≤ g := by
  have hs := hE.size
  have hs2 := h.size
  have hV := h.hV
  have key : ∀ b, b < V.heap.size → W2.heap[b]? = W1.heap[b]? ∧ v.ownBlock ≠ some b := fun b hb => hk b (by omega) (fun e => by have := hX b e; omega)
  have key2 : ∀ b, b < V.heap.size → b ≠ gA → W2.heap[b]? = V.heap[b]? := fun b hb hg => ((key b hb).1.trans (hE.block b (by omega))).trans (h.far b hb hg)
  refine ⟨?_, key2, fun g e => ?_⟩
  · have h1 := key2 (V.heap.size - 1) (by omega) (by omega)
    rcases Nat.lt_or_ge (V.heap.size - 1) W2.heap.size with h2 | h2
    · omega
    · rw [Array.getElem?_eq_none h2, Array.getElem?_eq_getElem (by omega)] at h1
      cases h1
  · rcases Nat.lt_or_ge g V.heap.size with h1 | h1
    · exact absurd e (key g h1).2
    · exact h1
theorem SvI.pushL {l : List Rs} (h : SvI w V gA s vA vL W) (hE : Ext W W1) (hW2 : Ext w W2) (hown : W2.ownsRow B0 105 6 v n' (flatG Rs.cellsL (s.left ++ l))) (hn : n' = (s.left ++ l).length)
    (hk : ∀ b, b < W1.heap.size → vL.ownBlock ≠ some b → W2.heap[b]? = W1.heap[b]? ∧ v.ownBlock ≠ some b) : SvI w V gA ⟨s.att, s.left ++ l⟩ vA v (W2.setCell ⟨gA, 3, none⟩ v) := by
  obtain ⟨k1, k2, k3⟩ := keep_size h h.hL hE hk
  exact ⟨h.al.pushL hE hown hn hk, fun b hb hg => (heap_far _ _ _ hg).trans (k2 b hb hg), by simpa using k1, hW2.setCell (p := ⟨gA, 3, none⟩) h.hw _, k3, h.hA, h.hw, h.hV⟩
theorem SvI.pushA {l : List At} (h : SvI w V gA s vA vL W) (hE : Ext W W1) (hW2 : Ext w W2) (hown : W2.ownsRow B0 46 8 v n' (flatG At.cellsL (s.att ++ l))) (hn : n' = (s.att ++ l).length)
    (hk : ∀ b, b < W1.heap.size → vA.ownBlock ≠ some b → W2.heap[b]? = W1.heap[b]? ∧ v.ownBlock ≠ some b) : SvI w V gA ⟨s.att ++ l, s.left⟩ v vL (W2.setCell ⟨gA, 2, none⟩ v) := by
  obtain ⟨k1, k2, k3⟩ := keep_size h h.hA hE hk
  exact ⟨h.al.pushA hE hown hn hk, fun b hb hg => (heap_far _ _ _ hg).trans (k2 b hb hg), by simpa using k1, hW2.setCell (p := ⟨gA, 2, none⟩) h.hw _, h.hL, k3, h.hw, h.hV⟩
theorem SvI.setL {l : List Rs} (h : SvI w V gA s vA vL W) (hE : Ext W W2) (hown : W2.ownsRow W.heap.size 105 6 v n' (flatG Rs.cellsL l)) (hn : n' = l.length) : SvI w V gA ⟨s.att, l⟩ vA v (W2.setCell ⟨gA, 3, none⟩ v) := by
  have hs := h.size
  exact ⟨h.al.setL hE hown hn, fun b hb hg => (heap_far _ _ _ hg).trans ((hE.block b (by omega)).trans (h.far b hb hg)), by have := hE.size; simp; omega, (h.ext.trans hE).setCell (p := ⟨gA, 3, none⟩) h.hw _, fun g e => by have := (hown.lt g e).1; omega, h.hA, h.hw, h.hV⟩
end
theorem SvI.appL {w V : World} {gA : Nat} {s : St} {vA vL v : Value} {W W' : World} {n' : Nat} {l : List Rs} (h : SvI w V gA s vA vL W) (hK : KeepX gA vL W W') (hB : Blk W' gA 58 #[.int .i64 0, .int .i64 0, vA, v]) (hown : W'.ownsRow (gA + 1) 105 6 v n' (flatG Rs.cellsL (s.left ++ l))) (hn : n' = (s.left ++ l).length) (hnew : v.ownBlock = vL.ownBlock ∨ ∃ g, v.ownBlock = some g ∧ W.heap.size ≤ g) : SvI w V gA ⟨s.att, s.left ++ l⟩ vA v W' := by
  subst hn
  have hsz := h.size
  have hV := h.hV
  have hw := h.hw
  refine ⟨⟨hB, own_at h.al.att fun g e => ?_, hown, h.al.ga, fun g e e2 => ?_⟩, fun b hb hg => ?_, Nat.le_trans h.size hK.size, hK.old h.ext h.hw (fun g e => by have := h.hL g e; omega), fun g e => ?_, h.hA, h.hw, h.hV⟩
  · have h1 := h.al.att.lt g e
    exact hK.block g h1.2 (by omega) (h.al.ne g e)
  · have h1 := h.al.att.lt g e
    rcases hnew with hnew | ⟨g', h2, h3⟩
    · rw [hnew] at e2; exact h.al.ne g e e2
    · rw [h2] at e2
      injection e2 with e2
      omega
  · exact (hK.block b (by omega) hg (fun e => by have := h.hL b e; omega)).trans (h.far b hb hg)
  · rcases hnew with hnew | ⟨g', h2, h3⟩
    · rw [hnew] at e; exact h.hL g e
    · rw [h2] at e
      injection e with e
      omega
theorem SvI.appA {w V : World} {gA : Nat} {s : St} {vA vL v : Value} {W W' : World} {n' : Nat} {l : List At} (h : SvI w V gA s vA vL W) (hK : KeepX gA vA W W') (hB : Blk W' gA 58 #[.int .i64 0, .int .i64 0, v, vL]) (hown : W'.ownsRow (gA + 1) 46 8 v n' (flatG At.cellsL (s.att ++ l))) (hn : n' = (s.att ++ l).length) (hnew : v.ownBlock = vA.ownBlock ∨ ∃ g, v.ownBlock = some g ∧ W.heap.size ≤ g) : SvI w V gA ⟨s.att ++ l, s.left⟩ v vL W' := by
  subst hn
  have hsz := h.size
  have hV := h.hV
  have hw := h.hw
  have hne : ∀ g, vL.ownBlock = some g → vA.ownBlock ≠ some g := fun g e e2 => h.al.ne g e2 e
  refine ⟨⟨hB, hown, own_at h.al.left fun g e => ?_, h.al.ga, fun g e e2 => ?_⟩, fun b hb hg => ?_, Nat.le_trans h.size hK.size, hK.old h.ext h.hw (fun g e => by have := h.hA g e; omega), h.hL, fun g e => ?_, h.hw, h.hV⟩
  · have h1 := h.al.left.lt g e
    exact hK.block g h1.2 (by omega) (hne g e)
  · have h1 := h.al.left.lt g e2
    rcases hnew with hnew | ⟨g', h2, h3⟩
    · rw [hnew] at e; exact hne g e2 e
    · rw [h2] at e
      injection e with e
      omega
  · exact (hK.block b (by omega) hg (fun e => by have := h.hA b e; omega)).trans (h.far b hb hg)
  · rcases hnew with hnew | ⟨g', h2, h3⟩
    · rw [hnew] at e; exact h.hA g e
    · rw [h2] at e
      injection e with e
      omega
def apL (gA : Nat) (vA vL : Value) (left : List Rs) (m : Nat) (news : List Value) (W : World) : App := ⟨gA + 1, gA, 105, 6, left.length, m, W.heap.size, vL, flatG Rs.cellsL left, news, #[.int .i64 0, .int .i64 0, vA, vL], 3⟩
def apA (gA : Nat) (vA vL : Value) (att : List At) (news : List Value) (W : World) : App := ⟨gA + 1, gA, 46, 8, att.length, 1, W.heap.size, vA, flatG At.cellsL att, news, #[.int .i64 0, .int .i64 0, vA, vL], 2⟩
theorem apL_ok {w V : World} {gA : Nat} {s : St} {vA vL : Value} {W : World} (h : SvI w V gA s vA vL W) {m : Nat} {news : List Value} (h1 : ∀ u ∈ news, u.oneCell' = true) (hp : 0 < m) (hs : s.left.length + m ≤ 65536) (hl : news.length = m * 6) : (apL gA vA vL s.left m news W).ok :=
  ⟨by show gA < gA + 1; omega, h.al.blk.lt, fun g e => (h.al.left.lt g e).2, h1, hp, hs, hl⟩
theorem apA_ok {w V : World} {gA : Nat} {s : St} {vA vL : Value} {W : World} (h : SvI w V gA s vA vL W) {news : List Value} (h1 : ∀ u ∈ news, u.oneCell' = true) (hs : s.att.length + 1 ≤ 65536) (hl : news.length = 1 * 8) : (apA gA vA vL s.att news W).ok :=
  ⟨by show gA < gA + 1; omega, h.al.blk.lt, fun g e => (h.al.att.lt g e).2, h1, by show 0 < 1; omega, hs, hl⟩
theorem SvI.old {w V : World} {gA : Nat} {s : St} {vA vL : Value} {W W' : World} (h : SvI w V gA s vA vL W) {vX : Value} (hX : ∀ g, vX.ownBlock = some g → V.heap.size ≤ g) (hK : KeepX gA vX W W') : Ext w W' := by
  have hV := h.hV
  have hw := h.hw
  exact hK.old h.ext h.hw (fun g e => by have := hX g e; omega)
theorem SvI.keepb {w V : World} {gA : Nat} {s : St} {vA vL : Value} {W W' : World} (h : SvI w V gA s vA vL W) {vX : Value} (hX : ∀ g, vX.ownBlock = some g → V.heap.size ≤ g) (hK : KeepX gA vX W W') {g : Nat} {t : TypeId} {cs : Array Value} (hB : Blk V g t cs) (hg : g ≠ gA) : Blk W' g t cs :=
  hK.blk (h.blk hB hg) hg (fun e => by have := hX g e; have := hB.lt; omega)
end Go.Proofs.Ythejomcibobieaa
