/- A loop over a function whose iterator writes memory of its own: the iterator keeps what lay ahead of it, a round keeps what the iterator made. -/
import Derived.RangeFuncNested
import Derived.RangeFuncBound
import Derived.RangeFuncCalls
import Derived.RangeFuncLeaves
import Derived.RangeFuncFrom
import Derived.Shelf.Abstract
import Derived.Shelf.RegionOpen
import Derived.OwnWalkIn
import Derived.TacticsInMore
import Derived.LoopNIn
import Derived.LoopIn
import Derived.Test.YtchplmenkdghcaaCommon
namespace Go.Proofs.Ytchplmenkdghcaa
open Go.RowKit Go.Shelf
/-- what lay in W from block B on lies in W' as it lay -/
structure KeepB (B : Nat) (W W' : World) : Prop where
  size : W.heap.size ≤ W'.heap.size
  same : ∀ k, B ≤ k → k < W.heap.size → W'.heap[k]? = W.heap[k]?
theorem KeepB.refl (B : Nat) (W : World) : KeepB B W W := ⟨Nat.le_refl _, fun _ _ _ => rfl⟩
theorem KeepB.trans {B : Nat} {a b c : World} (h : KeepB B a b) (k : KeepB B b c) : KeepB B a c :=
  ⟨Nat.le_trans h.size k.size, fun i h1 h2 => (k.same i h1 (Nat.lt_of_lt_of_le h2 h.size)).trans (h.same i h1 h2)⟩
theorem KeepB.of_ext {B : Nat} {W W' : World} (h : Ext W W') : KeepB B W W' := ⟨h.size, fun k _ hk => h.block k hk⟩
theorem KeepB.put {B : Nat} (W : World) {l : Nat} (hl : l < B) (o : Obj) : KeepB B W (W.putObj l o) :=
  ⟨by simp, fun k h1 _ => World.putObj_heap_other (by omega)⟩
theorem KeepB.set_ {B : Nat} (W : World) {p : Addr} (hp : p.block < B) (v : Value) : KeepB B W (W.setCell p v) :=
  ⟨by simp [World.setCell], fun k h1 _ => Below.heap_setCell _ _ _ _ (by omega)⟩
theorem KeepB.blk {B : Nat} {W W' : World} (h : KeepB B W W') {g : Nat} {t : TypeId} {cs : Array Value} (hB : Blk W g t cs) (hg : B ≤ g) : Blk W' g t cs := (h.same g hg hB.lt).trans hB
theorem below_put {B : Nat} (W : World) {l : Nat} (hl : B ≤ l) (o : Obj) : Below B W (W.putObj l o) :=
  ⟨rfl, rfl, rfl, by simp, fun k hk => World.putObj_heap_other (by omega)⟩
theorem roundIn_any {n m : Nat} {P : Program} {l : Nat} {f : FuncId} {tmps : Array Value} {assign body : Code} {w : World} {R : Ending → World → Prop} (h : RoundIn Fence.wide n P l f tmps assign body w R) : RoundIn Fence.wide m P l f tmps assign body w R :=
  ⟨h.1, fun c cs _ => h.2 c cs (fun d hd => by cases hd)⟩
theorem range_mem {α : Type} {P : Program} {n : Nat} {g : Operand} {ps : Array Tmp} {assign body : Code} {Q : Exit → Act → World → Prop} {a : Act} {w : World}
    {gf : Nat} {lb : Array Value} (hg : a.eval g = .func (.func gf) #[] lb) (eg : ∀ args w, (callFunc gf args).run P w = .ok (.enter gf args) w)
    (encs : α → Array Value) (X : α → Prop) (xs : List α) (C : World → Prop)
    (hseq : ∀ (l : Nat) (J : List α → World → Prop) (W : World), Ext w W → (∀ s A B, J s A → Below W.heap.size A B → J s B) → (∀ s A, J s A → C A) →
      (∀ pre x W1, J pre W1 → X x → ∀ m, YieldAt Fence.wide m P l (encs x) W1 fun e W' => e = .returned (.bool true) ∧ J (pre ++ [x]) W' ∧ KeepB W.heap.size W1 W') →
      J [] W → Calls P gf (#[.func (.yield l) #[] #[]] ++ lb) W fun e W' => (∃ v, e = .returned v) ∧ J xs W')
    (hps : ∀ x, (encs x).size = ps.size)
    (I : List α → World → Prop) (hI : ∀ s A B, I s A → Below w.heap.size A B → I s B) (hC : ∀ s A, I s A → C A) (h0 : I [] w) (a₁ : α → Nat → Act) (S : α → Nat → World → Prop) (hS : ∀ x b A B, S x b A → B.heap[b]? = A.heap[b]? → S x b B)
    (hassign : ∀ (l : Nat) (x : α) (W : World) (K : Act → World → Prop), (∀ W', Ext W W' → S x W.heap.size W' → K (a₁ x W.heap.size) W') →
      assign.wpIn (Fence.wide.inRound l) n P (Exit.then K (fun _ _ _ => False)) { tmps := (ps.zip (encs x)).foldl (fun t (p, v) => t.setIfInBounds p v) a.tmps, defers := [] } W)
    (hbody : ∀ (l : Nat) (pre : List α) (x : α) (b : Nat) (W : World), I pre W → w.heap.size ≤ b → S x b W → X x → body.wpIn (Fence.wide.inRound l) n P (fun e _ W' => e = .normal ∧ KeepB w.heap.size W W' ∧ I (pre ++ [x]) W') (a₁ x b) W)
    (hdone : ∀ (D : Nat) (W : World), w.heap.size ≤ D → I xs W → W.heap[D]? = some (.deferred (some [])) → Q .normal { a with defers := { target := .collected D, args := #[] } :: a.defers } W) :
    (Code.rangeFunc g ps assign body).wpIn Fence.wide n P Q a w := by
  refine wpIn_rangeFunc fun fn _ => ?_
  obtain ⟨rec, hrec⟩ : ∃ rec : LoopState → Option Code → Loop, rec = fun st pe => { state := st, pending := pe, fn, tmps := a.tmps, params := ps, assign, body, defers := w.heap.size } := ⟨_, rfl⟩
  obtain ⟨W1, hW1⟩ : ∃ W1, W1 = (w.alloc (.deferred (some []))).alloc (.loop (rec .ready none)) := ⟨_, rfl⟩
  have hs1 : W1.heap.size = w.heap.size + 2 := by rw [hW1]; simp
  have hE1 : Ext w W1 := by rw [hW1]; exact ((Ext.refl w).alloc _).alloc _
  have hL1 : W1.heap[w.heap.size + 1]? = some (.loop (rec .ready none)) := by
    have := World.alloc_heap_new (w.alloc (.deferred (some []))) (.loop (rec .ready none))
    rw [World.size_alloc] at this
    rw [hW1]; exact this
  have hD1 : W1.heap[w.heap.size]? = some (.deferred (some [])) := by
    rw [hW1]; exact (Below.heap_alloc _ _ _ (by simp)).trans (World.alloc_heap_new w _)
  refine ⟨w.heap.size + 1, [{ target := .collected w.heap.size, args := #[] }], W1, { target := .fn (.func gf) lb, args := #[.func (.yield (w.heap.size + 1)) #[] #[]] }, W1, gf,
    #[.func (.yield (w.heap.size + 1)) #[] #[]] ++ lb, W1, ?_, ?_, fun _ _ => trivial, ?_, fun h => (by cases h), callsIn_wide.2 ?_⟩
  · rw [hW1, hrec]; exact run_enterLoop_outer _ _ _ _ _
  · simp only [resolve, hg]
    simp [go_sem]
  · simp [invoke, go_sem, eg]
  refine (hseq (w.heap.size + 1) (fun s A => I s A ∧ A.heap[w.heap.size + 1]? = some (.loop (rec .ready none)) ∧ A.heap[w.heap.size]? = some (.deferred (some []))) W1 hE1 ?_ (fun s A h => hC s A h.1) ?_
    ⟨hI _ _ _ h0 hE1, hL1, hD1⟩).mono ?_
  · rintro s A B ⟨h1, h2, h3⟩ hb
    exact ⟨hI _ _ _ h1 (hb.mono (by omega)), (hb.block _ (by omega)).trans h2, (hb.block _ (by omega)).trans h3⟩
  · -- one round
    rintro pre x W ⟨hi, hl, hk⟩ hx m
    have hlt : w.heap.size + 1 < W.heap.size := (Array.getElem?_eq_some_iff.1 hl).1
    have hy := run_yield (P := P) (args := encs x) hl (by rw [hrec]; exact hps x)
    rw [hrec] at hy
    refine ⟨fn, _, assign, body, hy, roundIn_any (n := n) (roundIn_of_wpIn trivial (hassign _ x W _ fun W0 hE0 hS0 => ?_))⟩
    have hl0 := (hE0.block _ hlt).trans hl
    have hk0 := (hE0.block _ (by omega)).trans hk
    have hs0 := hE0.size
    refine ⟨_, run_beginRound hl0 (by rw [hrec]), ?_⟩
    have hl2 : (W0.putObj (w.heap.size + 1) (.loop { rec .ready none with state := .busy })).heap[w.heap.size + 1]? = some (.loop { rec .ready none with state := .busy }) := World.putObj_heap_same (by omega)
    have hk2 : (W0.putObj (w.heap.size + 1) (.loop { rec .ready none with state := .busy })).heap[w.heap.size]? = some (.deferred (some [])) := (World.putObj_heap_other (by omega)).trans hk0
    refine wpIn_mono (hbody _ pre x W.heap.size _ (hI _ _ _ hi ((hE0.mono (by omega)).trans (below_put W0 (by omega) _))) (by omega) (hS _ _ _ _ hS0 (World.putObj_heap_other (by omega))) hx) ?_
    rintro e a3 W3 ⟨rfl, hk3, hi3⟩
    have hl3 := (hk3.same (w.heap.size + 1) (by omega) (by simp; omega)).trans hl2
    have hr := run_endRound (P := P) none hl3
    rw [hrec] at hr
    refine ⟨_, _, hr, rfl, ⟨hI _ _ _ hi3 (below_put W3 (by omega) _), ?_, ?_⟩, ?_⟩
    · rw [World.putObj_heap_same (Array.getElem?_eq_some_iff.1 hl3).1, hrec]; rfl
    · rw [World.putObj_heap_other (by omega)]
      exact (hk3.same _ (Nat.le_refl _) (by simp; omega)).trans hk2
    · have hb : w.heap.size + 1 < W1.heap.size := by omega
      refine (((KeepB.of_ext hE0).trans (KeepB.put W0 hb _)).trans ⟨hk3.size, fun k h1 h2 => hk3.same k (by omega) h2⟩).trans (KeepB.put W3 hb _)
  · -- behind the iterator
    rintro e W2 ⟨⟨v, rfl⟩, hi, hl, hk⟩
    have hr := run_endLoop (P := P) hl (by rw [hrec]; simp)
    rw [hrec] at hr
    exact ⟨none, _, hr, hdone _ _ (Nat.le_refl _) (hI _ _ _ hi (below_put W2 (by omega) _)) ((World.putObj_heap_other (by omega)).trans hk)⟩
end Go.Proofs.Ytchplmenkdghcaa

