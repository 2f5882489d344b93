/- A region that draws, inside the fence: operations that leave the world alone, then the others in the text's order. -/
import Derived.Test.YtchplmenkdghcaaTopBin
import Derived.Test.YtchplmenkdghcaaGrow
import Derived.StillTail
import Derived.OrdersIn
import Derived.TacticsIn
namespace Go.Proofs.Ytchplmenkdghcaa
open Go.RowKit Go.Shelf
section
variable {P : Program} {ops : Array Oper} {md : Region.Mode} {w : World} {m : Nat}
theorem wpOpIn_of_stOp {i : Nat} {a : Act} {K : Act → Prop} {K' : Act → World → Prop} {Q' : Exit → Act → World → Prop} (h : ∀ a, K a → K' a w) (hh : stOp P ops w i K a) : wpOpIn Fence.wide m P ops Q' i K' a w := by
  unfold stOp at hh
  unfold wpOpIn
  split
  · rename_i ho; simp only [ho] at hh; exact h _ hh
  · rename_i o ho
    simp only [ho] at hh
    split
    · rename_i hw
      simp only [hw, if_true] at hh
      refine ⟨fun _ _ => trivial, ?_⟩
      unfold Oper.still at hh
      rw [show o.semAt Fence.wide.round a.eval = execOp a.eval o from Oper.semAt_none _ _]
      generalize (execOp a.eval o).run P w = r at *
      cases r with
      | ok x w' =>
        cases x <;> simp only [Oper.stillUpon] at hh <;> first | exact hh.elim | skip
        all_goals first
          | (obtain ⟨rfl, v, hc, hh⟩ := hh
             refine ⟨fun hd => (by cases hd), (callsIn_wide.2 hc).mono ?_⟩
             rintro e w'' ⟨rfl, rfl⟩
             exact h _ hh)
          | (obtain ⟨rfl, hh⟩ := hh; exact h _ hh)
      | halt => exact hh.elim
    · rename_i hw
      simp only [hw] at hh
      exact ⟨fun _ _ => trivial, h _ hh⟩
theorem wpAnyIn_of_head {n g : Nat} {L : Array Bool → Act → Prop} {Q' : Exit → Act → World → Prop} (hL : ∀ listed a, L listed a → wpAnyIn Fence.wide m P md ops Q' g listed a w) :
    ∀ (f : Nat) (listed : Array Bool) (a : Act), wpAnyL P md ops w n L f listed a → wpAnyIn Fence.wide m P md ops Q' (f + g) listed a w
  | 0, listed, a, h => by rw [Nat.zero_add]; exact hL _ _ h
  | f + 1, listed, a, h => by
    rw [show f + 1 + g = (f + g) + 1 by omega]
    exact ⟨fun h0 => absurd h0 h.1, fun i hi => wpOpIn_of_stOp (fun a' h' => wpAnyIn_of_head hL f _ a' h') (h.2 i hi).2⟩
theorem wpAnyIn_of_seq {Q' : Exit → Act → World → Prop} : ∀ (l : List Oper) (k : Nat) (listed : Array Bool) (a : Act) (w : World), (∀ j, l[j]? = ops[k + j]?) →
    Region.seqB md ops l.length k listed = true → wpListIn Fence.wide m P ops Q' l a w → wpAnyIn Fence.wide m P md ops Q' l.length listed a w
  | [], _, _, _, _, _, hB, h => ⟨by simpa [Region.seqB] using hB, h⟩
  | o :: l, k, listed, a, w, hl, hB, h => by
    have h0 : ops[k]? = some o := by simpa using (hl 0).symm
    simp only [List.length_cons, Region.seqB, Bool.and_eq_true, decide_eq_true_eq] at hB
    refine ⟨fun h1 => (by rw [hB.1] at h1; cases h1), fun i hi => ?_⟩
    rw [hB.1] at hi
    have hik : i = k := by simpa using hi
    subst hik
    have hw : wpOpIn Fence.wide m P ops Q' i (wpListIn Fence.wide m P ops Q' l) a w := by unfold wpOpIn; simp only [h0]; exact h
    exact wpOpIn_mono (fun a' w' h' => wpAnyIn_of_seq l (i + 1) _ a' w' (fun j => by have := hl (j + 1); simpa [Nat.add_assoc, Nat.add_comm 1 j] using this) hB.2 h') hw
theorem wpIn_region_tail {id : Nat} {Q : Exit → Act → World → Prop} {a : Act} {w : World} {l : List Oper} (n : Nat) (hm : P.follows .mixedOrders = true) (hB : Region.lexTailB .any l.toArray n = true)
    (h : wpStill P l.toArray w.drew (fun a' => wpListIn Fence.wide m P l.toArray Q (l.drop n) a' w.drew) (l.take n) a) : (Code.region id l.toArray true).wpIn Fence.wide m P Q a w := by
  simp only [Region.lexTailB, Bool.and_eq_true, decide_eq_true_eq] at hB
  obtain ⟨⟨⟨⟨hsel, hn⟩, hs⟩, hc⟩, hlex⟩ := hB
  have hn' : n < l.length := by simpa using hn
  have htl : (l.take n).length = n := by simp; omega
  have hdl : (l.drop n).length = l.toArray.size - n := by simp
  have inv0 : HeadInv .any l.toArray n (Array.replicate l.toArray.size false) :=
    ⟨by simp, fun j oj _ hl => (by rw [getD_replicate_false] at hl; cases hl), fun t _ ht => getD_in (by simpa using ht) (getD_replicate_false _ _)⟩
  have H := wpAnyL_lex (md := .any) (g := l.toArray.size - n) hsel hs hc hn (l.take n) 0 _ a (fun j hj => by
    have hj' : j < n := by rw [htl] at hj; exact hj
    simp [hj']) (by simpa using htl) inv0 (by rw [htl]; exact hlex) h
  refine wpIn_region_any hm ?_
  have := wpAnyIn_of_head (m := m) (Q' := Q) (g := l.toArray.size - n) (fun listed a' hL => by
    have := wpAnyIn_of_seq (m := m) (md := .any) (Q' := Q) (l.drop n) n listed a' w.drew (fun j => by simp [List.getElem?_drop]) (by rw [hdl]; exact hL.1) hL.2
    rwa [hdl] at this) _ _ _ H
  rw [htl, show n + (l.toArray.size - n) = l.toArray.size by omega] at this
  exact this
end
end Go.Proofs.Ytchplmenkdghcaa
/- The places of the ridge pixels, as an iterator. -/
namespace Go.Proofs.Ytchplmenkdghcaa
open Go.RowKit Go.Shelf

theorem pixels_any (v0 v1 v2 : Value) (w : World) : Calls Try.prog 32 #[.agg #[v0, v1, v2]] w fun e w' => e = .returned (.func (.func 46) #[] #[.pointer (some ⟨w.heap.size, 0, none⟩)]) ∧ w' = w.alloc (.cells #[v0, v1, v2] 24) := by
  go_enter Try.func32, Try.ntmps32
  go_wp2_with fail
  go_ret
  exact ⟨rfl, rfl⟩
theorem absurd_undef {b : Bool} (h : some undef = some (Value.bool b)) : False := by simp [undef] at h
/-- the ridge pixels among the first k -/
def idxK (R : List Bool) (k : Nat) : List Nat := (List.range k).filter fun i => R.getD i false
theorem idxK_succ (R : List Bool) (k : Nat) : idxK R (k + 1) = idxK R k ++ if R.getD k false then [k] else [] := by
  unfold idxK
  rw [List.range_succ, List.filter_append]
  simp only [List.filter_cons, List.filter_nil]
theorem idxK_in {R : List Bool} {k i : Nat} (h : i ∈ idxK R k) : i < k := by
  simp [idxK] at h
  exact h.1
theorem idxK_len (R : List Bool) (k : Nat) : (idxK R k).length ≤ k := Nat.le_trans (List.length_filter_le _ _) (by simp)
/-- what the caller promises -/
structure PixIn (l cB W : Nat) (A : Option Addr) (c : Nat) (R : List Bool) (J : List Nat → World → Prop) : Prop where
  drew : ∀ s X, J s X → J s X.drew
  w0 : ∀ s X, J s X → X.cell? ⟨cB, 0, none⟩ = some (.int .i64 W)
  r0 : ∀ s X, J s X → X.cell? ⟨cB, 2, none⟩ = some (.slice A R.length c)
  at' : ∀ s X, J s X → Bls X A R
  yield : ∀ pre (x : Nat) W1, J pre W1 → x < R.length ∧ pre.length ≤ x → ∀ m, YieldAt Fence.wide m Try.prog l #[.int .i64 ((x % W : Nat) : Int), .int .i64 ((x / W : Nat) : Int)] W1 fun e W' => e = .returned (.bool true) ∧ J (pre ++ [x]) W'
section
attribute [local go_sem] Oper.semAt_some
set_option maxRecDepth 100000 in
set_option maxHeartbeats 2000000 in
theorem pix_any (l cB W c : Nat) (A : Option Addr) (R : List Bool) (hW : 1 ≤ W ∧ W ≤ 20) (hn : R.length ≤ 400) (J : List Nat → World → Prop) (V : World) (h : PixIn l cB W A c R J) (hJ : J [] V) :
    Calls Try.prog 46 #[.func (.yield l) #[] #[], .pointer (some ⟨cB, 0, none⟩)] V fun e W' => (∃ v, e = .returned v) ∧ J (idxL R) W' := by
  have HH := Lib.hid h
  have HJ := Lib.hid hJ
  have r0 := h.r0 _ _ hJ
  clear h hJ
  refine (callsIn_wide (n := 4)).1 ?_
  refine callsIn_of_wp Try.func46 rfl trivial ?_ rfl
  simp only [Try.ntmps46, List.size_toArray, List.length_cons, List.length_nil, Nat.reduceAdd, Nat.reduceSub, Array.replicate_succ, Array.replicate_zero, List.push_toArray, List.append_toArray, List.nil_append, List.cons_append]
  gi_wp2
  clear r0
  gi_loopw [3, 4, 8] (fun _ _ t wr => ∃ (k : Nat), k ≤ R.length ∧ t = .int .i64 (k : Int) ∧ J (idxK R k) wr) (fun _ _ t _ => R.length - (intOf t).toNat)
  case atStart => exact ⟨0, Nat.zero_le _, rfl, HJ.out⟩
  case round =>
    clear HJ
    obtain ⟨k, hk, rfl, hJ⟩ := hrel
    by_cases hlt : k < R.length
    · have hd : decide (k < R.length) = true := by simp; omega
      have hd2 : decide ((k : Int) < (R.length : Int)) = true := by simp; omega
      have w0 := HH.out.w0 _ _ hJ
      obtain ⟨x, hx⟩ : ∃ x, R.getD k false = x := ⟨_, rfl⟩
      have hxk : R[k]? = some x := by
        rw [← hx, List.getD_eq_getElem?_getD, List.getElem?_eq_getElem hlt]; rfl
      obtain ⟨g, off, rfl, hc⟩ : ∃ g off, A = some ⟨g, off, none⟩ ∧ wr.cell? ⟨g, off + k, none⟩ = some (.bool x) := by
        rcases HH.out.at' _ _ hJ with h | ⟨g, off, rfl, -, hc⟩
        · rw [h] at hlt; exact absurd hlt (by simp)
        · refine ⟨g, off, rfl, ?_⟩
          have := hc k x hxk 0 (.bool x) rfl
          rwa [Nat.mul_one, Nat.add_zero] at this
      have HS := Lib.hid (idxK_succ R k)
      rw [hx] at HS
      cases x
      · have HJ2 := Lib.hid (show J (idxK R (k + 1)) wr by rw [HS.out, if_neg (by simp), List.append_nil]; exact hJ)
        clear hJ HS
        gi_wp2
        refine wpIn_region_tail 11 (by kernel_rfl) (by kernel_rfl) ?_
        simp only [List.take_succ_cons, List.take_zero, List.drop_succ_cons, List.drop_zero]
        repeat ((with_reducible refine wpStill_step (fun K hK => ?_)); go_simp; refine hK _ ?_; clear hK K)
        (with_reducible refine wpStill_nil ?_)
        gi_wp2
        all_goals (try (exfalso; apply absurd_undef; assumption))
        all_goals (refine ⟨fun _ _ => trivial, ?_⟩; gi_wp2)
        all_goals (try (exfalso; apply absurd_undef; assumption))
        all_goals exact ⟨⟨k + 1, by omega, by go_num, HH.out.drew _ _ HJ2.out⟩, by simp [intOf]; omega⟩
      · obtain ⟨fn, tmps, assign, body, hy, hR⟩ := HH.out.yield _ k wr.drew (HH.out.drew _ _ hJ) ⟨hlt, idxK_len R k⟩ 3
        rw [show idxK R k ++ [k] = idxK R (k + 1) by rw [HS.out]; rfl] at hR
        rw [show ((k % W : Nat) : Int) = (k : Int) % W by simp, show ((k / W : Nat) : Int) = (k : Int) / W by simp] at hy
        have hz : (W = 0) = False := by simp; omega
        have hqa : ∀ q : Nat, q ≤ 400 → IntKind.i64.wrap (q : Int) = q := fun q h => IntWalk.i64_in _ (by omega)
        have hq := hqa _ (Nat.le_trans (Nat.div_le_self k W) (by omega))
        rw [show ((k / W : Nat) : Int) = (k : Int) / W by simp] at hq
        have hq2 := hqa _ (Nat.le_trans (Nat.mod_le k W) (by omega))
        rw [show ((k % W : Nat) : Int) = (k : Int) % W by simp] at hq2
        clear hqa
        clear hJ HS
        gi_wp2
        refine wpIn_region_tail 11 (by kernel_rfl) (by kernel_rfl) ?_
        simp only [List.take_succ_cons, List.take_zero, List.drop_succ_cons, List.drop_zero]
        repeat ((with_reducible refine wpStill_step (fun K hK => ?_)); go_simp; refine hK _ ?_; clear hK K)
        (with_reducible refine wpStill_nil ?_)
        gi_wp2
        rw [hy]
        go_simp
        refine hR.mono ?_
        clear hR
        rintro e W3 ⟨rfl, hJ3⟩
        gi_wp2
        exact ⟨⟨k + 1, by omega, by go_num, hJ3⟩, by simp [intOf]; omega⟩
    · have : k = R.length := by omega
      subst this
      gi_wp2
      go_end0
      exact ⟨⟨_, rfl⟩, hJ⟩
end
end Go.Proofs.Ytchplmenkdghcaa
/- Many loops over functions leave many marks. -/
namespace Go.Proofs.Ytchplmenkdghcaa
open Go.RowKit Go.Shelf
def markD (D : Nat) : Deferred := { target := .collected D, args := #[] }
/-- the marks of loops that are over -/
structure Marks (B : Nat) (Ds : List Nat) (W : World) : Prop where
  nd : Ds.Nodup
  at' : ∀ D ∈ Ds, B ≤ D ∧ W.heap[D]? = some (.deferred (some []))
theorem leaves_marks {P : Program} {F : Fence} {n : Nat} {fn : Func} {tmps : Array Value} {R : Ending → World → Prop} {B : Nat} : ∀ (Ds : List Nat) (W : World), Marks B Ds W →
    (∀ W', Below B W W' → (∀ k, (∀ D ∈ Ds, k ≠ D) → W'.heap[k]? = W.heap[k]?) → LeavesInM F n P fn tmps R [] .returning W') → LeavesInM F n P fn tmps R (Ds.map markD) .returning W
  | [], W, _, h => h W (Below.refl _ _) fun _ _ => rfl
  | D :: Ds, W, hM, h => by
    obtain ⟨hB, hD⟩ := hM.at' D (by simp)
    have hnd := List.nodup_cons.1 hM.nd
    refine ⟨by simp, .inl ⟨D, _, rfl, run_takeDeferred hD, ?_⟩⟩
    refine leaves_marks (B := B) Ds _ ⟨hnd.2, fun E hE => ⟨(hM.at' E (by simp [hE])).1, ?_⟩⟩ fun W' hW hk => h W' ((below_put W hB _).trans hW) fun k hkk => ?_
    · have hne : E ≠ D := fun e => hnd.1 (by rw [← e]; exact hE)
      rw [World.putObj_heap_other hne]
      exact (hM.at' E (by simp [hE])).2
    · rw [hk k fun E hE => hkk E (by simp [hE]), World.putObj_heap_other (hkk D (by simp))]
end Go.Proofs.Ytchplmenkdghcaa
/- A loop over a function whose iterator only draws: the rounds may write and make what they like, but what is no cells. -/
namespace Go.Proofs.Ytchplmenkdghcaa
open Go.RowKit Go.Shelf
theorem keeps_of_ext {A B : World} (h : Ext A B) : KeepsOthers A B := ⟨h.size, fun _ _ hk _ => (h.block _ (Array.getElem?_eq_some_iff.1 hk).1).trans hk⟩
/-- what stands in a block of cells stays where another kind of block is written -/
theorem blk_put {A : World} {g k : Nat} {t : TypeId} {cs : Array Value} {r : Loop} (h : Blk A g t cs) (hk : A.heap[k]? = some (.loop r)) (o : Obj) : Blk (A.putObj k o) g t cs := by
  refine (World.putObj_heap_other ?_).trans h
  intro e
  subst e
  unfold Blk at h
  rw [h] at hk
  cases hk
theorem own_put {A : World} {base : Nat} {e : TypeId} {sz n k : Nat} {v : Value} {xs : List Value} {r : Loop} (h : A.ownsRow base e sz v n xs) (hk : A.heap[k]? = some (.loop r)) (o : Obj) : (A.putObj k o).ownsRow base e sz v n xs := by
  refine ⟨h.1, ?_⟩
  rcases h.2 with h2 | ⟨g, cap, cur, hv, hb, hh, q⟩
  · exact .inl h2
  · exact .inr ⟨g, cap, cur, hv, hb, blk_put (t := e) hh hk o, q⟩
theorem marks_put {A : World} {B k : Nat} {Ds : List Nat} {r : Loop} (h : Marks B Ds A) (hk : A.heap[k]? = some (.loop r)) (o : Obj) : Marks B Ds (A.putObj k o) := by
  refine ⟨h.nd, fun D hD => ⟨(h.at' D hD).1, ?_⟩⟩
  have h2 := (h.at' D hD).2
  refine (World.putObj_heap_other ?_).trans h2
  intro e
  subst e
  rw [h2] at hk
  cases hk
theorem marks_keeps {A A' : World} {B : Nat} {Ds : List Nat} (h : Marks B Ds A) (hk : KeepsOthers A A') : Marks B Ds A' := ⟨h.nd, fun D hD => ⟨(h.at' D hD).1, hk.same _ _ (h.at' D hD).2 rfl⟩⟩
theorem ext_put {w A : World} (h : Ext w A) {k : Nat} (hk : w.heap.size ≤ k) (o : Obj) : Ext w (A.putObj k o) :=
  ⟨h.os, h.tape, h.output, by simp; exact h.size, fun b hb => (World.putObj_heap_other (by omega)).trans (h.block b hb)⟩
theorem range_own {α : Type} {P : Program} {n : Nat} {g : Operand} {ps : Array Tmp} {assign body : Code} {Q : Exit → Act → World → Prop} {a : Act} {w : World}
    {gf : Nat} {lb : Array Value} (hg : a.eval g = .func (.func gf) #[] lb) (eg : ∀ args w, (callFunc gf args).run P w = .ok (.enter gf args) w)
    (encs : α → Array Value) (X : List α → α → Prop) (xs : List α) (C : World → Prop)
    (hseq : ∀ (l : Nat) (J : List α → World → Prop) (W : World), (∀ s A, J s A → J s A.drew) → (∀ s A, J s A → C A) →
      (∀ pre x W1, J pre W1 → X pre x → ∀ m, YieldAt Fence.wide m P l (encs x) W1 fun e W' => e = .returned (.bool true) ∧ J (pre ++ [x]) W') →
      J [] W → Calls P gf (#[.func (.yield l) #[] #[]] ++ lb) W fun e W' => (∃ v, e = .returned v) ∧ J xs W')
    (hps : ∀ x, (encs x).size = ps.size)
    (I : List α → World → Prop) (hI : ∀ s A, I s A → I s A.drew) (hput : ∀ s A r o, I s A → A.heap[w.heap.size + 1]? = some (.loop r) → I s (A.putObj (w.heap.size + 1) o)) (hC : ∀ s A, I s A → C A)
    (h0 : ∀ W1, Ext w W1 → I [] W1) (a₁ : α → Act)
    (hassign : ∀ (l : Nat) (x : α) (W : World) (K : Act → World → Prop), K (a₁ x) W →
      assign.wpIn (Fence.wide.inRound l) n P (Exit.then K (fun _ _ _ => False)) { tmps := (ps.zip (encs x)).foldl (fun t (p, v) => t.setIfInBounds p v) a.tmps, defers := [] } W)
    (hbody : ∀ (l : Nat) (pre : List α) (x : α) (W : World), I pre W → X pre x → body.wpIn (Fence.wide.inRound l) n P (fun e _ W' => e = .normal ∧ KeepsOthers W W' ∧ I (pre ++ [x]) W') (a₁ x) W)
    (hdone : ∀ (D : Nat) (W : World), w.heap.size ≤ D → I xs W → W.heap[D]? = some (.deferred (some [])) → Q .normal { a with defers := { target := .collected D, args := #[] } :: a.defers } W) :
    (Code.rangeFunc g ps assign body).wpIn Fence.wide n P Q a w := by
  refine wpIn_rangeFunc fun fn _ => ?_
  obtain ⟨rec, hrec⟩ : ∃ rec : LoopState → Option Code → Loop, rec = fun st pe => { state := st, pending := pe, fn, tmps := a.tmps, params := ps, assign, body, defers := w.heap.size } := ⟨_, rfl⟩
  obtain ⟨W1, hW1⟩ : ∃ W1, W1 = (w.alloc (.deferred (some []))).alloc (.loop (rec .ready none)) := ⟨_, rfl⟩
  have hs1 : W1.heap.size = w.heap.size + 2 := by rw [hW1]; simp
  have hE1 : Ext w W1 := by rw [hW1]; exact ((Ext.refl w).alloc _).alloc _
  have hL1 : W1.heap[w.heap.size + 1]? = some (.loop (rec .ready none)) := by
    have := World.alloc_heap_new (w.alloc (.deferred (some []))) (.loop (rec .ready none))
    rw [World.size_alloc] at this
    rw [hW1]; exact this
  have hD1 : W1.heap[w.heap.size]? = some (.deferred (some [])) := by
    rw [hW1]; exact (Below.heap_alloc _ _ _ (by simp)).trans (World.alloc_heap_new w _)
  refine ⟨w.heap.size + 1, [{ target := .collected w.heap.size, args := #[] }], W1, { target := .fn (.func gf) lb, args := #[.func (.yield (w.heap.size + 1)) #[] #[]] }, W1, gf,
    #[.func (.yield (w.heap.size + 1)) #[] #[]] ++ lb, W1, ?_, ?_, fun _ _ => trivial, ?_, fun h => (by cases h), callsIn_wide.2 ?_⟩
  · rw [hW1, hrec]; exact run_enterLoop_outer _ _ _ _ _
  · simp only [resolve, hg]
    simp [go_sem]
  · simp [invoke, go_sem, eg]
  refine (hseq (w.heap.size + 1) (fun s A => I s A ∧ A.heap[w.heap.size + 1]? = some (.loop (rec .ready none)) ∧ A.heap[w.heap.size]? = some (.deferred (some []))) W1 ?_ (fun s A h => hC s A h.1) ?_
    ⟨h0 _ hE1, hL1, hD1⟩).mono ?_
  · rintro s A ⟨h1, h2, h3⟩
    exact ⟨hI _ _ h1, h2, h3⟩
  · rintro pre x W ⟨hi, hl, hk⟩ hx m
    have hlt : w.heap.size + 1 < W.heap.size := (Array.getElem?_eq_some_iff.1 hl).1
    have hy := run_yield (P := P) (args := encs x) hl (by rw [hrec]; exact hps x)
    rw [hrec] at hy
    refine ⟨fn, _, assign, body, hy, roundIn_any (n := n) (roundIn_of_wpIn trivial (hassign _ x W _ ?_))⟩
    refine ⟨_, run_beginRound hl (by rw [hrec]), ?_⟩
    have hl2 : (W.putObj (w.heap.size + 1) (.loop { rec .ready none with state := .busy })).heap[w.heap.size + 1]? = some (.loop { rec .ready none with state := .busy }) := World.putObj_heap_same hlt
    have hk2 : (W.putObj (w.heap.size + 1) (.loop { rec .ready none with state := .busy })).heap[w.heap.size]? = some (.deferred (some [])) := (World.putObj_heap_other (by omega)).trans hk
    refine wpIn_mono (hbody _ pre x _ (hput _ _ _ _ hi hl) hx) ?_
    rintro e a3 W3 ⟨rfl, hk3, hi3⟩
    have hl3 := hk3.same _ _ hl2 rfl
    have hr := run_endRound (P := P) none hl3
    rw [hrec] at hr
    refine ⟨_, _, hr, rfl, hput _ _ _ _ hi3 hl3, ?_, ?_⟩
    · rw [World.putObj_heap_same (Array.getElem?_eq_some_iff.1 hl3).1, hrec]; rfl
    · rw [World.putObj_heap_other (by omega)]
      exact hk3.same _ _ hk2 rfl
  · rintro e W2 ⟨⟨v, rfl⟩, hi, hl, hk⟩
    have hr := run_endLoop (P := P) hl (by rw [hrec]; simp)
    rw [hrec] at hr
    exact ⟨none, _, hr, hdone _ _ (Nat.le_refl _) (hput _ _ _ _ hi hl) ((World.putObj_heap_other (by omega)).trans hk)⟩
end Go.Proofs.Ytchplmenkdghcaa
/- The reference's sized (11) and Valid (5). -/
namespace Go.Proofs.Ytchplmenkdghcaa
open Go.RowKit
theorem beq_dec {a b : Int} : (a == b) = decide (a = b) := by by_cases h : a = b <;> simp [h]
def sizedF (W H n : Int) : Bool := inB W 1 20 && inB H 1 20 && decide (n = W * H)
set_option maxRecDepth 100000 in
theorem sizedR_any (W H n : Int) (w : World) : Calls Try.prog 11 #[.int .i64 W, .int .i64 H, .int .i64 n] w fun e w' => e = .returned (.bool (sizedF W H n)) ∧ Ext w w' := by
  have HV := Lib.hid (show sizedF W H n = (inB W 1 20 && inB H 1 20 && decide (n = W * H)) from rfl)
  have C1 := fun w => withinR_any W 1 20 w
  have C2 := fun w => withinR_any H 1 20 w
  generalize sizedF W H n = v at *
  cases h1 : inB W 1 20
  · rw [h1] at C1 HV
    replace C1 := Lib.hid C1
    clear h1 C2
    go_enter Try.func11, Try.ntmps11
    go_wp2_with fail
    refine Calls.same (C1.out _) ?_
    go_wp2_with fail
    go_ret
    exact ⟨ret_of (by rw [HV.out]; simp), Ext.refl _⟩
  · rw [h1] at C1 HV
    replace C1 := Lib.hid C1
    cases h2 : inB H 1 20
    · rw [h2] at C2 HV
      replace C2 := Lib.hid C2
      clear h1 h2
      go_enter Try.func11, Try.ntmps11
      go_wp2_with fail
      refine Calls.same (C1.out _) ?_
      go_wp2_with fail
      refine Calls.same (C2.out _) ?_
      go_wp2_with fail
      go_ret
      exact ⟨ret_of (by rw [HV.out]; simp), Ext.refl _⟩
    · rw [h2] at C2 HV
      replace C2 := Lib.hid C2
      rw [inB_iff] at h1 h2
      have hb : IntKind.i64.wrap (W * H) = W * H := by
        have h3 : 0 ≤ W * H := Int.mul_nonneg (by omega) (by omega)
        have h4 : W * H ≤ 20 * 20 := Int.mul_le_mul h1.2 h2.2 (by omega) (by omega)
        exact IntWalk.i64_in _ (by omega)
      clear h1 h2
      go_enter Try.func11, Try.ntmps11
      go_wp2_with fail
      refine Calls.same (C1.out _) ?_
      go_wp2_with fail
      refine Calls.same (C2.out _) ?_
      go_wp2_with fail
      go_ret
      exact ⟨ret_of (by rw [HV.out]; simp [beq_dec]), Ext.refl _⟩
set_option maxRecDepth 100000 in
theorem validR_any (W H : Int) (n c : Nat) (A : Option Addr) (w : World) : Calls Try.prog 5 #[.agg #[.int .i64 W, .int .i64 H, .slice A n c]] w fun e w' => e = .returned (.bool (sizedF W H n)) ∧ Ext w w' := by
  have C := Lib.hid (fun w => sizedR_any W H n w)
  generalize sizedF W H n = v at *
  have HE := Lib.hid ((Ext.refl w).alloc (.cells #[.int .i64 W, .int .i64 H, .slice A n c] 24))
  go_enter Try.func5, Try.ntmps5
  go_wp2_with fail
  refine (C.out _).mono ?_
  rintro _ w' ⟨rfl, hE⟩
  go_wp2_with fail
  go_ret
  exact ⟨rfl, HE.out.trans hE⟩
end Go.Proofs.Ytchplmenkdghcaa
