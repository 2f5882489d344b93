/- A region that draws its order and holds calls whose results are not known ahead: each operation is shown once, out of what it depends on. -/
import Derived.Test.YtchplmenkdghcaaPrint
import Derived.Test.YtchplmenkdghcaaSlices
namespace Go.Proofs.Ytchplmenkdghcaa
open Go.RowKit
theorem len_sub' {α : Type} [BEq α] [LawfulBEq α] : ∀ (l l' : List α), l.Nodup → (∀ a ∈ l, a ∈ l') → l.length ≤ l'.length := by
  intro l
  induction l with
  | nil => intro _ _ _; exact Nat.zero_le _
  | cons a l ih =>
    intro l' hd hs
    obtain ⟨hna, hd'⟩ := List.nodup_cons.1 hd
    have ha := hs a (List.mem_cons_self ..)
    have h := ih (l'.erase a) hd' (fun b hb => by
      have hba : b ≠ a := fun e => by subst e; exact hna hb
      exact (List.mem_erase_of_ne hba).2 (hs b (List.mem_cons_of_mem _ hb)))
    rw [List.length_erase_of_mem ha] at h
    have := List.length_pos_of_mem ha
    simp only [List.length_cons]; omega
def dstO (l : List Oper) (i : Nat) : Option Tmp := (l[i]?).bind (·.dst)
section
variable {P : Program} {Q : Exit → Act → World → Prop} {l : List Oper} {last : Oper} {V : Nat → Value → World → Prop} {a0 : Act} {W0 : World}
theorem mem_ready {ops : Array Oper} {listed : Array Bool} {i : Nat} : i ∈ Region.ready .any ops listed ↔ i < ops.size ∧ listed.getD i true = false ∧ ∃ o, ops[i]? = some o ∧ ∀ e ∈ o.after.toList, Region.binds .any e = true → listed.getD e.on false = true := by
  unfold Region.ready
  rw [List.mem_filter, List.mem_range]
  constructor
  · rintro ⟨h1, h2⟩
    rw [Array.getElem?_eq_getElem h1] at h2 ⊢
    simp only [Option.map_some, Option.getD_some, Bool.and_eq_true, Bool.not_eq_true', Array.all_eq_true'] at h2
    refine ⟨h1, h2.1, _, rfl, fun e he hb => ?_⟩
    have := h2.2 e (by simpa using he)
    simpa [hb] using this
  · rintro ⟨h1, h2, o, h3, h4⟩
    refine ⟨h1, ?_⟩
    rw [h3]
    simp only [Option.map_some, Option.getD_some, Bool.and_eq_true, Bool.not_eq_true', Array.all_eq_true']
    refine ⟨h2, fun e he => ?_⟩
    cases hb : Region.binds .any e
    · rfl
    · simp [h4 e (by simpa using he) hb]
theorem getD_set (listed : Array Bool) (i j : Nat) (hi : i < listed.size) : (listed.setIfInBounds i true).getD j false = if i = j then true else listed.getD j false := by
  simp only [Array.getD_eq_getD_getElem?, Array.getElem?_setIfInBounds]
  by_cases h : i = j
  · subst h; simp [hi]
  · simp [h]
theorem put_at (a : Act) (d : Tmp) (v : Value) (t : Nat) (hd : d < a.tmps.size) : (a.put (some d) v).tmps.getD t undef = if d = t then v else a.tmps.getD t undef := by
  simp only [Act.put, Array.getD_eq_getD_getElem?, Array.getElem?_setIfInBounds]
  by_cases h : d = t
  · subst h; simp [hd]
  · simp [h]
theorem all_done {ops : Array Oper} {listed : Array Bool} (h : ∀ i, i < ops.size → listed.getD i true = true) {Q : Exit → Act → World → Prop} {a : Act} {w : World} (hQ : Q .normal a w) : ∀ fuel, wpAny P .any ops Q fuel listed a w := by
  have hr : Region.ready .any ops listed = [] := by
    rw [List.eq_nil_iff_forall_not_mem]
    intro i hi
    obtain ⟨h1, h2, _⟩ := mem_ready.1 hi
    rw [h i h1] at h2; cases h2
  intro fuel
  cases fuel with
  | zero => exact ⟨hr, hQ⟩
  | succ f => exact ⟨fun _ => hQ, fun i hi => by rw [hr] at hi; cases hi⟩
theorem rel_val {i : Nat} {o : Oper} {a : Act} {w : World} {v : Value} (hr : (execOp a.eval o).run P w = .ok (.value v) w) (hv : V i v w) : o.wp P a w (fun a' w' => ∃ v, a' = a.put o.dst v ∧ V i v w' ∧ Ext w w') Q := by
  unfold Oper.wp
  rw [hr]
  exact ⟨v, rfl, hv, Ext.refl _⟩
theorem rel_call {i : Nat} {o : Oper} {a : Act} {w : World} (f : FuncId) (xs : List Operand) (ts : Array TypeId) (ho : o.op = .call { callee := .value (.func f), args := xs.toArray, argTypes := ts }) (hf : callB P f = true) (args : List Value) (hargs : xs.map a.eval = args)
    (h : Calls P f args.toArray w fun e w' => ∃ v, e = .returned v ∧ V i v w' ∧ Ext w w') : o.wp P a w (fun a' w' => ∃ v, a' = a.put o.dst v ∧ V i v w' ∧ Ext w w') Q := by
  unfold Oper.wp
  rw [run_call_op ho hf]
  have e : xs.toArray.map a.eval = args.toArray := by rw [List.map_toArray, hargs]
  rw [e]
  exact h.mono fun en w' ⟨v, he, hv, hw⟩ => by subst he; exact ⟨v, rfl, hv, hw⟩
def relB0 (l : List Oper) (N : Nat) : Bool :=
  l.all (fun o => o.guard.isNone) &&
  l.all (fun o => match o.dst with | some d => decide (d < N) | none => false) &&
  decide (l.map (·.dst)).Nodup &&
  (List.range l.length).all (fun i => match l[i]? with | some o => o.after.toList.all (fun e => !Region.binds .any e || decide (e.on < i)) | none => true)
/-- all values put into their slots -/
def putAll : List Oper → Nat → (Nat → Value) → Act → Act
  | [], _, _, a => a
  | o :: r, i, vs, a => putAll r (i + 1) vs (a.put o.dst (vs i))
structure RInv0 (l : List Oper) (V : Nat → Value → World → Prop) (a0 : Act) (W0 : World) (listed : Array Bool) (a : Act) (w : World) : Prop where
  lsz : listed.size = l.length
  ext : Ext W0 w
  sz : a.tmps.size = a0.tmps.size
  df : a.defers = a0.defers
  frm : ∀ t, (∀ i, dstO l i ≠ some t) → a.tmps.getD t undef = a0.tmps.getD t undef
  val : ∀ i d, i < l.length → listed.getD i false = true → dstO l i = some d → V i (a.tmps.getD d undef) w
def unl0 (n : Nat) (listed : Array Bool) : List Nat := (List.range n).filter fun i => !listed.getD i false
theorem putAll_df : ∀ (l : List Oper) (i : Nat) (vs : Nat → Value) (a : Act), (putAll l i vs a).defers = a.defers ∧ (putAll l i vs a).tmps.size = a.tmps.size := by
  intro l
  induction l with
  | nil => intro _ _ _; exact ⟨rfl, rfl⟩
  | cons o r ih =>
    intro i vs a
    obtain ⟨h1, h2⟩ := ih (i + 1) vs (a.put o.dst (vs i))
    rw [putAll, h1, h2]
    cases o.dst <;> simp [Act.put]
theorem putAll_off : ∀ (l : List Oper) (i : Nat) (vs : Nat → Value) (a : Act) (t : Nat), (∀ o ∈ l, o.dst ≠ some t) → (putAll l i vs a).tmps.getD t undef = a.tmps.getD t undef := by
  intro l
  induction l with
  | nil => intro _ _ _ _ _; rfl
  | cons o r ih =>
    intro i vs a t h
    rw [putAll, ih _ _ _ _ fun o' ho' => h o' (List.mem_cons_of_mem _ ho')]
    have := h o (List.mem_cons_self ..)
    cases hd : o.dst with
    | none => rfl
    | some d =>
      have hne : d ≠ t := fun e => this (by rw [hd, e])
      simp [Act.put, Array.getElem?_setIfInBounds_ne hne]
theorem putAll_at : ∀ (l : List Oper) (i : Nat) (vs : Nat → Value) (a : Act) (j d : Nat), (l.map (·.dst)).Nodup → dstO l j = some d → d < a.tmps.size → (putAll l i vs a).tmps.getD d undef = vs (i + j) := by
  intro l
  induction l with
  | nil => intro _ _ _ j d _ h; simp [dstO] at h
  | cons o r ih =>
    intro i vs a j d hd h hs
    obtain ⟨h1, h2⟩ := List.nodup_cons.1 hd
    rw [putAll]
    cases j with
    | zero =>
      have ho : o.dst = some d := by simpa [dstO] using h
      rw [putAll_off _ _ _ _ _ fun o' ho' e => h1 (by show o.dst ∈ _; rw [ho]; exact List.mem_map.2 ⟨o', ho', e⟩), ho, put_at _ _ _ _ hs, if_pos rfl]
      rfl
    | succ j =>
      have h' : dstO r j = some d := by simpa [dstO] using h
      rw [ih (i + 1) vs _ j d h2 h' (by cases o.dst <;> simpa [Act.put] using hs)]
      congr 1; omega
theorem rel_any0 {l : List Oper} (hS : relB0 l a0.tmps.size = true)
    (hmono : ∀ i v w w', V i v w → Ext w w' → V i v w')
    (hop : ∀ (i : Nat) (o : Oper), l[i]? = some o → ∀ (a : Act) (w : World), a.tmps.size = a0.tmps.size → a.defers = a0.defers → (∀ t, (∀ i, dstO l i ≠ some t) → a.tmps.getD t undef = a0.tmps.getD t undef) → Ext W0 w →
      (∀ e ∈ o.after.toList, Region.binds .any e = true → ∀ d, dstO l e.on = some d → V e.on (a.tmps.getD d undef) w) → o.wp P a w (fun a' w' => ∃ v, a' = a.put o.dst v ∧ V i v w' ∧ Ext w w') Q)
    (hfin : ∀ (vs : Nat → Value) (w : World), Ext W0 w → (∀ i, i < l.length → V i (vs i) w) → Q .normal (putAll l 0 vs a0) w) :
    ∀ (fuel : Nat) (listed : Array Bool) (a : Act) (w : World), RInv0 l V a0 W0 listed a w → (unl0 l.length listed).length ≤ fuel → wpAny P .any l.toArray Q fuel listed a w := by
  unfold relB0 at hS
  simp only [Bool.and_eq_true, List.all_eq_true, decide_eq_true_eq, List.mem_range] at hS
  obtain ⟨⟨⟨hS1, hS2⟩, hS3⟩, hS4⟩ := hS
  have hsize : l.toArray.size = l.length := by simp
  have hafter : ∀ i o, i < l.length → l[i]? = some o → ∀ e ∈ o.after.toList, Region.binds .any e = true → e.on < i := by
    intro i o hi ho e he hb
    have := hS4 i hi
    rw [ho] at this
    simp only [List.all_eq_true] at this
    have := this e he
    simpa [hb] using this
  have hdst : ∀ i, i < l.length → ∃ d, dstO l i = some d ∧ d < a0.tmps.size := by
    intro i hi
    have := hS2 l[i] (List.getElem_mem hi)
    cases hh : l[i].dst with
    | none => rw [hh] at this; cases this
    | some d => rw [hh] at this; exact ⟨d, by simp [dstO, List.getElem?_eq_getElem hi, hh], by simpa using this⟩
  have hdone : ∀ (listed : Array Bool) (a : Act) (w : World), RInv0 l V a0 W0 listed a w → (∀ i, i < l.length → listed.getD i false = true) → Q .normal a w := by
    intro listed a w hI hall
    have e : a = putAll l 0 (fun i => a.tmps.getD ((dstO l i).getD 0) undef) a0 := by
      obtain ⟨tm, df⟩ := a
      have h1 := putAll_df l 0 (fun i => tm.getD ((dstO l i).getD 0) undef) a0
      have h2 : df = (putAll l 0 (fun i => tm.getD ((dstO l i).getD 0) undef) a0).defers := by rw [h1.1]; exact hI.df
      have h3 : tm = (putAll l 0 (fun i => tm.getD ((dstO l i).getD 0) undef) a0).tmps := by
        apply Array.ext
        · rw [h1.2]; exact hI.sz
        · intro t ht1 ht2
          have key : tm.getD t undef = (putAll l 0 (fun i => tm.getD ((dstO l i).getD 0) undef) a0).tmps.getD t undef := by
            by_cases hex : ∃ i, dstO l i = some t
            · obtain ⟨i, hi⟩ := hex
              have hts : t < a0.tmps.size := by have := hI.sz; simp only at this; omega
              rw [putAll_at l 0 _ a0 i t hS3 hi hts]
              simp [hi]
            · have hne : ∀ i, dstO l i ≠ some t := fun i hi => hex ⟨i, hi⟩
              rw [putAll_off _ _ _ _ _ fun o ho he => by
                obtain ⟨i, hi, hio⟩ := List.getElem_of_mem ho
                exact hne i (by simp [dstO, List.getElem?_eq_getElem hi, hio, he])]
              exact hI.frm t hne
          rw [Array.getD_eq_getD_getElem?, Array.getD_eq_getD_getElem?, Array.getElem?_eq_getElem ht1, Array.getElem?_eq_getElem ht2] at key
          exact key
      generalize putAll l 0 (fun i => tm.getD ((dstO l i).getD 0) undef) a0 = b at *
      cases b
      simp only at h2 h3
      rw [← h2, ← h3]
    rw [e]
    refine hfin _ w hI.ext fun i hi => ?_
    obtain ⟨d, hd, _⟩ := hdst i hi
    have := hI.val i d hi (hall i hi) hd
    simpa [hd] using this
  intro fuel
  induction fuel with
  | zero =>
    intro listed a w hI hU
    have hall : ∀ i, i < l.length → listed.getD i false = true := by
      intro i hi
      cases hg : listed.getD i false with
      | true => rfl
      | false =>
        exfalso
        have hm : i ∈ unl0 l.length listed := by
          unfold unl0
          rw [List.mem_filter]
          exact ⟨List.mem_range.2 hi, by rw [hg]; rfl⟩
        have := List.length_pos_of_mem hm
        omega
    refine all_done (fun i hi => ?_) (hdone _ _ _ hI hall) 0
    rw [hsize] at hi
    have := hall i hi
    have his : i < listed.size := by rw [hI.lsz]; exact hi
    simp only [Array.getD_eq_getD_getElem?, Array.getElem?_eq_getElem his, Option.getD_some] at this ⊢
    exact this
  | succ fuel ih =>
    intro listed a w hI hU
    refine ⟨fun hr => ?_, fun i hi => ?_⟩
    · refine hdone _ _ _ hI ?_
      have hex : ∀ k, k < l.length → (∀ j, j < k → listed.getD j false = true) → (listed.getD k false = true ∨ k ∈ Region.ready .any l.toArray listed) := by
        intro k hk hj
        cases hg : listed.getD k false with
        | true => exact .inl rfl
        | false =>
          right
          refine mem_ready.2 ⟨by rw [hsize]; exact hk, ?_, l[k], by simp [List.getElem?_eq_getElem hk], fun e he hb => ?_⟩
          · have hks : k < listed.size := by rw [hI.lsz]; omega
            simp only [Array.getD_eq_getD_getElem?, Array.getElem?_eq_getElem hks, Option.getD_some] at hg ⊢
            exact hg
          · exact hj _ (hafter k _ hk (List.getElem?_eq_getElem hk) e he hb)
      have hall : ∀ k, k ≤ l.length → ∀ j, j < k → listed.getD j false = true := by
        intro k
        induction k with
        | zero => intro _ j hj; omega
        | succ k ihk =>
          intro hk j hj
          rcases Nat.lt_or_ge j k with h | h
          · exact ihk (by omega) j h
          · obtain rfl : j = k := by omega
            rcases hex j (by omega) (ihk (by omega)) with h1 | h1
            · exact h1
            · rw [hr] at h1; cases h1
      exact hall _ (Nat.le_refl _)
    · obtain ⟨hi1, hi2, o, ho, hdep⟩ := mem_ready.1 hi
      rw [hsize] at hi1
      have hol : l[i]? = some o := by simpa using ho
      have his : i < listed.size := by rw [hI.lsz]; exact hi1
      have hi3 : listed.getD i false = false := by
        simp only [Array.getD_eq_getD_getElem?, Array.getElem?_eq_getElem his, Option.getD_some] at hi2 ⊢
        exact hi2
      have hgo : o.guard = none := by
        have := hS1 o (List.mem_of_getElem? hol)
        cases hh : o.guard with
        | none => rfl
        | some g => rw [hh] at this; cases this
      have hwant : Region.wanted o (yielded l.toArray a.tmps) = true := by simp [Region.wanted, hgo]
      unfold wpOp
      rw [ho]
      simp only [hwant, if_true]
      left
      obtain ⟨d, hdi, hdl⟩ := hdst i hi1
      have hd : o.dst = some d := by simpa [dstO, hol] using hdi
      have hodist : ∀ j d', j ≠ i → dstO l j = some d' → d ≠ d' := by
        intro j d' hj hjd e
        subst e
        have h1 : (l.map (·.dst))[i]? = some (some d) := by rw [List.getElem?_map, hol]; simp [hd]
        have h2 : (l.map (·.dst))[j]? = some (some d) := by
          unfold dstO at hjd
          cases hq : l[j]? with
          | none => rw [hq] at hjd; cases hjd
          | some oj => rw [hq] at hjd; rw [List.getElem?_map, hq]; simp at hjd; simp [hjd]
        have hil : i < (l.map (·.dst)).length := by simpa using hi1
        exact hj ((List.getElem?_inj hil hS3).1 (h1.trans h2.symm)).symm
      refine Oper.wp_mono ?_ (hop i o hol a w hI.sz hI.df hI.frm hI.ext (fun e he hb d' hd' => ?_))
      · rintro a' w' ⟨v, rfl, hv, hw⟩
        rw [hd]
        have hda : d < a.tmps.size := by rw [hI.sz]; exact hdl
        refine ih _ _ _ ⟨?_, Ext.trans hI.ext hw, ?_, hI.df, ?_, ?_⟩ ?_
        · simpa using hI.lsz
        · simpa [Act.put] using hI.sz
        · intro t ht
          rw [put_at _ _ _ _ hda, if_neg (fun (e : d = t) => ht i (by rw [← e]; exact hdi))]
          exact hI.frm t ht
        · intro j d' hj hl hjd
          rw [getD_set _ _ _ his] at hl
          by_cases hji : i = j
          · subst hji
            rw [hdi] at hjd
            injection hjd with hjd
            subst hjd
            rw [put_at _ _ _ _ hda, if_pos rfl]
            exact hv
          · rw [if_neg hji] at hl
            rw [put_at _ _ _ _ hda, if_neg (hodist j d' (fun e => hji e.symm) hjd)]
            exact hmono _ _ _ _ (hI.val j d' hj hl hjd) hw
        · have h1 : i ∈ unl0 l.length listed := by
            unfold unl0
            rw [List.mem_filter]
            exact ⟨List.mem_range.2 hi1, by rw [hi3]; rfl⟩
          have h2 : i ∉ unl0 l.length (listed.setIfInBounds i true) := by
            unfold unl0
            rw [List.mem_filter, getD_set _ _ _ his, if_pos rfl]
            simp
          have h3 := len_sub' (i :: unl0 l.length (listed.setIfInBounds i true)) (unl0 l.length listed) (List.nodup_cons.2 ⟨h2, List.Nodup.sublist List.filter_sublist List.nodup_range⟩) (fun b hb => by
            rcases List.mem_cons.1 hb with rfl | hb
            · exact h1
            · unfold unl0 at hb ⊢
              rw [List.mem_filter, getD_set _ _ _ his] at hb
              rw [List.mem_filter]
              refine ⟨hb.1, ?_⟩
              have := hb.2
              split at this
              · cases this
              · exact this)
          simp only [List.length_cons] at h3
          omega
      · have hlt : e.on < l.length := by have := hafter i o hi1 hol e he hb; omega
        exact hI.val e.on d' hlt (hdep e he hb) hd'
theorem wp_region_rel0 {id : Nat} {a0 : Act} {w0 : World} {ops : Array Oper} (V : Nat → Value → World → Prop) (hm : P.follows .mixedOrders = true) (hS : relB0 ops.toList a0.tmps.size = true)
    (hmono : ∀ i v w w', V i v w → Ext w w' → V i v w')
    (hop : ∀ (i : Nat) (o : Oper), ops.toList[i]? = some o → ∀ (a : Act) (w : World), a.tmps.size = a0.tmps.size → a.defers = a0.defers → (∀ t, (∀ i, dstO ops.toList i ≠ some t) → a.tmps.getD t undef = a0.tmps.getD t undef) → Ext w0.drew w →
      (∀ e ∈ o.after.toList, Region.binds .any e = true → ∀ d, dstO ops.toList e.on = some d → V e.on (a.tmps.getD d undef) w) → o.wp P a w (fun a' w' => ∃ v, a' = a.put o.dst v ∧ V i v w' ∧ Ext w w') Q)
    (hfin : ∀ (vs : Nat → Value) (w : World), Ext w0.drew w → (∀ i, i < ops.toList.length → V i (vs i) w) → Q .normal (putAll ops.toList 0 vs a0) w) : (Code.region id ops true).wp P Q a0 w0 := by
  have h := rel_any0 (P := P) (Q := Q) (W0 := w0.drew) hS hmono hop hfin ops.size (Array.replicate ops.size false) a0 w0.drew ⟨by simp, Ext.refl _, rfl, rfl, fun _ _ => rfl, fun i d hi h => by
    exfalso
    revert h
    simp only [Array.getD_eq_getD_getElem?, Array.getElem?_replicate]
    split <;> simp⟩ (by
      have := List.length_filter_le (fun i => !(Array.replicate ops.size false).getD i false) (List.range ops.toList.length)
      unfold unl0
      simpa using this)
  exact wp_region_any hm (by simpa using h)
end
theorem frm_of {l : List Oper} (t : Nat) (h : (l.all fun o => o.dst != some t) = true) : ∀ i, dstO l i ≠ some t := by
  intro i hi
  unfold dstO at hi
  cases hq : l[i]? with
  | none => rw [hq] at hi; cases hi
  | some o =>
    rw [hq] at hi
    have := List.all_eq_true.1 h o (List.mem_of_getElem? hq)
    have hi' : o.dst = some t := hi
    simp [hi'] at this
/-- predicates, one for each operation -/
def Vof (ps : List (Value → World → Prop)) (i : Nat) (v : Value) (w : World) : Prop := match ps[i]? with | some p => p v w | none => True
def Mono (p : Value → World → Prop) : Prop := ∀ v w w', p v w → Ext w w' → p v w'
theorem Vof_mono {ps : List (Value → World → Prop)} (h : ∀ p ∈ ps, Mono p) : ∀ i v w w', Vof ps i v w → Ext w w' → Vof ps i v w' := by
  intro i v w w' hv hw
  unfold Vof at hv ⊢
  cases hp : ps[i]? with
  | none => trivial
  | some p => rw [hp] at hv; exact h p (List.mem_of_getElem? hp) v w w' hv hw
def isV (u : Value) : Value → World → Prop := fun v _ => v = u
def isL (t : TypeId) (n : Nat) (xs : List Value) : Value → World → Prop := fun v w => ∃ g, v = .slice (some ⟨g, 0, none⟩) n n ∧ Blk w g t xs.toArray
theorem isV_mono (u : Value) : Mono (isV u) := fun _ _ _ h _ => h
theorem isL_mono (t : TypeId) (n : Nat) (xs : List Value) : Mono (isL t n xs) := fun _ _ _ ⟨g, h1, h2⟩ hw => ⟨g, h1, h2.grow hw⟩
theorem slot_of {a : Act} {t : Nat} {v : Value} (h : a.tmps.getD t undef = v) : a.tmps[t]?.getD undef = v := by simpa using h
theorem ret_val {P : Program} {f : FuncId} {args : Array Value} {w : World} {u : Value} (h : Calls P f args w fun e w' => e = .returned u ∧ Ext w w') : Calls P f args w fun e w' => ∃ v, e = .returned v ∧ isV u v w' ∧ Ext w w' :=
  h.mono fun _ _ ⟨he, hw⟩ => ⟨u, he, rfl, hw⟩
end Go.Proofs.Ytchplmenkdghcaa
namespace Go.Proofs.Ytchplmenkdghcaa
open Go.RowKit
def relB1 (l : List Oper) (N : Nat) : Bool :=
  l.all (fun o => o.guard.isNone) &&
  l.all (fun o => match o.dst with | some d => decide (d < N) | none => true) &&
  (List.range l.length).all (fun i => (List.range l.length).all fun j => decide (i = j) || decide (dstO l i = none) || decide (dstO l i ≠ dstO l j)) &&
  (List.range l.length).all (fun i => match l[i]? with | some o => o.after.toList.all (fun e => !Region.binds .any e || decide (e.on < i)) | none => true)
/-- what an operation has left in its slot -/
def slotV (l : List Oper) (a : Act) (i : Nat) : Value := match dstO l i with | some d => a.tmps.getD d undef | none => undef
section
variable {P : Program} {Q : Exit → Act → World → Prop} {V : Nat → Value → World → Prop} {a0 : Act} {W0 : World} {R : World → World → Prop}
theorem putAll_at1 : ∀ (l : List Oper) (i : Nat) (vs : Nat → Value) (a : Act) (j d : Nat), (∀ j', j' ≠ j → dstO l j' ≠ some d) → dstO l j = some d → d < a.tmps.size → (putAll l i vs a).tmps.getD d undef = vs (i + j) := by
  intro l
  induction l with
  | nil => intro _ _ _ j d _ h; simp [dstO] at h
  | cons o r ih =>
    intro i vs a j d hd h hs
    rw [putAll]
    cases j with
    | zero =>
      have ho : o.dst = some d := by simpa [dstO] using h
      rw [putAll_off _ _ _ _ _ fun o' ho' e => by
        obtain ⟨k, hk, hko⟩ := List.getElem_of_mem ho'
        exact hd (k + 1) (by omega) (by simp [dstO, List.getElem?_eq_getElem hk, hko, e]), ho, put_at _ _ _ _ hs, if_pos rfl]
      rfl
    | succ j =>
      have h' : dstO r j = some d := by simpa [dstO] using h
      rw [ih (i + 1) vs _ j d (fun j' hj' e => hd (j' + 1) (by omega) (by simpa [dstO] using e)) h' (by cases o.dst <;> simpa [Act.put] using hs)]
      congr 1; omega
end
end Go.Proofs.Ytchplmenkdghcaa
namespace Go.Proofs.Ytchplmenkdghcaa
open Go.RowKit
/-- the operation j waits for i -/
def depB (l : List Oper) (j i : Nat) : Bool := match l[j]? with | some o => o.after.toList.any fun e => Region.binds .any e && e.on == i | none => false
/-- what an operation i that turns old memory owes -/
def Spec3 (l : List Oper) (V : Nat → Value → World → Prop) (N : Nat → World → Prop) (T : World → World → Prop) (i : Nat) (w w' : World) : Prop :=
  T w w' ∧ (∀ j, j ≠ i → N j w → N j w') ∧ (∀ j v, j ≠ i → depB l j i = false → V j v w → V j v w')
section
variable {P : Program} {Q : Exit → Act → World → Prop} {V : Nat → Value → World → Prop} {a0 : Act} {W0 : World} {T : World → World → Prop} {N : Nat → World → Prop}
structure RInv3 (l : List Oper) (V : Nat → Value → World → Prop) (N : Nat → World → Prop) (a0 : Act) (W0 : World) (T : World → World → Prop) (listed : Array Bool) (a : Act) (w : World) : Prop where
  lsz : listed.size = l.length
  ext : T W0 w
  sz : a.tmps.size = a0.tmps.size
  df : a.defers = a0.defers
  frm : ∀ t, (∀ i, dstO l i ≠ some t) → a.tmps.getD t undef = a0.tmps.getD t undef
  val : ∀ i, i < l.length → listed.getD i false = true → V i (slotV l a i) w
  cl : ∀ j, listed.getD j false = true → ∀ o, l[j]? = some o → ∀ e ∈ o.after.toList, Region.binds .any e = true → listed.getD e.on false = true
  nn : ∀ j, j < l.length → listed.getD j false = false → N j w
theorem rel_any3 {l : List Oper} (hS : relB1 l a0.tmps.size = true)
    (hTe : ∀ a b, Ext a b → T a b) (hRt : ∀ a b c, T a b → T b c → T a c) (hVE : ∀ i v w w', V i v w → Ext w w' → V i v w') (hNE : ∀ i w w', N i w → Ext w w' → N i w')
    (hop : ∀ (i : Nat) (o : Oper), l[i]? = some o → ∀ (a : Act) (w : World), a.tmps.size = a0.tmps.size → a.defers = a0.defers → (∀ t, (∀ i, dstO l i ≠ some t) → a.tmps.getD t undef = a0.tmps.getD t undef) → T W0 w → N i w → (∀ j, depB l j i = true → N j w) →
      (∀ e ∈ o.after.toList, Region.binds .any e = true → V e.on (slotV l a e.on) w) → o.wp P a w (fun a' w' => ∃ v, a' = a.put o.dst v ∧ V i (match o.dst with | some _ => v | none => undef) w' ∧ (Ext w w' ∨ Spec3 l V N T i w w')) Q)
    (hfin : ∀ (vs : Nat → Value) (w : World), T W0 w → (∀ i, i < l.length → V i (vs i) w) → Q .normal (putAll l 0 vs a0) w) :
    ∀ (fuel : Nat) (listed : Array Bool) (a : Act) (w : World), RInv3 l V N a0 W0 T listed a w → (unl0 l.length listed).length ≤ fuel → wpAny P .any l.toArray Q fuel listed a w := by
  unfold relB1 at hS
  simp only [Bool.and_eq_true, List.all_eq_true, List.mem_range] at hS
  obtain ⟨⟨⟨hS1, hS2⟩, hS3⟩, hS4⟩ := hS
  have hsize : l.toArray.size = l.length := by simp
  have hafter : ∀ i o, i < l.length → l[i]? = some o → ∀ e ∈ o.after.toList, Region.binds .any e = true → e.on < i := by
    intro i o hi ho e he hb
    have := hS4 i hi
    rw [ho] at this
    simp only [List.all_eq_true] at this
    have := this e he
    simpa [hb] using this
  have hdst : ∀ i d, dstO l i = some d → d < a0.tmps.size := by
    intro i d h
    unfold dstO at h
    cases hq : l[i]? with
    | none => rw [hq] at h; cases h
    | some o =>
      rw [hq] at h
      have h' : o.dst = some d := h
      have := hS2 o (List.mem_of_getElem? hq)
      rw [h'] at this
      simpa using this
  have hlen : ∀ i d, dstO l i = some d → i < l.length := by
    intro i d h
    rcases Nat.lt_or_ge i l.length with h1 | h1
    · exact h1
    · unfold dstO at h; rw [List.getElem?_eq_none h1] at h; cases h
  have hdis : ∀ i d, dstO l i = some d → ∀ j, j ≠ i → dstO l j ≠ some d := by
    intro i d hi j hj hjd
    have := hS3 i (hlen i d hi) j (hlen j d hjd)
    simp [hi, hjd] at this
    exact hj this.symm
  have hdone : ∀ (listed : Array Bool) (a : Act) (w : World), RInv3 l V N a0 W0 T listed a w → (∀ i, i < l.length → listed.getD i false = true) → Q .normal a w := by
    intro listed a w hI hall
    have e : a = putAll l 0 (slotV l a) a0 := by
      obtain ⟨tm, df⟩ := a
      have h1 := putAll_df l 0 (slotV l ⟨tm, df⟩) a0
      have h2 : df = (putAll l 0 (slotV l ⟨tm, df⟩) a0).defers := by rw [h1.1]; exact hI.df
      have h3 : tm = (putAll l 0 (slotV l ⟨tm, df⟩) a0).tmps := by
        apply Array.ext
        · rw [h1.2]; exact hI.sz
        · intro t ht1 ht2
          have key : tm.getD t undef = (putAll l 0 (slotV l ⟨tm, df⟩) a0).tmps.getD t undef := by
            by_cases hex : ∃ i, dstO l i = some t
            · obtain ⟨i, hi⟩ := hex
              rw [putAll_at1 l 0 _ a0 i t (hdis i t hi) hi (hdst i t hi)]
              simp [slotV, hi]
            · have hne : ∀ i, dstO l i ≠ some t := fun i hi => hex ⟨i, hi⟩
              rw [putAll_off _ _ _ _ _ fun o ho he => by
                obtain ⟨i, hi, hio⟩ := List.getElem_of_mem ho
                exact hne i (by simp [dstO, List.getElem?_eq_getElem hi, hio, he])]
              exact hI.frm t hne
          rw [Array.getD_eq_getD_getElem?, Array.getD_eq_getD_getElem?, Array.getElem?_eq_getElem ht1, Array.getElem?_eq_getElem ht2] at key
          exact key
      generalize putAll l 0 (slotV l ⟨tm, df⟩) a0 = b at *
      cases b
      simp only at h2 h3
      rw [← h2, ← h3]
    rw [e]
    exact hfin _ w hI.ext fun i hi => hI.val i hi (hall i hi)
  intro fuel
  induction fuel with
  | zero =>
    intro listed a w hI hU
    have hall : ∀ i, i < l.length → listed.getD i false = true := by
      intro i hi
      cases hg : listed.getD i false with
      | true => rfl
      | false =>
        exfalso
        have hm : i ∈ unl0 l.length listed := by
          unfold unl0
          rw [List.mem_filter]
          exact ⟨List.mem_range.2 hi, by rw [hg]; rfl⟩
        have := List.length_pos_of_mem hm
        omega
    refine all_done (fun i hi => ?_) (hdone _ _ _ hI hall) 0
    rw [hsize] at hi
    have := hall i hi
    have his : i < listed.size := by rw [hI.lsz]; exact hi
    simp only [Array.getD_eq_getD_getElem?, Array.getElem?_eq_getElem his, Option.getD_some] at this ⊢
    exact this
  | succ fuel ih =>
    intro listed a w hI hU
    refine ⟨fun hr => ?_, fun i hi => ?_⟩
    · refine hdone _ _ _ hI ?_
      have hex : ∀ k, k < l.length → (∀ j, j < k → listed.getD j false = true) → (listed.getD k false = true ∨ k ∈ Region.ready .any l.toArray listed) := by
        intro k hk hj
        cases hg : listed.getD k false with
        | true => exact .inl rfl
        | false =>
          right
          refine mem_ready.2 ⟨by rw [hsize]; exact hk, ?_, l[k], by simp [List.getElem?_eq_getElem hk], fun e he hb => ?_⟩
          · have hks : k < listed.size := by rw [hI.lsz]; omega
            simp only [Array.getD_eq_getD_getElem?, Array.getElem?_eq_getElem hks, Option.getD_some] at hg ⊢
            exact hg
          · exact hj _ (hafter k _ hk (List.getElem?_eq_getElem hk) e he hb)
      have hall : ∀ k, k ≤ l.length → ∀ j, j < k → listed.getD j false = true := by
        intro k
        induction k with
        | zero => intro _ j hj; omega
        | succ k ihk =>
          intro hk j hj
          rcases Nat.lt_or_ge j k with h | h
          · exact ihk (by omega) j h
          · obtain rfl : j = k := by omega
            rcases hex j (by omega) (ihk (by omega)) with h1 | h1
            · exact h1
            · rw [hr] at h1; cases h1
      exact hall _ (Nat.le_refl _)
    · obtain ⟨hi1, hi2, o, ho, hdep⟩ := mem_ready.1 hi
      rw [hsize] at hi1
      have hol : l[i]? = some o := by simpa using ho
      have his : i < listed.size := by rw [hI.lsz]; exact hi1
      have hi3 : listed.getD i false = false := by
        simp only [Array.getD_eq_getD_getElem?, Array.getElem?_eq_getElem his, Option.getD_some] at hi2 ⊢
        exact hi2
      have hgo : o.guard = none := by
        have := hS1 o (List.mem_of_getElem? hol)
        cases hh : o.guard with
        | none => rfl
        | some g => rw [hh] at this; cases this
      have hwant : Region.wanted o (yielded l.toArray a.tmps) = true := by simp [Region.wanted, hgo]
      unfold wpOp
      rw [ho]
      simp only [hwant, if_true]
      left
      have hun : ∀ j, depB l j i = true → j < l.length ∧ listed.getD j false = false := by
        intro j hj
        unfold depB at hj
        cases hq : l[j]? with
        | none => rw [hq] at hj; cases hj
        | some oj =>
          rw [hq] at hj
          obtain ⟨e, he, hb⟩ := List.any_eq_true.1 hj
          simp only [Bool.and_eq_true, beq_iff_eq] at hb
          refine ⟨(List.getElem?_eq_some_iff.1 hq).1, ?_⟩
          cases hg : listed.getD j false with
          | false => rfl
          | true =>
            have := hI.cl j hg oj hq e he hb.1
            rw [hb.2, hi3] at this
            cases this
      refine Oper.wp_mono ?_ (hop i o hol a w hI.sz hI.df hI.frm hI.ext (hI.nn i hi1 hi3) (fun j hj => hI.nn j (hun j hj).1 (hun j hj).2) (fun e he hb => ?_))
      · rintro a' w' ⟨v, rfl, hv, hw0⟩
        have hw : T w w' ∧ (∀ j, j ≠ i → N j w → N j w') ∧ (∀ j v, j ≠ i → depB l j i = false → V j v w → V j v w') := by
          rcases hw0 with hw0 | hw0
          · exact ⟨hTe _ _ hw0, fun j _ h => hNE _ _ _ h hw0, fun j v _ _ h => hVE _ _ _ _ h hw0⟩
          · exact hw0
        have hoff : ∀ j, j ≠ i → slotV l (a.put o.dst v) j = slotV l a j := by
          intro j hj
          unfold slotV
          cases hjd : dstO l j with
          | none => rfl
          | some d' =>
            cases hd : o.dst with
            | none => rfl
            | some d =>
              have hdi : dstO l i = some d := by simp [dstO, hol, hd]
              have hne : d ≠ d' := fun e => hdis i d hdi j hj (by rw [hjd, e])
              show (a.put (some d) v).tmps.getD d' undef = _
              rw [put_at _ _ _ _ (by rw [hI.sz]; exact hdst i d hdi), if_neg hne]
        have hon : slotV l (a.put o.dst v) i = (match o.dst with | some _ => v | none => undef) := by
          unfold slotV
          cases hd : o.dst with
          | none =>
            have hdi : dstO l i = none := by simp [dstO, hol, hd]
            rw [hdi]
          | some d =>
            have hdi : dstO l i = some d := by simp [dstO, hol, hd]
            rw [hdi]
            show (a.put (some d) v).tmps.getD d undef = _
            rw [put_at _ _ _ _ (by rw [hI.sz]; exact hdst i d hdi), if_pos rfl]
        refine ih _ _ _ ⟨?_, hRt _ _ _ hI.ext hw.1, ?_, ?_, ?_, ?_, ?_, ?_⟩ ?_
        · simpa using hI.lsz
        · cases o.dst <;> simpa [Act.put] using hI.sz
        · cases o.dst <;> exact hI.df
        · intro t ht
          cases hd : o.dst with
          | none => exact hI.frm t ht
          | some d =>
            have hdi : dstO l i = some d := by simp [dstO, hol, hd]
            show (a.put (some d) v).tmps.getD t undef = _
            rw [put_at _ _ _ _ (by rw [hI.sz]; exact hdst i d hdi), if_neg (fun (e : d = t) => ht i (by rw [← e]; exact hdi))]
            exact hI.frm t ht
        · intro j hj hl
          rw [getD_set _ _ _ his] at hl
          by_cases hji : i = j
          · subst hji
            rw [hon]; exact hv
          · rw [if_neg hji] at hl
            rw [hoff j (fun e => hji e.symm)]
            refine hw.2.2 _ _ (fun e => hji e.symm) ?_ (hI.val j hj hl)
            cases hd : depB l j i with
            | false => rfl
            | true => rw [(hun j hd).2] at hl; cases hl
        · intro j hj oj hoj e he hb
          rw [getD_set _ _ _ his] at hj ⊢
          by_cases hji : i = j
          · subst hji
            rw [hol] at hoj
            injection hoj with hoj
            subst hoj
            split
            · rfl
            · exact hdep e he hb
          · rw [if_neg hji] at hj
            split
            · rfl
            · exact hI.cl j hj oj hoj e he hb
        · intro j hj hl
          rw [getD_set _ _ _ his] at hl
          by_cases hji : i = j
          · rw [if_pos hji] at hl; cases hl
          · rw [if_neg hji] at hl
            exact hw.2.1 j (fun e => hji e.symm) (hI.nn j hj hl)
        · have h1 : i ∈ unl0 l.length listed := by
            unfold unl0
            rw [List.mem_filter]
            exact ⟨List.mem_range.2 hi1, by rw [hi3]; rfl⟩
          have h2 : i ∉ unl0 l.length (listed.setIfInBounds i true) := by
            unfold unl0
            rw [List.mem_filter, getD_set _ _ _ his, if_pos rfl]
            simp
          have h3 := len_sub' (i :: unl0 l.length (listed.setIfInBounds i true)) (unl0 l.length listed) (List.nodup_cons.2 ⟨h2, List.Nodup.sublist List.filter_sublist List.nodup_range⟩) (fun b hb => by
            rcases List.mem_cons.1 hb with rfl | hb
            · exact h1
            · unfold unl0 at hb ⊢
              rw [List.mem_filter, getD_set _ _ _ his] at hb
              rw [List.mem_filter]
              refine ⟨hb.1, ?_⟩
              have := hb.2
              split at this
              · cases this
              · exact this)
          simp only [List.length_cons] at h3
          omega
      · have hlt : e.on < l.length := by have := hafter i o hi1 hol e he hb; omega
        exact hI.val e.on hlt (hdep e he hb)
theorem wp_region_rel3 {id : Nat} {a0 : Act} {w0 : World} {ops : Array Oper} (V : Nat → Value → World → Prop) (N : Nat → World → Prop) (T : World → World → Prop) (hm : P.follows .mixedOrders = true) (hS : relB1 ops.toList a0.tmps.size = true)
    (hTe : ∀ a b, Ext a b → T a b) (hRt : ∀ a b c, T a b → T b c → T a c) (hVE : ∀ i v w w', V i v w → Ext w w' → V i v w') (hNE : ∀ i w w', N i w → Ext w w' → N i w') (hN0 : ∀ i, N i w0.drew)
    (hop : ∀ (i : Nat) (o : Oper), ops.toList[i]? = some o → ∀ (a : Act) (w : World), a.tmps.size = a0.tmps.size → a.defers = a0.defers → (∀ t, (∀ i, dstO ops.toList i ≠ some t) → a.tmps.getD t undef = a0.tmps.getD t undef) → T w0.drew w → N i w → (∀ j, depB ops.toList j i = true → N j w) →
      (∀ e ∈ o.after.toList, Region.binds .any e = true → V e.on (slotV ops.toList a e.on) w) → o.wp P a w (fun a' w' => ∃ v, a' = a.put o.dst v ∧ V i (match o.dst with | some _ => v | none => undef) w' ∧ (Ext w w' ∨ Spec3 ops.toList V N T i w w')) Q)
    (hfin : ∀ (vs : Nat → Value) (w : World), T w0.drew w → (∀ i, i < ops.toList.length → V i (vs i) w) → Q .normal (putAll ops.toList 0 vs a0) w) : (Code.region id ops true).wp P Q a0 w0 := by
  have hfl : ∀ i, (Array.replicate ops.size false).getD i false = false := fun i => by
    simp only [Array.getD_eq_getD_getElem?, Array.getElem?_replicate]
    split <;> simp
  have h := rel_any3 (P := P) (Q := Q) (W0 := w0.drew) (N := N) (T := T) hS hTe hRt hVE hNE hop hfin ops.size (Array.replicate ops.size false) a0 w0.drew ⟨by simp, hTe _ _ (Ext.refl _), rfl, rfl, fun _ _ => rfl, fun i hi h => (by rw [hfl] at h; cases h), fun j h => (by rw [hfl] at h; cases h), fun j _ _ => hN0 j⟩ (by
      have := List.length_filter_le (fun i => !(Array.replicate ops.size false).getD i false) (List.range ops.toList.length)
      unfold unl0
      simpa using this)
  exact wp_region_any hm (by simpa using h)
end
end Go.Proofs.Ytchplmenkdghcaa

