/- A region that draws its order: each operation is shown once; worlds are ordered by any relation R. -/
import Derived.Test.YthejomcibobieaaRel
namespace Go.Proofs.Ythejomcibobieaa
open Go.RowKit

def relB1 (l : List Oper) (N : Nat) : Bool :=
  l.all (fun o => o.guard.isNone) &&
  l.all (fun o => match o.dst with | some d => decide (d < N) | none => true) &&
  (List.range l.length).all (fun i => (List.range l.length).all fun j => decide (i = j) || decide (dstO l i = none) || decide (dstO l i ≠ dstO l j)) &&
  (List.range l.length).all (fun i => match l[i]? with | some o => o.after.toList.all (fun e => !Region.binds .any e || decide (e.on < i)) | none => true)
/-- what an operation has left in its slot -/
def slotV (l : List Oper) (a : Act) (i : Nat) : Value := match dstO l i with | some d => a.tmps.getD d undef | none => undef
section
variable {P : Program} {Q : Exit → Act → World → Prop} {V : Nat → Value → World → Prop} {a0 : Act} {W0 : World} {R : World → World → Prop}
structure RInv1 (l : List Oper) (V : Nat → Value → World → Prop) (a0 : Act) (W0 : World) (R : World → World → Prop) (listed : Array Bool) (a : Act) (w : World) : Prop where
  lsz : listed.size = l.length
  ext : R W0 w
  sz : a.tmps.size = a0.tmps.size
  df : a.defers = a0.defers
  frm : ∀ t, (∀ i, dstO l i ≠ some t) → a.tmps.getD t undef = a0.tmps.getD t undef
  val : ∀ i, i < l.length → listed.getD i false = true → V i (slotV l a i) w
theorem putAll_at1 : ∀ (l : List Oper) (i : Nat) (vs : Nat → Value) (a : Act) (j d : Nat), (∀ j', j' ≠ j → dstO l j' ≠ some d) → dstO l j = some d → d < a.tmps.size → (putAll l i vs a).tmps.getD d undef = vs (i + j) := by
  intro l
  induction l with
  | nil => intro _ _ _ j d _ h; simp [dstO] at h
  | cons o r ih =>
    intro i vs a j d hd h hs
    rw [putAll]
    cases j with
    | zero =>
      have ho : o.dst = some d := by simpa [dstO] using h
      rw [putAll_off _ _ _ _ _ fun o' ho' e => by
        obtain ⟨k, hk, hko⟩ := List.getElem_of_mem ho'
        exact hd (k + 1) (by omega) (by simp [dstO, List.getElem?_eq_getElem hk, hko, e]), ho, put_at _ _ _ _ hs, if_pos rfl]
      rfl
    | succ j =>
      have h' : dstO r j = some d := by simpa [dstO] using h
      rw [ih (i + 1) vs _ j d (fun j' hj' e => hd (j' + 1) (by omega) (by simpa [dstO] using e)) h' (by cases o.dst <;> simpa [Act.put] using hs)]
      congr 1; omega
theorem rel_any1 {l : List Oper} (hS : relB1 l a0.tmps.size = true)
    (_hR : ∀ w, R w w) (hRt : ∀ a b c, R a b → R b c → R a c) (hmono : ∀ i v w w', V i v w → R w w' → V i v w')
    (hop : ∀ (i : Nat) (o : Oper), l[i]? = some o → ∀ (a : Act) (w : World), a.tmps.size = a0.tmps.size → a.defers = a0.defers → (∀ t, (∀ i, dstO l i ≠ some t) → a.tmps.getD t undef = a0.tmps.getD t undef) → R W0 w →
      (∀ e ∈ o.after.toList, Region.binds .any e = true → V e.on (slotV l a e.on) w) → o.wp P a w (fun a' w' => ∃ v, a' = a.put o.dst v ∧ V i (match o.dst with | some _ => v | none => undef) w' ∧ R w w') Q)
    (hfin : ∀ (vs : Nat → Value) (w : World), R W0 w → (∀ i, i < l.length → V i (vs i) w) → Q .normal (putAll l 0 vs a0) w) :
    ∀ (fuel : Nat) (listed : Array Bool) (a : Act) (w : World), RInv1 l V a0 W0 R listed a w → (unl0 l.length listed).length ≤ fuel → wpAny P .any l.toArray Q fuel listed a w := by
  unfold relB1 at hS
  simp only [Bool.and_eq_true, List.all_eq_true, List.mem_range] at hS
  obtain ⟨⟨⟨hS1, hS2⟩, hS3⟩, hS4⟩ := hS
  have hsize : l.toArray.size = l.length := by simp
  have hafter : ∀ i o, i < l.length → l[i]? = some o → ∀ e ∈ o.after.toList, Region.binds .any e = true → e.on < i := by
    intro i o hi ho e he hb
    have := hS4 i hi
    rw [ho] at this
    simp only [List.all_eq_true] at this
    have := this e he
    simpa [hb] using this
  have hdst : ∀ i d, dstO l i = some d → d < a0.tmps.size := by
    intro i d h
    unfold dstO at h
    cases hq : l[i]? with
    | none => rw [hq] at h; cases h
    | some o =>
      rw [hq] at h
      have h' : o.dst = some d := h
      have := hS2 o (List.mem_of_getElem? hq)
      rw [h'] at this
      simpa using this
  have hlen : ∀ i d, dstO l i = some d → i < l.length := by
    intro i d h
    rcases Nat.lt_or_ge i l.length with h1 | h1
    · exact h1
    · unfold dstO at h; rw [List.getElem?_eq_none h1] at h; cases h
  have hdis : ∀ i d, dstO l i = some d → ∀ j, j ≠ i → dstO l j ≠ some d := by
    intro i d hi j hj hjd
    have := hS3 i (hlen i d hi) j (hlen j d hjd)
    simp [hi, hjd] at this
    exact hj this.symm
  have hdone : ∀ (listed : Array Bool) (a : Act) (w : World), RInv1 l V a0 W0 R listed a w → (∀ i, i < l.length → listed.getD i false = true) → Q .normal a w := by
    intro listed a w hI hall
    have e : a = putAll l 0 (slotV l a) a0 := by
      obtain ⟨tm, df⟩ := a
      have h1 := putAll_df l 0 (slotV l ⟨tm, df⟩) a0
      have h2 : df = (putAll l 0 (slotV l ⟨tm, df⟩) a0).defers := by rw [h1.1]; exact hI.df
      have h3 : tm = (putAll l 0 (slotV l ⟨tm, df⟩) a0).tmps := by
        apply Array.ext
        · rw [h1.2]; exact hI.sz
        · intro t ht1 ht2
          have key : tm.getD t undef = (putAll l 0 (slotV l ⟨tm, df⟩) a0).tmps.getD t undef := by
            by_cases hex : ∃ i, dstO l i = some t
            · obtain ⟨i, hi⟩ := hex
              rw [putAll_at1 l 0 _ a0 i t (hdis i t hi) hi (hdst i t hi)]
              simp [slotV, hi]
            · have hne : ∀ i, dstO l i ≠ some t := fun i hi => hex ⟨i, hi⟩
              rw [putAll_off _ _ _ _ _ fun o ho he => by
                obtain ⟨i, hi, hio⟩ := List.getElem_of_mem ho
                exact hne i (by simp [dstO, List.getElem?_eq_getElem hi, hio, he])]
              exact hI.frm t hne
          rw [Array.getD_eq_getD_getElem?, Array.getD_eq_getD_getElem?, Array.getElem?_eq_getElem ht1, Array.getElem?_eq_getElem ht2] at key
          exact key
      generalize putAll l 0 (slotV l ⟨tm, df⟩) a0 = b at *
      cases b
      simp only at h2 h3
      rw [← h2, ← h3]
    rw [e]
    exact hfin _ w hI.ext fun i hi => hI.val i hi (hall i hi)
  intro fuel
  induction fuel with
  | zero =>
    intro listed a w hI hU
    have hall : ∀ i, i < l.length → listed.getD i false = true := by
      intro i hi
      cases hg : listed.getD i false with
      | true => rfl
      | false =>
        exfalso
        have hm : i ∈ unl0 l.length listed := by
          unfold unl0
          rw [List.mem_filter]
          exact ⟨List.mem_range.2 hi, by rw [hg]; rfl⟩
        have := List.length_pos_of_mem hm
        omega
    refine all_done (fun i hi => ?_) (hdone _ _ _ hI hall) 0
    rw [hsize] at hi
    have := hall i hi
    have his : i < listed.size := by rw [hI.lsz]; exact hi
    simp only [Array.getD_eq_getD_getElem?, Array.getElem?_eq_getElem his, Option.getD_some] at this ⊢
    exact this
  | succ fuel ih =>
    intro listed a w hI hU
    refine ⟨fun hr => ?_, fun i hi => ?_⟩
    · refine hdone _ _ _ hI ?_
      have hex : ∀ k, k < l.length → (∀ j, j < k → listed.getD j false = true) → (listed.getD k false = true ∨ k ∈ Region.ready .any l.toArray listed) := by
        intro k hk hj
        cases hg : listed.getD k false with
        | true => exact .inl rfl
        | false =>
          right
          refine mem_ready.2 ⟨by rw [hsize]; exact hk, ?_, l[k], by simp [List.getElem?_eq_getElem hk], fun e he hb => ?_⟩
          · have hks : k < listed.size := by rw [hI.lsz]; omega
            simp only [Array.getD_eq_getD_getElem?, Array.getElem?_eq_getElem hks, Option.getD_some] at hg ⊢
            exact hg
          · exact hj _ (hafter k _ hk (List.getElem?_eq_getElem hk) e he hb)
      have hall : ∀ k, k ≤ l.length → ∀ j, j < k → listed.getD j false = true := by
        intro k
        induction k with
        | zero => intro _ j hj; omega
        | succ k ihk =>
          intro hk j hj
          rcases Nat.lt_or_ge j k with h | h
          · exact ihk (by omega) j h
          · obtain rfl : j = k := by omega
            rcases hex j (by omega) (ihk (by omega)) with h1 | h1
            · exact h1
            · rw [hr] at h1; cases h1
      exact hall _ (Nat.le_refl _)
    · obtain ⟨hi1, hi2, o, ho, hdep⟩ := mem_ready.1 hi
      rw [hsize] at hi1
      have hol : l[i]? = some o := by simpa using ho
      have his : i < listed.size := by rw [hI.lsz]; exact hi1
      have hi3 : listed.getD i false = false := by
        simp only [Array.getD_eq_getD_getElem?, Array.getElem?_eq_getElem his, Option.getD_some] at hi2 ⊢
        exact hi2
      have hgo : o.guard = none := by
        have := hS1 o (List.mem_of_getElem? hol)
        cases hh : o.guard with
        | none => rfl
        | some g => rw [hh] at this; cases this
      have hwant : Region.wanted o (yielded l.toArray a.tmps) = true := by simp [Region.wanted, hgo]
      unfold wpOp
      rw [ho]
      simp only [hwant, if_true]
      left
      refine Oper.wp_mono ?_ (hop i o hol a w hI.sz hI.df hI.frm hI.ext (fun e he hb => ?_))
      · rintro a' w' ⟨v, rfl, hv, hw⟩
        have hoff : ∀ j, j ≠ i → slotV l (a.put o.dst v) j = slotV l a j := by
          intro j hj
          unfold slotV
          cases hjd : dstO l j with
          | none => rfl
          | some d' =>
            cases hd : o.dst with
            | none => rfl
            | some d =>
              have hdi : dstO l i = some d := by simp [dstO, hol, hd]
              have hne : d ≠ d' := fun e => hdis i d hdi j hj (by rw [hjd, e])
              show (a.put (some d) v).tmps.getD d' undef = _
              rw [put_at _ _ _ _ (by rw [hI.sz]; exact hdst i d hdi), if_neg hne]
        have hon : slotV l (a.put o.dst v) i = (match o.dst with | some _ => v | none => undef) := by
          unfold slotV
          cases hd : o.dst with
          | none =>
            have hdi : dstO l i = none := by simp [dstO, hol, hd]
            rw [hdi]
          | some d =>
            have hdi : dstO l i = some d := by simp [dstO, hol, hd]
            rw [hdi]
            show (a.put (some d) v).tmps.getD d undef = _
            rw [put_at _ _ _ _ (by rw [hI.sz]; exact hdst i d hdi), if_pos rfl]
        refine ih _ _ _ ⟨?_, hRt _ _ _ hI.ext hw, ?_, ?_, ?_, ?_⟩ ?_
        · simpa using hI.lsz
        · cases o.dst <;> simpa [Act.put] using hI.sz
        · cases o.dst <;> exact hI.df
        · intro t ht
          cases hd : o.dst with
          | none => exact hI.frm t ht
          | some d =>
            have hdi : dstO l i = some d := by simp [dstO, hol, hd]
            show (a.put (some d) v).tmps.getD t undef = _
            rw [put_at _ _ _ _ (by rw [hI.sz]; exact hdst i d hdi), if_neg (fun (e : d = t) => ht i (by rw [← e]; exact hdi))]
            exact hI.frm t ht
        · intro j hj hl
          rw [getD_set _ _ _ his] at hl
          by_cases hji : i = j
          · subst hji
            rw [hon]; exact hv
          · rw [if_neg hji] at hl
            rw [hoff j (fun e => hji e.symm)]
            exact hmono _ _ _ _ (hI.val j hj hl) hw
        · have h1 : i ∈ unl0 l.length listed := by
            unfold unl0
            rw [List.mem_filter]
            exact ⟨List.mem_range.2 hi1, by rw [hi3]; rfl⟩
          have h2 : i ∉ unl0 l.length (listed.setIfInBounds i true) := by
            unfold unl0
            rw [List.mem_filter, getD_set _ _ _ his, if_pos rfl]
            simp
          have h3 := len_sub' (i :: unl0 l.length (listed.setIfInBounds i true)) (unl0 l.length listed) (List.nodup_cons.2 ⟨h2, List.Nodup.sublist List.filter_sublist List.nodup_range⟩) (fun b hb => by
            rcases List.mem_cons.1 hb with rfl | hb
            · exact h1
            · unfold unl0 at hb ⊢
              rw [List.mem_filter, getD_set _ _ _ his] at hb
              rw [List.mem_filter]
              refine ⟨hb.1, ?_⟩
              have := hb.2
              split at this
              · cases this
              · exact this)
          simp only [List.length_cons] at h3
          omega
      · have hlt : e.on < l.length := by have := hafter i o hi1 hol e he hb; omega
        exact hI.val e.on hlt (hdep e he hb)
theorem wp_region_rel1 {id : Nat} {a0 : Act} {w0 : World} {ops : Array Oper} (V : Nat → Value → World → Prop) (hm : P.follows .mixedOrders = true) (hS : relB1 ops.toList a0.tmps.size = true)
    (hR : ∀ w, R w w) (hRt : ∀ a b c, R a b → R b c → R a c) (hmono : ∀ i v w w', V i v w → R w w' → V i v w')
    (hop : ∀ (i : Nat) (o : Oper), ops.toList[i]? = some o → ∀ (a : Act) (w : World), a.tmps.size = a0.tmps.size → a.defers = a0.defers → (∀ t, (∀ i, dstO ops.toList i ≠ some t) → a.tmps.getD t undef = a0.tmps.getD t undef) → R w0.drew w →
      (∀ e ∈ o.after.toList, Region.binds .any e = true → V e.on (slotV ops.toList a e.on) w) → o.wp P a w (fun a' w' => ∃ v, a' = a.put o.dst v ∧ V i (match o.dst with | some _ => v | none => undef) w' ∧ R w w') Q)
    (hfin : ∀ (vs : Nat → Value) (w : World), R w0.drew w → (∀ i, i < ops.toList.length → V i (vs i) w) → Q .normal (putAll ops.toList 0 vs a0) w) : (Code.region id ops true).wp P Q a0 w0 := by
  have h := rel_any1 (P := P) (Q := Q) (W0 := w0.drew) hS hR hRt hmono hop hfin ops.size (Array.replicate ops.size false) a0 w0.drew ⟨by simp, hR _, rfl, rfl, fun _ _ => rfl, fun i hi h => by
    exfalso
    revert h
    simp only [Array.getD_eq_getD_getElem?, Array.getElem?_replicate]
    split <;> simp⟩ (by
      have := List.length_filter_le (fun i => !(Array.replicate ops.size false).getD i false) (List.range ops.toList.length)
      unfold unl0
      simpa using this)
  exact wp_region_any hm (by simpa using h)
end
end Go.Proofs.Ythejomcibobieaa
