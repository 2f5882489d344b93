/- A region that draws its order, with guards that all hold, of either sign. -/
import Derived.Test.YtfdcapblgdlkaaaRel
namespace Go.Proofs.Ytfdcapblgdlkaaa
open Go.RowKit

def relBN (l : List Oper) (N : Nat) : Bool :=
  l.all (fun o => match o.guard with | none => true | some (j, _) => o.after.toList.any (fun e => Region.binds .any e && e.on == j)) &&
  l.all (fun o => match o.dst with | some d => decide (d < N) | none => false) &&
  decide (l.map (·.dst)).Nodup &&
  (List.range l.length).all (fun i => match l[i]? with | some o => o.after.toList.all (fun e => !Region.binds .any e || decide (e.on < i)) | none => true)
def gOfN (l : List Oper) : List (Nat × Bool) := l.filterMap fun o => o.guard
def Pr.isB (b : Bool) : Pr → Bool
  | .v (.bool c) => c == b
  | _ => false
theorem Vpr_is {ps : List Pr} {j : Nat} {b : Bool} (h : (match ps[j]? with | some p => p.isB b | none => false) = true) (v : Value) (w : World) (hv : Vpr ps j v w) : v = .bool b := by
  unfold Vpr at hv
  cases hp : ps[j]? with
  | none => rw [hp] at h; cases h
  | some p =>
    rw [hp] at h hv
    cases p with
    | p q => cases h
    | v u =>
      cases u <;> first | (cases h; done) | skip
      rename_i c
      have hb : (c == b) = true := h
      have hc : c = b := by simpa using hb
      subst hc
      exact hv
theorem Vpr_allN {ps : List Pr} {l : List Oper} (h : ((gOfN l).all fun jb => match ps[jb.1]? with | some p => p.isB jb.2 | none => false) = true) : ∀ j b, (j, b) ∈ gOfN l → ∀ v w, Vpr ps j v w → v = .bool b :=
  fun j b hj v w hv => Vpr_is (List.all_eq_true.1 h (j, b) hj) v w hv
section
variable {P : Program} {Q : Exit → Act → World → Prop} {V : Nat → Value → World → Prop} {a0 : Act} {W0 : World}
theorem rel_anyN {l : List Oper} (hS : relBN l a0.tmps.size = true)
    (hgv : ∀ j b, (j, b) ∈ gOfN l → ∀ v w, V j v w → v = .bool b) (hmono : ∀ i v w w', V i v w → Ext w w' → V i v w')
    (hop : ∀ (i : Nat) (o : Oper), l[i]? = some o → ∀ (a : Act) (w : World), a.tmps.size = a0.tmps.size → a.defers = a0.defers → (∀ t, (∀ i, dstO l i ≠ some t) → a.tmps.getD t undef = a0.tmps.getD t undef) → Ext W0 w →
      (∀ e ∈ o.after.toList, Region.binds .any e = true → ∀ d, dstO l e.on = some d → V e.on (a.tmps.getD d undef) w) → o.wp P a w (fun a' w' => ∃ v, a' = a.put o.dst v ∧ V i v w' ∧ Ext w w') Q)
    (hfin : ∀ (vs : Nat → Value) (w : World), Ext W0 w → (∀ i, i < l.length → V i (vs i) w) → Q .normal (putAll l 0 vs a0) w) :
    ∀ (fuel : Nat) (listed : Array Bool) (a : Act) (w : World), RInv0 l V a0 W0 listed a w → (unl0 l.length listed).length ≤ fuel → wpAny P .any l.toArray Q fuel listed a w := by
  unfold relBN at hS
  simp only [Bool.and_eq_true, List.all_eq_true, decide_eq_true_eq, List.mem_range] at hS
  obtain ⟨⟨⟨hS1, hS2⟩, hS3⟩, hS4⟩ := hS
  have hsize : l.toArray.size = l.length := by simp
  have hafter : ∀ i o, i < l.length → l[i]? = some o → ∀ e ∈ o.after.toList, Region.binds .any e = true → e.on < i := by
    intro i o hi ho e he hb
    have := hS4 i hi
    rw [ho] at this
    simp only [List.all_eq_true] at this
    have := this e he
    simpa [hb] using this
  have hdst : ∀ i, i < l.length → ∃ d, dstO l i = some d ∧ d < a0.tmps.size := by
    intro i hi
    have := hS2 l[i] (List.getElem_mem hi)
    cases hh : l[i].dst with
    | none => rw [hh] at this; cases this
    | some d => rw [hh] at this; exact ⟨d, by simp [dstO, List.getElem?_eq_getElem hi, hh], by simpa using this⟩
  have hdone : ∀ (listed : Array Bool) (a : Act) (w : World), RInv0 l V a0 W0 listed a w → (∀ i, i < l.length → listed.getD i false = true) → Q .normal a w := by
    intro listed a w hI hall
    have e : a = putAll l 0 (fun i => a.tmps.getD ((dstO l i).getD 0) undef) a0 := by
      obtain ⟨tm, df⟩ := a
      have h1 := putAll_df l 0 (fun i => tm.getD ((dstO l i).getD 0) undef) a0
      have h2 : df = (putAll l 0 (fun i => tm.getD ((dstO l i).getD 0) undef) a0).defers := by rw [h1.1]; exact hI.df
      have h3 : tm = (putAll l 0 (fun i => tm.getD ((dstO l i).getD 0) undef) a0).tmps := by
        apply Array.ext
        · rw [h1.2]; exact hI.sz
        · intro t ht1 ht2
          have key : tm.getD t undef = (putAll l 0 (fun i => tm.getD ((dstO l i).getD 0) undef) a0).tmps.getD t undef := by
            by_cases hex : ∃ i, dstO l i = some t
            · obtain ⟨i, hi⟩ := hex
              have hts : t < a0.tmps.size := by have := hI.sz; simp only at this; omega
              rw [putAll_at l 0 _ a0 i t hS3 hi hts]
              simp [hi]
            · have hne : ∀ i, dstO l i ≠ some t := fun i hi => hex ⟨i, hi⟩
              rw [putAll_off _ _ _ _ _ fun o ho he => by
                obtain ⟨i, hi, hio⟩ := List.getElem_of_mem ho
                exact hne i (by simp [dstO, List.getElem?_eq_getElem hi, hio, he])]
              exact hI.frm t hne
          rw [Array.getD_eq_getD_getElem?, Array.getD_eq_getD_getElem?, Array.getElem?_eq_getElem ht1, Array.getElem?_eq_getElem ht2] at key
          exact key
      generalize putAll l 0 (fun i => tm.getD ((dstO l i).getD 0) undef) a0 = b at *
      cases b
      simp only at h2 h3
      rw [← h2, ← h3]
    rw [e]
    refine hfin _ w hI.ext fun i hi => ?_
    obtain ⟨d, hd, _⟩ := hdst i hi
    have := hI.val i d hi (hall i hi) hd
    simpa [hd] using this
  intro fuel
  induction fuel with
  | zero =>
    intro listed a w hI hU
    have hall : ∀ i, i < l.length → listed.getD i false = true := by
      intro i hi
      cases hg : listed.getD i false with
      | true => rfl
      | false =>
        exfalso
        have hm : i ∈ unl0 l.length listed := by
          unfold unl0
          rw [List.mem_filter]
          exact ⟨List.mem_range.2 hi, by rw [hg]; rfl⟩
        have := List.length_pos_of_mem hm
        omega
    refine all_done (fun i hi => ?_) (hdone _ _ _ hI hall) 0
    rw [hsize] at hi
    have := hall i hi
    have his : i < listed.size := by rw [hI.lsz]; exact hi
    simp only [Array.getD_eq_getD_getElem?, Array.getElem?_eq_getElem his, Option.getD_some] at this ⊢
    exact this
  | succ fuel ih =>
    intro listed a w hI hU
    refine ⟨fun hr => ?_, fun i hi => ?_⟩
    · refine hdone _ _ _ hI ?_
      have hex : ∀ k, k < l.length → (∀ j, j < k → listed.getD j false = true) → (listed.getD k false = true ∨ k ∈ Region.ready .any l.toArray listed) := by
        intro k hk hj
        cases hg : listed.getD k false with
        | true => exact .inl rfl
        | false =>
          right
          refine mem_ready.2 ⟨by rw [hsize]; exact hk, ?_, l[k], by simp [List.getElem?_eq_getElem hk], fun e he hb => ?_⟩
          · have hks : k < listed.size := by rw [hI.lsz]; omega
            simp only [Array.getD_eq_getD_getElem?, Array.getElem?_eq_getElem hks, Option.getD_some] at hg ⊢
            exact hg
          · exact hj _ (hafter k _ hk (List.getElem?_eq_getElem hk) e he hb)
      have hall : ∀ k, k ≤ l.length → ∀ j, j < k → listed.getD j false = true := by
        intro k
        induction k with
        | zero => intro _ j hj; omega
        | succ k ihk =>
          intro hk j hj
          rcases Nat.lt_or_ge j k with h | h
          · exact ihk (by omega) j h
          · obtain rfl : j = k := by omega
            rcases hex j (by omega) (ihk (by omega)) with h1 | h1
            · exact h1
            · rw [hr] at h1; cases h1
      exact hall _ (Nat.le_refl _)
    · obtain ⟨hi1, hi2, o, ho, hdep⟩ := mem_ready.1 hi
      rw [hsize] at hi1
      have hol : l[i]? = some o := by simpa using ho
      have his : i < listed.size := by rw [hI.lsz]; exact hi1
      have hi3 : listed.getD i false = false := by
        simp only [Array.getD_eq_getD_getElem?, Array.getElem?_eq_getElem his, Option.getD_some] at hi2 ⊢
        exact hi2
      have hwant : Region.wanted o (yielded l.toArray a.tmps) = true := by
        have hg := hS1 o (List.mem_of_getElem? hol)
        cases hh : o.guard with
        | none => simp [Region.wanted, hh]
        | some jb =>
          obtain ⟨j, b⟩ := jb
          rw [hh] at hg
          simp only [Bool.and_eq_true, List.any_eq_true, beq_iff_eq] at hg
          obtain ⟨e, he, hb, rfl⟩ := hg
          have hlt : e.on < l.length := by have := hafter i o hi1 hol e he hb; omega
          obtain ⟨d, hdi, hdl⟩ := hdst e.on hlt
          have hv := hI.val e.on d hlt (hdep e he hb) hdi
          have ht := hgv e.on b (List.mem_filterMap.2 ⟨o, List.mem_of_getElem? hol, hh⟩) _ _ hv
          have hsz : d < a.tmps.size := by rw [hI.sz]; exact hdl
          rw [Array.getD_eq_getD_getElem?, Array.getElem?_eq_getElem hsz] at ht
          have hy : yielded l.toArray a.tmps e.on = some b := by
            unfold yielded
            have h1 : (l.toArray[e.on]?).bind (·.dst) = some d := by
              have : l.toArray[e.on]? = l[e.on]? := List.getElem?_toArray
              rw [this]; exact hdi
            rw [h1]
            show (match a.tmps[d]? with | some (.bool b) => some b | _ => none) = some b
            rw [Array.getElem?_eq_getElem hsz]
            simp only [Option.getD_some] at ht
            rw [ht]
          simp [Region.wanted, hh, hy]
      unfold wpOp
      rw [ho]
      simp only [hwant, if_true]
      left
      obtain ⟨d, hdi, hdl⟩ := hdst i hi1
      have hd : o.dst = some d := by simpa [dstO, hol] using hdi
      have hodist : ∀ j d', j ≠ i → dstO l j = some d' → d ≠ d' := by
        intro j d' hj hjd e
        subst e
        have h1 : (l.map (·.dst))[i]? = some (some d) := by rw [List.getElem?_map, hol]; simp [hd]
        have h2 : (l.map (·.dst))[j]? = some (some d) := by
          unfold dstO at hjd
          cases hq : l[j]? with
          | none => rw [hq] at hjd; cases hjd
          | some oj => rw [hq] at hjd; rw [List.getElem?_map, hq]; simp at hjd; simp [hjd]
        have hil : i < (l.map (·.dst)).length := by simpa using hi1
        exact hj ((List.getElem?_inj hil hS3).1 (h1.trans h2.symm)).symm
      refine Oper.wp_mono ?_ (hop i o hol a w hI.sz hI.df hI.frm hI.ext (fun e he hb d' hd' => ?_))
      · rintro a' w' ⟨v, rfl, hv, hw⟩
        rw [hd]
        have hda : d < a.tmps.size := by rw [hI.sz]; exact hdl
        refine ih _ _ _ ⟨?_, Ext.trans hI.ext hw, ?_, hI.df, ?_, ?_⟩ ?_
        · simpa using hI.lsz
        · simpa [Act.put] using hI.sz
        · intro t ht
          rw [put_at _ _ _ _ hda, if_neg (fun (e : d = t) => ht i (by rw [← e]; exact hdi))]
          exact hI.frm t ht
        · intro j d' hj hl hjd
          rw [getD_set _ _ _ his] at hl
          by_cases hji : i = j
          · subst hji
            rw [hdi] at hjd
            injection hjd with hjd
            subst hjd
            rw [put_at _ _ _ _ hda, if_pos rfl]
            exact hv
          · rw [if_neg hji] at hl
            rw [put_at _ _ _ _ hda, if_neg (hodist j d' (fun e => hji e.symm) hjd)]
            exact hmono _ _ _ _ (hI.val j d' hj hl hjd) hw
        · have h1 : i ∈ unl0 l.length listed := by
            unfold unl0
            rw [List.mem_filter]
            exact ⟨List.mem_range.2 hi1, by rw [hi3]; rfl⟩
          have h2 : i ∉ unl0 l.length (listed.setIfInBounds i true) := by
            unfold unl0
            rw [List.mem_filter, getD_set _ _ _ his, if_pos rfl]
            simp
          have h3 := len_sub' (i :: unl0 l.length (listed.setIfInBounds i true)) (unl0 l.length listed) (List.nodup_cons.2 ⟨h2, List.Nodup.sublist List.filter_sublist List.nodup_range⟩) (fun b hb => by
            rcases List.mem_cons.1 hb with rfl | hb
            · exact h1
            · unfold unl0 at hb ⊢
              rw [List.mem_filter, getD_set _ _ _ his] at hb
              rw [List.mem_filter]
              refine ⟨hb.1, ?_⟩
              have := hb.2
              split at this
              · cases this
              · exact this)
          simp only [List.length_cons] at h3
          omega
      · have hlt : e.on < l.length := by have := hafter i o hi1 hol e he hb; omega
        exact hI.val e.on d' hlt (hdep e he hb) hd'
theorem wp_region_relN {id : Nat} {a0 : Act} {w0 : World} {ops : Array Oper} (V : Nat → Value → World → Prop) (hm : P.follows .mixedOrders = true) (hS : relBN ops.toList a0.tmps.size = true)
    (hgv : ∀ j b, (j, b) ∈ gOfN ops.toList → ∀ v w, V j v w → v = .bool b) (hmono : ∀ i v w w', V i v w → Ext w w' → V i v w')
    (hop : ∀ (i : Nat) (o : Oper), ops.toList[i]? = some o → ∀ (a : Act) (w : World), a.tmps.size = a0.tmps.size → a.defers = a0.defers → (∀ t, (∀ i, dstO ops.toList i ≠ some t) → a.tmps.getD t undef = a0.tmps.getD t undef) → Ext w0.drew w →
      (∀ e ∈ o.after.toList, Region.binds .any e = true → ∀ d, dstO ops.toList e.on = some d → V e.on (a.tmps.getD d undef) w) → o.wp P a w (fun a' w' => ∃ v, a' = a.put o.dst v ∧ V i v w' ∧ Ext w w') Q)
    (hfin : ∀ (vs : Nat → Value) (w : World), Ext w0.drew w → (∀ i, i < ops.toList.length → V i (vs i) w) → Q .normal (putAll ops.toList 0 vs a0) w) : (Code.region id ops true).wp P Q a0 w0 := by
  have h := rel_anyN (P := P) (Q := Q) (W0 := w0.drew) hS hgv hmono hop hfin ops.size (Array.replicate ops.size false) a0 w0.drew ⟨by simp, Ext.refl _, rfl, rfl, fun _ _ => rfl, fun i d hi h => by
    exfalso
    revert h
    simp only [Array.getD_eq_getD_getElem?, Array.getElem?_replicate]
    split <;> simp⟩ (by
      have := List.length_filter_le (fun i => !(Array.replicate ops.size false).getD i false) (List.range ops.toList.length)
      unfold unl0
      simpa using this)
  exact wp_region_any hm (by simpa using h)
end
end Go.Proofs.Ytfdcapblgdlkaaa
