/- A region that draws its order, with guards that all hold, worlds ordered by any relation; several blocks that are written whole. -/
import Derived.Test.YtfdcapblgdlkaaaRel
import Derived.Test.YtfdcapblgdlkaaaTwo
namespace Go.Proofs.Ytfdcapblgdlkaaa
open Go.RowKit

def relBH (l : List Oper) (N : Nat) : Bool :=
  l.all (fun o => match o.guard with | none => true | some (j, b) => b && o.after.toList.any (fun e => Region.binds .any e && e.on == j)) &&
  l.all (fun o => match o.dst with | some d => decide (d < N) | none => true) &&
  (List.range l.length).all (fun i => (List.range l.length).all fun j => decide (i = j) || decide (dstO l i = none) || decide (dstO l i ≠ dstO l j)) &&
  (List.range l.length).all (fun i => match l[i]? with | some o => o.after.toList.all (fun e => !Region.binds .any e || decide (e.on < i)) | none => true)
section
variable {P : Program} {Q : Exit → Act → World → Prop} {V : Nat → Value → World → Prop} {a0 : Act} {W0 : World} {R : World → World → Prop}
theorem rel_anyH {l : List Oper} (hS : relBH l a0.tmps.size = true)
    (hgv : ∀ j, j ∈ gOf l → ∀ v w, V j v w → v = .bool true) (_hR : ∀ w, R w w) (hRt : ∀ a b c, R a b → R b c → R a c) (hmono : ∀ i v w w', V i v w → R w w' → V i v w')
    (hop : ∀ (i : Nat) (o : Oper), l[i]? = some o → ∀ (a : Act) (w : World), a.tmps.size = a0.tmps.size → a.defers = a0.defers → (∀ t, (∀ i, dstO l i ≠ some t) → a.tmps.getD t undef = a0.tmps.getD t undef) → R W0 w →
      (∀ e ∈ o.after.toList, Region.binds .any e = true → V e.on (slotV l a e.on) w) → o.wp P a w (fun a' w' => ∃ v, a' = a.put o.dst v ∧ V i (match o.dst with | some _ => v | none => undef) w' ∧ R w w') Q)
    (hfin : ∀ (vs : Nat → Value) (w : World), R W0 w → (∀ i, i < l.length → V i (vs i) w) → Q .normal (putAll l 0 vs a0) w) :
    ∀ (fuel : Nat) (listed : Array Bool) (a : Act) (w : World), RInv1 l V a0 W0 R listed a w → (unl0 l.length listed).length ≤ fuel → wpAny P .any l.toArray Q fuel listed a w := by
  unfold relBH at hS
  simp only [Bool.and_eq_true, List.all_eq_true, List.mem_range] at hS
  obtain ⟨⟨⟨hS1, hS2⟩, hS3⟩, hS4⟩ := hS
  have hsize : l.toArray.size = l.length := by simp
  have hafter : ∀ i o, i < l.length → l[i]? = some o → ∀ e ∈ o.after.toList, Region.binds .any e = true → e.on < i := by
    intro i o hi ho e he hb
    have := hS4 i hi
    rw [ho] at this
    simp only [List.all_eq_true] at this
    have := this e he
    simpa [hb] using this
  have hdst : ∀ i d, dstO l i = some d → d < a0.tmps.size := by
    intro i d h
    unfold dstO at h
    cases hq : l[i]? with
    | none => rw [hq] at h; cases h
    | some o =>
      rw [hq] at h
      have h' : o.dst = some d := h
      have := hS2 o (List.mem_of_getElem? hq)
      rw [h'] at this
      simpa using this
  have hlen : ∀ i d, dstO l i = some d → i < l.length := by
    intro i d h
    rcases Nat.lt_or_ge i l.length with h1 | h1
    · exact h1
    · unfold dstO at h; rw [List.getElem?_eq_none h1] at h; cases h
  have hdis : ∀ i d, dstO l i = some d → ∀ j, j ≠ i → dstO l j ≠ some d := by
    intro i d hi j hj hjd
    have := hS3 i (hlen i d hi) j (hlen j d hjd)
    simp [hi, hjd] at this
    exact hj this.symm
  have hdone : ∀ (listed : Array Bool) (a : Act) (w : World), RInv1 l V a0 W0 R listed a w → (∀ i, i < l.length → listed.getD i false = true) → Q .normal a w := by
    intro listed a w hI hall
    have e : a = putAll l 0 (slotV l a) a0 := by
      obtain ⟨tm, df⟩ := a
      have h1 := putAll_df l 0 (slotV l ⟨tm, df⟩) a0
      have h2 : df = (putAll l 0 (slotV l ⟨tm, df⟩) a0).defers := by rw [h1.1]; exact hI.df
      have h3 : tm = (putAll l 0 (slotV l ⟨tm, df⟩) a0).tmps := by
        apply Array.ext
        · rw [h1.2]; exact hI.sz
        · intro t ht1 ht2
          have key : tm.getD t undef = (putAll l 0 (slotV l ⟨tm, df⟩) a0).tmps.getD t undef := by
            by_cases hex : ∃ i, dstO l i = some t
            · obtain ⟨i, hi⟩ := hex
              rw [putAll_at1 l 0 _ a0 i t (hdis i t hi) hi (hdst i t hi)]
              simp [slotV, hi]
            · have hne : ∀ i, dstO l i ≠ some t := fun i hi => hex ⟨i, hi⟩
              rw [putAll_off _ _ _ _ _ fun o ho he => by
                obtain ⟨i, hi, hio⟩ := List.getElem_of_mem ho
                exact hne i (by simp [dstO, List.getElem?_eq_getElem hi, hio, he])]
              exact hI.frm t hne
          rw [Array.getD_eq_getD_getElem?, Array.getD_eq_getD_getElem?, Array.getElem?_eq_getElem ht1, Array.getElem?_eq_getElem ht2] at key
          exact key
      generalize putAll l 0 (slotV l ⟨tm, df⟩) a0 = b at *
      cases b
      simp only at h2 h3
      rw [← h2, ← h3]
    rw [e]
    exact hfin _ w hI.ext fun i hi => hI.val i hi (hall i hi)
  intro fuel
  induction fuel with
  | zero =>
    intro listed a w hI hU
    have hall : ∀ i, i < l.length → listed.getD i false = true := by
      intro i hi
      cases hg : listed.getD i false with
      | true => rfl
      | false =>
        exfalso
        have hm : i ∈ unl0 l.length listed := by
          unfold unl0
          rw [List.mem_filter]
          exact ⟨List.mem_range.2 hi, by rw [hg]; rfl⟩
        have := List.length_pos_of_mem hm
        omega
    refine all_done (fun i hi => ?_) (hdone _ _ _ hI hall) 0
    rw [hsize] at hi
    have := hall i hi
    have his : i < listed.size := by rw [hI.lsz]; exact hi
    simp only [Array.getD_eq_getD_getElem?, Array.getElem?_eq_getElem his, Option.getD_some] at this ⊢
    exact this
  | succ fuel ih =>
    intro listed a w hI hU
    refine ⟨fun hr => ?_, fun i hi => ?_⟩
    · refine hdone _ _ _ hI ?_
      have hex : ∀ k, k < l.length → (∀ j, j < k → listed.getD j false = true) → (listed.getD k false = true ∨ k ∈ Region.ready .any l.toArray listed) := by
        intro k hk hj
        cases hg : listed.getD k false with
        | true => exact .inl rfl
        | false =>
          right
          refine mem_ready.2 ⟨by rw [hsize]; exact hk, ?_, l[k], by simp [List.getElem?_eq_getElem hk], fun e he hb => ?_⟩
          · have hks : k < listed.size := by rw [hI.lsz]; omega
            simp only [Array.getD_eq_getD_getElem?, Array.getElem?_eq_getElem hks, Option.getD_some] at hg ⊢
            exact hg
          · exact hj _ (hafter k _ hk (List.getElem?_eq_getElem hk) e he hb)
      have hall : ∀ k, k ≤ l.length → ∀ j, j < k → listed.getD j false = true := by
        intro k
        induction k with
        | zero => intro _ j hj; omega
        | succ k ihk =>
          intro hk j hj
          rcases Nat.lt_or_ge j k with h | h
          · exact ihk (by omega) j h
          · obtain rfl : j = k := by omega
            rcases hex j (by omega) (ihk (by omega)) with h1 | h1
            · exact h1
            · rw [hr] at h1; cases h1
      exact hall _ (Nat.le_refl _)
    · obtain ⟨hi1, hi2, o, ho, hdep⟩ := mem_ready.1 hi
      rw [hsize] at hi1
      have hol : l[i]? = some o := by simpa using ho
      have his : i < listed.size := by rw [hI.lsz]; exact hi1
      have hi3 : listed.getD i false = false := by
        simp only [Array.getD_eq_getD_getElem?, Array.getElem?_eq_getElem his, Option.getD_some] at hi2 ⊢
        exact hi2
      have hwant : Region.wanted o (yielded l.toArray a.tmps) = true := by
        have hg := hS1 o (List.mem_of_getElem? hol)
        cases hh : o.guard with
        | none => simp [Region.wanted, hh]
        | some jb =>
          obtain ⟨j, b⟩ := jb
          rw [hh] at hg
          simp only [Bool.and_eq_true, List.any_eq_true, beq_iff_eq] at hg
          obtain ⟨rfl, e, he, hb, rfl⟩ := hg
          have hlt : e.on < l.length := by have := hafter i o hi1 hol e he hb; omega
          have hv := hI.val e.on hlt (hdep e he hb)
          have ht := hgv e.on (List.mem_filterMap.2 ⟨o, List.mem_of_getElem? hol, by rw [hh]; rfl⟩) _ _ hv
          unfold slotV at ht
          cases hdi : dstO l e.on with
          | none => rw [hdi] at ht; simp [undef] at ht
          | some d =>
            rw [hdi] at ht
            have hsz : d < a.tmps.size := by rw [hI.sz]; exact hdst _ _ hdi
            simp only at ht
            rw [Array.getD_eq_getD_getElem?, Array.getElem?_eq_getElem hsz] at ht
            have hy : yielded l.toArray a.tmps e.on = some true := by
              unfold yielded
              have h1 : (l.toArray[e.on]?).bind (·.dst) = some d := by
                have : l.toArray[e.on]? = l[e.on]? := List.getElem?_toArray
                rw [this]; exact hdi
              rw [h1]
              show (match a.tmps[d]? with | some (.bool b) => some b | _ => none) = some true
              rw [Array.getElem?_eq_getElem hsz]
              simp only [Option.getD_some] at ht
              rw [ht]
            simp [Region.wanted, hh, hy]
      unfold wpOp
      rw [ho]
      simp only [hwant, if_true]
      left
      refine Oper.wp_mono ?_ (hop i o hol a w hI.sz hI.df hI.frm hI.ext (fun e he hb => ?_))
      · rintro a' w' ⟨v, rfl, hv, hw⟩
        have hoff : ∀ j, j ≠ i → slotV l (a.put o.dst v) j = slotV l a j := by
          intro j hj
          unfold slotV
          cases hjd : dstO l j with
          | none => rfl
          | some d' =>
            cases hd : o.dst with
            | none => rfl
            | some d =>
              have hdi : dstO l i = some d := by simp [dstO, hol, hd]
              have hne : d ≠ d' := fun e => hdis i d hdi j hj (by rw [hjd, e])
              show (a.put (some d) v).tmps.getD d' undef = _
              rw [put_at _ _ _ _ (by rw [hI.sz]; exact hdst i d hdi), if_neg hne]
        have hon : slotV l (a.put o.dst v) i = (match o.dst with | some _ => v | none => undef) := by
          unfold slotV
          cases hd : o.dst with
          | none =>
            have hdi : dstO l i = none := by simp [dstO, hol, hd]
            rw [hdi]
          | some d =>
            have hdi : dstO l i = some d := by simp [dstO, hol, hd]
            rw [hdi]
            show (a.put (some d) v).tmps.getD d undef = _
            rw [put_at _ _ _ _ (by rw [hI.sz]; exact hdst i d hdi), if_pos rfl]
        refine ih _ _ _ ⟨?_, hRt _ _ _ hI.ext hw, ?_, ?_, ?_, ?_⟩ ?_
        · simpa using hI.lsz
        · cases o.dst <;> simpa [Act.put] using hI.sz
        · cases o.dst <;> exact hI.df
        · intro t ht
          cases hd : o.dst with
          | none => exact hI.frm t ht
          | some d =>
            have hdi : dstO l i = some d := by simp [dstO, hol, hd]
            show (a.put (some d) v).tmps.getD t undef = _
            rw [put_at _ _ _ _ (by rw [hI.sz]; exact hdst i d hdi), if_neg (fun (e : d = t) => ht i (by rw [← e]; exact hdi))]
            exact hI.frm t ht
        · intro j hj hl
          rw [getD_set _ _ _ his] at hl
          by_cases hji : i = j
          · subst hji
            rw [hon]; exact hv
          · rw [if_neg hji] at hl
            rw [hoff j (fun e => hji e.symm)]
            exact hmono _ _ _ _ (hI.val j hj hl) hw
        · have h1 : i ∈ unl0 l.length listed := by
            unfold unl0
            rw [List.mem_filter]
            exact ⟨List.mem_range.2 hi1, by rw [hi3]; rfl⟩
          have h2 : i ∉ unl0 l.length (listed.setIfInBounds i true) := by
            unfold unl0
            rw [List.mem_filter, getD_set _ _ _ his, if_pos rfl]
            simp
          have h3 := len_sub' (i :: unl0 l.length (listed.setIfInBounds i true)) (unl0 l.length listed) (List.nodup_cons.2 ⟨h2, List.Nodup.sublist List.filter_sublist List.nodup_range⟩) (fun b hb => by
            rcases List.mem_cons.1 hb with rfl | hb
            · exact h1
            · unfold unl0 at hb ⊢
              rw [List.mem_filter, getD_set _ _ _ his] at hb
              rw [List.mem_filter]
              refine ⟨hb.1, ?_⟩
              have := hb.2
              split at this
              · cases this
              · exact this)
          simp only [List.length_cons] at h3
          omega
      · have hlt : e.on < l.length := by have := hafter i o hi1 hol e he hb; omega
        exact hI.val e.on hlt (hdep e he hb)
theorem wp_region_relH {id : Nat} {a0 : Act} {w0 : World} {ops : Array Oper} (V : Nat → Value → World → Prop) (hm : P.follows .mixedOrders = true) (hS : relBH ops.toList a0.tmps.size = true)
    (hgv : ∀ j, j ∈ gOf ops.toList → ∀ v w, V j v w → v = .bool true) (hR : ∀ w, R w w) (hRt : ∀ a b c, R a b → R b c → R a c) (hmono : ∀ i v w w', V i v w → R w w' → V i v w')
    (hop : ∀ (i : Nat) (o : Oper), ops.toList[i]? = some o → ∀ (a : Act) (w : World), a.tmps.size = a0.tmps.size → a.defers = a0.defers → (∀ t, (∀ i, dstO ops.toList i ≠ some t) → a.tmps.getD t undef = a0.tmps.getD t undef) → R w0.drew w →
      (∀ e ∈ o.after.toList, Region.binds .any e = true → V e.on (slotV ops.toList a e.on) w) → o.wp P a w (fun a' w' => ∃ v, a' = a.put o.dst v ∧ V i (match o.dst with | some _ => v | none => undef) w' ∧ R w w') Q)
    (hfin : ∀ (vs : Nat → Value) (w : World), R w0.drew w → (∀ i, i < ops.toList.length → V i (vs i) w) → Q .normal (putAll ops.toList 0 vs a0) w) : (Code.region id ops true).wp P Q a0 w0 := by
  have h := rel_anyH (P := P) (Q := Q) (W0 := w0.drew) hS hgv hR hRt hmono hop hfin ops.size (Array.replicate ops.size false) a0 w0.drew ⟨by simp, hR _, rfl, rfl, fun _ _ => rfl, fun i hi h => by
    exfalso
    revert h
    simp only [Array.getD_eq_getD_getElem?, Array.getElem?_replicate]
    split <;> simp⟩ (by
      have := List.length_filter_le (fun i => !(Array.replicate ops.size false).getD i false) (List.range ops.toList.length)
      unfold unl0
      simpa using this)
  exact wp_region_any hm (by simpa using h)
end
theorem Vpr_monoR {R : World → World → Prop} {ps : List Pr} (h : ∀ q, Pr.p q ∈ ps → MonoR R q) : ∀ i v w w', Vpr ps i v w → R w w' → Vpr ps i v w' := by
  intro i v w w' hv hw
  unfold Vpr at hv ⊢
  cases hp : ps[i]? with
  | none => trivial
  | some p =>
    rw [hp] at hv
    cases p with
    | v u => exact hv
    | p q => exact h q (List.mem_of_getElem? hp) v w w' hv hw
/-- All other blocks are as they were; each block of L is as it was or as it will be. -/
structure RL (L : List (Nat × TypeId × Array Value)) (w w' : World) : Prop where
  os : w'.os = w.os
  tape : w'.tape = w.tape
  output : w'.output = w.output
  size : w.heap.size ≤ w'.heap.size
  other : ∀ b, (∀ e ∈ L, b ≠ e.1) → b < w.heap.size → w'.heap[b]? = w.heap[b]?
  mine : ∀ e ∈ L, ∀ cur, Blk w e.1 e.2.1 cur → Blk w' e.1 e.2.1 cur ∨ Blk w' e.1 e.2.1 e.2.2
section
variable {L : List (Nat × TypeId × Array Value)}
theorem RL.refl (w : World) : RL L w w := ⟨rfl, rfl, rfl, Nat.le_refl _, fun _ _ _ => rfl, fun _ _ _ h => .inl h⟩
theorem RL.trans (a b c : World) (h : RL L a b) (k : RL L b c) : RL L a c :=
  ⟨k.os.trans h.os, k.tape.trans h.tape, k.output.trans h.output, Nat.le_trans h.size k.size, fun x hx hb => (k.other x hx (Nat.lt_of_lt_of_le hb h.size)).trans (h.other x hx hb), fun e he cur hc => by
    rcases h.mine e he cur hc with h1 | h1
    · exact k.mine e he _ h1
    · rcases k.mine e he _ h1 with h2 | h2 <;> exact .inr h2⟩
theorem RL.of_ext {w w' : World} (h : Ext w w') : RL L w w' :=
  ⟨h.os, h.tape, h.output, h.size, fun b _ hb => h.block b hb, fun _ _ _ hc => .inl (hc.grow h)⟩
theorem RL.blk {w w' : World} (h : RL L w w') {b : Nat} {v : TypeId} {cs : Array Value} (hb : Blk w b v cs) (h1 : ∀ e ∈ L, b ≠ e.1) : Blk w' b v cs := (h.other b h1 hb.lt).trans hb
theorem RL.below {a w w' : World} (h : RL L w w') (he : Ext a w) (hA : ∀ e ∈ L, a.heap.size ≤ e.1) : Ext a w' :=
  ⟨h.os.trans he.os, h.tape.trans he.tape, h.output.trans he.output, Nat.le_trans he.size h.size, fun b hb => (h.other b (fun e hel => by have := hA e hel; omega) (Nat.lt_of_lt_of_le hb he.size)).trans (he.block b hb)⟩
theorem isW_RL {b : Nat} {t : TypeId} {f : Array Value} (h : (b, t, f) ∈ L) : MonoR (RL L) (isW b t f) := fun _ _ _ h1 k => by
  rcases k.mine _ h _ h1 with h2 | h2 <;> exact h2
end
section
variable {P : Program} {Q : Exit → Act → World → Prop} {V : Nat → Value → World → Prop} {i : Nat} {o : Oper} {a : Act} {w : World} {L : List (Nat × TypeId × Array Value)}
theorem many_val {v : Value} {d : Tmp} (hd : o.dst = some d) (hr : (execOp a.eval o).run P w = .ok (.value v) w) (hv : V i v w) : Owes P V (RL L) i o a w Q := by
  unfold Owes Oper.wp
  rw [hr]
  exact ⟨v, rfl, by rw [hd]; exact hv, RL.refl _⟩
theorem many_call {v : Value} {d : Tmp} (hd : o.dst = some d) (f' : FuncId) (xs : List Operand) (ts : Array TypeId) (ho : o.op = .call { callee := .value (.func f'), args := xs.toArray, argTypes := ts }) (hf : callB P f' = true) (args : List Value) (hargs : xs.map a.eval = args)
    (h : Calls P f' args.toArray w fun e w' => e = .returned v ∧ Ext w w') (hv : ∀ w', V i v w') : Owes P V (RL L) i o a w Q := by
  unfold Owes Oper.wp
  rw [run_call_op ho hf]
  have e : xs.toArray.map a.eval = args.toArray := by rw [List.map_toArray, hargs]
  rw [e]
  exact h.mono fun en w' ⟨he, hw⟩ => by subst he; exact ⟨v, rfl, by rw [hd]; exact hv w', RL.of_ext hw⟩
theorem many_row {d : Tmp} (hd : o.dst = some d) (ty : TypeId) (x : Operand) (ho : o.op = .load ty x) (b : Nat) (hx : a.eval x = .pointer (some ⟨b, 0, none⟩)) (v : TypeId) (cs : Array Value) (td : TypeDesc) (hB : Blk w b v cs)
    (hu : P.underlying ty = some td) (htd : (match td with | .struct _ | .array _ _ => true | _ => false) = true) (hi : (P.info? ty).map (·.size) = some cs.size) (hv : V i (.agg cs) w) : Owes P V (RL L) i o a w Q := by
  refine many_val hd (v := .agg cs) ?_ hv
  unfold execOp
  simp only [ho, hx, Instr.loadAt, Instr.sureAddr, Sem.run_bind, Sem.run_pure, Result.andThen_ok, run_loadVar_row w b v ty cs (0, 0) td hB hu htd hi]
theorem many_store (b : Nat) (t : TypeId) (f : Array Value) (hL : (b, t, f) ∈ L) (hone : ∀ e ∈ L, e.1 = b → e = (b, t, f)) (hd : o.dst = none) (ty : TypeId) (x y : Operand) (ho : o.op = .store ty x y) (hx : a.eval x = .pointer (some ⟨b, 0, none⟩)) (hy : a.eval y = .agg f) (cur : Array Value) (hB : Blk w b t cur) (hc : cur.size = f.size) (hi : (P.info? ty).map (·.size) = some f.size) (h1 : f.all (·.oneCell') = true)
    (hv : ∀ w', Blk w' b t f → V i undef w') : Owes P V (RL L) i o a w Q := by
  unfold Owes Oper.wp execOp
  simp only [ho, hx, hy, Sem.run_bind, Instr.storeAt, Instr.sureAddr, Sem.run_pure, Result.andThen, run_storeVar_row w b t ty cur f hB hi hc h1]
  refine ⟨undef, rfl, by rw [hd]; exact hv _ (hB.row f), rfl, rfl, rfl, by rw [setRow_size]; exact Nat.le_refl _, fun c hb _ => setRow_heap _ _ _ _ (hb _ hL), fun e he cur' hc' => ?_⟩
  by_cases h : e.1 = b
  · have := hone e he h
    subst this
    exact .inr (hc'.row f)
  · exact .inl (hc'.rowFar h f)
end
end Go.Proofs.Ytfdcapblgdlkaaa
