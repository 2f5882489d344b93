/- Two blocks that are written whole, in a region that draws its order. -/
import Derived.Test.YtfdcapblgdlkaaaRow32
namespace Go.Proofs.Ytfdcapblgdlkaaa
open Go.RowKit

/-- All other blocks are as they were; A is as it was or f, B is as it was or g. -/
structure R2 (A B : Nat) (t u : TypeId) (f g : Array Value) (w w' : World) : Prop where
  os : w'.os = w.os
  tape : w'.tape = w.tape
  output : w'.output = w.output
  size : w.heap.size ≤ w'.heap.size
  other : ∀ b, b ≠ A → b ≠ B → b < w.heap.size → w'.heap[b]? = w.heap[b]?
  one : ∀ cur, Blk w A t cur → Blk w' A t cur ∨ Blk w' A t f
  two : ∀ cur, Blk w B u cur → Blk w' B u cur ∨ Blk w' B u g
section
variable {A B : Nat} {t u : TypeId} {f g : Array Value}
theorem R2.refl (w : World) : R2 A B t u f g w w := ⟨rfl, rfl, rfl, Nat.le_refl _, fun _ _ _ _ => rfl, fun _ h => .inl h, fun _ h => .inl h⟩
theorem R2.trans (a b c : World) (h : R2 A B t u f g a b) (k : R2 A B t u f g b c) : R2 A B t u f g a c :=
  ⟨k.os.trans h.os, k.tape.trans h.tape, k.output.trans h.output, Nat.le_trans h.size k.size, fun x hx hy hb => (k.other x hx hy (Nat.lt_of_lt_of_le hb h.size)).trans (h.other x hx hy hb), fun cur hc => by
    rcases h.one cur hc with h1 | h1
    · exact k.one _ h1
    · rcases k.one _ h1 with h2 | h2 <;> exact .inr h2, fun cur hc => by
    rcases h.two cur hc with h1 | h1
    · exact k.two _ h1
    · rcases k.two _ h1 with h2 | h2 <;> exact .inr h2⟩
theorem R2.of_ext {w w' : World} (h : Ext w w') : R2 A B t u f g w w' :=
  ⟨h.os, h.tape, h.output, h.size, fun b _ _ hb => h.block b hb, fun _ hc => .inl (hc.grow h), fun _ hc => .inl (hc.grow h)⟩
theorem R2.blk {w w' : World} (h : R2 A B t u f g w w') {b : Nat} {v : TypeId} {cs : Array Value} (hb : Blk w b v cs) (h1 : b ≠ A) (h2 : b ≠ B) : Blk w' b v cs := (h.other b h1 h2 hb.lt).trans hb
theorem R2.below {a w w' : World} (h : R2 A B t u f g w w') (he : Ext a w) (hA : a.heap.size ≤ A) (hB : a.heap.size ≤ B) : Ext a w' :=
  ⟨h.os.trans he.os, h.tape.trans he.tape, h.output.trans he.output, Nat.le_trans he.size h.size, fun b hb => (h.other b (by omega) (by omega) (Nat.lt_of_lt_of_le hb he.size)).trans (he.block b hb)⟩
/-- block n is f -/
def isW (n : Nat) (t : TypeId) (f : Array Value) : Value → World → Prop := fun _ w => Blk w n t f
theorem isW_one : MonoR (R2 A B t u f g) (isW A t f) := fun _ _ _ h k => by
  rcases k.one _ h with h2 | h2 <;> exact h2
theorem isW_two : MonoR (R2 A B t u f g) (isW B u g) := fun _ _ _ h k => by
  rcases k.two _ h with h2 | h2 <;> exact h2
end
section
variable {P : Program} {Q : Exit → Act → World → Prop} {V : Nat → Value → World → Prop} {i : Nat} {o : Oper} {a : Act} {w : World} {A B : Nat} {t u : TypeId} {f g : Array Value}
theorem two_val {v : Value} {d : Tmp} (hd : o.dst = some d) (hr : (execOp a.eval o).run P w = .ok (.value v) w) (hv : V i v w) : Owes P V (R2 A B t u f g) i o a w Q := by
  unfold Owes Oper.wp
  rw [hr]
  exact ⟨v, rfl, by rw [hd]; exact hv, R2.refl _⟩
theorem two_call {v : Value} {d : Tmp} (hd : o.dst = some d) (f' : FuncId) (xs : List Operand) (ts : Array TypeId) (ho : o.op = .call { callee := .value (.func f'), args := xs.toArray, argTypes := ts }) (hf : callB P f' = true) (args : List Value) (hargs : xs.map a.eval = args)
    (h : Calls P f' args.toArray w fun e w' => e = .returned v ∧ Ext w w') (hv : ∀ w', V i v w') : Owes P V (R2 A B t u f g) i o a w Q := by
  unfold Owes Oper.wp
  rw [run_call_op ho hf]
  have e : xs.toArray.map a.eval = args.toArray := by rw [List.map_toArray, hargs]
  rw [e]
  exact h.mono fun en w' ⟨he, hw⟩ => by subst he; exact ⟨v, rfl, by rw [hd]; exact hv w', R2.of_ext hw⟩
theorem two_load {d : Tmp} (hd : o.dst = some d) (ty : TypeId) (x : Operand) (ho : o.op = .load ty x) (b off : Nat) (hx : a.eval x = .pointer (some ⟨b, off, none⟩)) (n : Nat) (k : Nat → Value) (td : TypeDesc) (hc : ∀ j, j < n → w.cell? ⟨b, off + j, none⟩ = some (k j))
    (hu : P.underlying ty = some td) (htd : (match td with | .struct _ | .array _ _ => true | _ => false) = true) (hi : (P.info? ty).map (·.size) = some n) (hv : V i (.agg (valL n k).toArray) w) : Owes P V (R2 A B t u f g) i o a w Q := by
  refine two_val hd (v := .agg (valL n k).toArray) ?_ hv
  unfold execOp
  simp only [ho, hx, Instr.loadAt, Instr.sureAddr, Sem.run_bind, Sem.run_pure, Result.andThen_ok, run_load_sub w b off ty n k td hc hu htd hi]
/-- a whole block is loaded -/
theorem two_row {d : Tmp} (hd : o.dst = some d) (ty : TypeId) (x : Operand) (ho : o.op = .load ty x) (b : Nat) (hx : a.eval x = .pointer (some ⟨b, 0, none⟩)) (v : TypeId) (cs : Array Value) (td : TypeDesc) (hB : Blk w b v cs)
    (hu : P.underlying ty = some td) (htd : (match td with | .struct _ | .array _ _ => true | _ => false) = true) (hi : (P.info? ty).map (·.size) = some cs.size) (hv : V i (.agg cs) w) : Owes P V (R2 A B t u f g) i o a w Q := by
  refine two_val hd (v := .agg cs) ?_ hv
  unfold execOp
  simp only [ho, hx, Instr.loadAt, Instr.sureAddr, Sem.run_bind, Sem.run_pure, Result.andThen_ok, run_loadVar_row w b v ty cs (0, 0) td hB hu htd hi]
theorem two_build {d : Tmp} (hd : o.dst = some d) (T : TypeId) (ps : List (Nat × Operand)) (ho : o.op = .build T ps.toArray) (xs : List (Nat × Value)) (hx : ps.map (fun p => (p.1, a.eval p.2)) = xs) (c : Array Value) (hb : ∀ w, (Instr.build T xs.toArray).run P w = .ok (.agg c) w) (hv : V i (.agg c) w) : Owes P V (R2 A B t u f g) i o a w Q := by
  refine two_val hd (v := .agg c) ?_ hv
  unfold execOp
  subst hx
  simp only [ho, List.map_toArray, Sem.run_bind, hb w, Result.andThen_ok]
  rfl
theorem two_store1 (hAB : A ≠ B) (hd : o.dst = none) (ty : TypeId) (x y : Operand) (ho : o.op = .store ty x y) (hx : a.eval x = .pointer (some ⟨A, 0, none⟩)) (hy : a.eval y = .agg f) (cur : Array Value) (hB : Blk w A t cur) (hc : cur.size = f.size) (hi : (P.info? ty).map (·.size) = some f.size) (h1 : f.all (·.oneCell') = true)
    (hv : ∀ w', Blk w' A t f → V i undef w') : Owes P V (R2 A B t u f g) i o a w Q := by
  unfold Owes Oper.wp execOp
  simp only [ho, hx, hy, Sem.run_bind, Instr.storeAt, Instr.sureAddr, Sem.run_pure, Result.andThen, run_storeVar_row w A t ty cur f hB hi hc h1]
  exact ⟨undef, rfl, by rw [hd]; exact hv _ (hB.row f), rfl, rfl, rfl, by rw [setRow_size]; exact Nat.le_refl _, fun b hb _ _ => setRow_heap _ _ _ _ hb, fun _ hc => .inr (hc.row f), fun _ hc => .inl (hc.rowFar (fun e => hAB e.symm) f)⟩
theorem two_store2 (hAB : A ≠ B) (hd : o.dst = none) (ty : TypeId) (x y : Operand) (ho : o.op = .store ty x y) (hx : a.eval x = .pointer (some ⟨B, 0, none⟩)) (hy : a.eval y = .agg g) (cur : Array Value) (hB : Blk w B u cur) (hc : cur.size = g.size) (hi : (P.info? ty).map (·.size) = some g.size) (h1 : g.all (·.oneCell') = true)
    (hv : ∀ w', Blk w' B u g → V i undef w') : Owes P V (R2 A B t u f g) i o a w Q := by
  unfold Owes Oper.wp execOp
  simp only [ho, hx, hy, Sem.run_bind, Instr.storeAt, Instr.sureAddr, Sem.run_pure, Result.andThen, run_storeVar_row w B u ty cur g hB hi hc h1]
  exact ⟨undef, rfl, by rw [hd]; exact hv _ (hB.row g), rfl, rfl, rfl, by rw [setRow_size]; exact Nat.le_refl _, fun b _ hb _ => setRow_heap _ _ _ _ hb, fun _ hc => .inl (hc.rowFar hAB g), fun _ hc => .inr (hc.row g)⟩
end
/-- a fresh block of its own, from n on -/
def isB (n : Nat) (t : TypeId) (cs : Array Value) : Value → World → Prop := fun v w => ∃ b, v = .pointer (some ⟨b, 0, none⟩) ∧ n ≤ b ∧ Blk w b t cs
theorem isB_mono (n : Nat) (t : TypeId) (cs : Array Value) : Mono (isB n t cs) := fun _ _ _ ⟨b, h1, h2, h3⟩ hw => ⟨b, h1, h2, h3.grow hw⟩
section
variable {P : Program} {Q : Exit → Act → World → Prop} {V : Nat → Value → World → Prop} {i : Nat} {o : Oper} {a : Act} {w : World}
theorem rel_load (ty : TypeId) (x : Operand) (ho : o.op = .load ty x) (b off : Nat) (hx : a.eval x = .pointer (some ⟨b, off, none⟩)) (n : Nat) (k : Nat → Value) (td : TypeDesc) (hc : ∀ j, j < n → w.cell? ⟨b, off + j, none⟩ = some (k j))
    (hu : P.underlying ty = some td) (htd : (match td with | .struct _ | .array _ _ => true | _ => false) = true) (hi : (P.info? ty).map (·.size) = some n) (hv : V i (.agg (valL n k).toArray) w) : o.wp P a w (fun a' w' => ∃ v, a' = a.put o.dst v ∧ V i v w' ∧ Ext w w') Q := by
  refine rel_val (v := .agg (valL n k).toArray) ?_ hv
  unfold execOp
  simp only [ho, hx, Instr.loadAt, Instr.sureAddr, Sem.run_bind, Sem.run_pure, Result.andThen_ok, run_load_sub w b off ty n k td hc hu htd hi]
theorem rel_build (T : TypeId) (ps : List (Nat × Operand)) (ho : o.op = .build T ps.toArray) (xs : List (Nat × Value)) (hx : ps.map (fun p => (p.1, a.eval p.2)) = xs) (c : Array Value) (hb : ∀ w, (Instr.build T xs.toArray).run P w = .ok (.agg c) w) (hv : V i (.agg c) w) : o.wp P a w (fun a' w' => ∃ v, a' = a.put o.dst v ∧ V i v w' ∧ Ext w w') Q := by
  refine rel_val (v := .agg c) ?_ hv
  unfold execOp
  subst hx
  simp only [ho, List.map_toArray, Sem.run_bind, hb w, Result.andThen_ok]
  rfl
end
/-- what has run is what 'putAll' says -/
theorem act_putAll {l : List Oper} {a a0 : Act} (hS3 : (l.map (·.dst)).Nodup) (_ : ∀ i, i < l.length → ∃ d, dstO l i = some d ∧ d < a0.tmps.size) (hsz : a.tmps.size = a0.tmps.size) (hdf : a.defers = a0.defers)
    (hfrm : ∀ t, (∀ i, dstO l i ≠ some t) → a.tmps.getD t undef = a0.tmps.getD t undef) : a = putAll l 0 (fun i => a.tmps.getD ((dstO l i).getD 0) undef) a0 := by
  obtain ⟨tm, df⟩ := a
  have h1 := putAll_df l 0 (fun i => tm.getD ((dstO l i).getD 0) undef) a0
  have h2 : df = (putAll l 0 (fun i => tm.getD ((dstO l i).getD 0) undef) a0).defers := by rw [h1.1]; exact hdf
  have h3 : tm = (putAll l 0 (fun i => tm.getD ((dstO l i).getD 0) undef) a0).tmps := by
    apply Array.ext
    · rw [h1.2]; exact hsz
    · intro t ht1 ht2
      have key : tm.getD t undef = (putAll l 0 (fun i => tm.getD ((dstO l i).getD 0) undef) a0).tmps.getD t undef := by
        by_cases hex : ∃ i, dstO l i = some t
        · obtain ⟨i, hi⟩ := hex
          have hts : t < a0.tmps.size := by simp only at hsz; omega
          rw [putAll_at l 0 _ a0 i t hS3 hi hts]
          simp [hi]
        · have hne : ∀ i, dstO l i ≠ some t := fun i hi => hex ⟨i, hi⟩
          rw [putAll_off _ _ _ _ _ fun o ho he => by
            obtain ⟨i, hi, hio⟩ := List.getElem_of_mem ho
            exact hne i (by simp [dstO, List.getElem?_eq_getElem hi, hio, he])]
          exact hfrm t hne
      rw [Array.getD_eq_getD_getElem?, Array.getD_eq_getD_getElem?, Array.getElem?_eq_getElem ht1, Array.getElem?_eq_getElem ht2] at key
      exact key
  generalize putAll l 0 (fun i => tm.getD ((dstO l i).getD 0) undef) a0 = b at *
  cases b
  simp only at h2 h3
  rw [← h2, ← h3]
section
variable {P : Program} {Q : Exit → Act → World → Prop}
/-- a region that draws its order and whose last operation stores: the walk goes on with known slots -/
theorem wp_region_rel2 {id : Nat} {a0 : Act} {w0 : World} {ops : Array Oper} (n : Nat) (last : Oper) (he : ops.toList = ops.toList.take n ++ [last]) (V : Nat → Value → World → Prop) (hm : P.follows .mixedOrders = true) (hS : relB (ops.toList.take n) last a0.tmps.size = true)
    (hmono : ∀ i v w w', V i v w → Ext w w' → V i v w')
    (hop : ∀ (i : Nat) (o : Oper), (ops.toList.take n)[i]? = some o → ∀ (a : Act) (w : World), a.tmps.size = a0.tmps.size → a.defers = a0.defers → (∀ t, (∀ i, dstO (ops.toList.take n) i ≠ some t) → a.tmps.getD t undef = a0.tmps.getD t undef) → Ext w0.drew w →
      (∀ e ∈ o.after.toList, Region.binds .any e = true → ∀ d, dstO (ops.toList.take n) e.on = some d → V e.on (a.tmps.getD d undef) w) → o.wp P a w (fun a' w' => ∃ v, a' = a.put o.dst v ∧ V i v w' ∧ Ext w w') Q)
    (hlast : ∀ (vs : Nat → Value) (w : World), Ext w0.drew w → (∀ i, i < (ops.toList.take n).length → V i (vs i) w) → last.wp P (putAll (ops.toList.take n) 0 vs a0) w (fun a' w' => Q .normal a' w') Q) : (Code.region id ops true).wp P Q a0 w0 := by
  refine wp_region_rel' n last he V hm hS hmono hop fun a w hsz hdf hfrm hE hval => ?_
  have hS' := hS
  unfold relB at hS'
  simp only [Bool.and_eq_true, List.all_eq_true, decide_eq_true_eq, List.mem_range] at hS'
  obtain ⟨⟨⟨⟨_, hS2⟩, hS3⟩, _⟩, _⟩ := hS'
  have hdst : ∀ i, i < (ops.toList.take n).length → ∃ d, dstO (ops.toList.take n) i = some d ∧ d < a0.tmps.size := by
    intro i hi
    have := hS2 (ops.toList.take n)[i] (List.getElem_mem hi)
    cases hh : (ops.toList.take n)[i].dst with
    | none => rw [hh] at this; cases this
    | some d => rw [hh] at this; exact ⟨d, by unfold dstO; rw [List.getElem?_eq_getElem hi]; exact hh, by simpa using this⟩
  rw [act_putAll hS3 hdst hsz hdf hfrm]
  refine hlast _ w hE fun i hi => ?_
  obtain ⟨d, hd, _⟩ := hdst i hi
  have := hval i d hi hd
  simpa [hd] using this
end
theorem results_cell2 {P : Program} {fn : Func} {p q : Tmp} {t1 t2 : TypeId} (h : fn.results = #[.cell p t1, .cell q t2]) (tmps : Array Value) (w : World) (g1 g2 : Nat) (u1 u2 : TypeId) (c1 c2 : Array Value) (f1 f2 : Nat × Nat) (d1 d2 : TypeDesc)
    (hp : tmps.getD p undef = .pointer (some ⟨g1, 0, none⟩)) (hq : tmps.getD q undef = .pointer (some ⟨g2, 0, none⟩)) (hg1 : w.heap[g1]? = some (.cells c1 u1 f1)) (hg2 : w.heap[g2]? = some (.cells c2 u2 f2))
    (hu1 : P.underlying t1 = some d1) (hd1 : (match d1 with | .struct _ | .array _ _ => true | _ => false) = true) (hi1 : (P.info? t1).map (·.size) = some c1.size)
    (hu2 : P.underlying t2 = some d2) (hd2 : (match d2 with | .struct _ | .array _ _ => true | _ => false) = true) (hi2 : (P.info? t2).map (·.size) = some c2.size) :
    (results fn tmps).run P w = .ok (.tuple #[.agg c1, .agg c2]) w := by
  have hp' : tmps[p]?.getD undef = .pointer (some ⟨g1, 0, none⟩) := by simpa using hp
  have hq' : tmps[q]?.getD undef = .pointer (some ⟨g2, 0, none⟩) := by simpa using hq
  simp [results, h, hp', hq', asAddr, run_loadVar_row w g1 u1 t1 c1 f1 d1 hg1 hu1 hd1 hi1, run_loadVar_row w g2 u2 t2 c2 f2 d2 hg2 hu2 hd2 hi2]
theorem results_cell3 {P : Program} {fn : Func} {p q r : Tmp} {t1 t2 : TypeId} (h : fn.results = #[.cell p t1, .cell q t2, .tmp r]) (tmps : Array Value) (w : World) (g1 g2 : Nat) (u1 u2 : TypeId) (c1 c2 : Array Value) (f1 f2 : Nat × Nat) (d1 d2 : TypeDesc)
    (hp : tmps.getD p undef = .pointer (some ⟨g1, 0, none⟩)) (hq : tmps.getD q undef = .pointer (some ⟨g2, 0, none⟩)) (hg1 : w.heap[g1]? = some (.cells c1 u1 f1)) (hg2 : w.heap[g2]? = some (.cells c2 u2 f2))
    (hu1 : P.underlying t1 = some d1) (hd1 : (match d1 with | .struct _ | .array _ _ => true | _ => false) = true) (hi1 : (P.info? t1).map (·.size) = some c1.size)
    (hu2 : P.underlying t2 = some d2) (hd2 : (match d2 with | .struct _ | .array _ _ => true | _ => false) = true) (hi2 : (P.info? t2).map (·.size) = some c2.size) :
    (results fn tmps).run P w = .ok (.tuple #[.agg c1, .agg c2, tmps.getD r undef]) w := by
  have hp' : tmps[p]?.getD undef = .pointer (some ⟨g1, 0, none⟩) := by simpa using hp
  have hq' : tmps[q]?.getD undef = .pointer (some ⟨g2, 0, none⟩) := by simpa using hq
  simp [results, h, hp', hq', asAddr, run_loadVar_row w g1 u1 t1 c1 f1 d1 hg1 hu1 hd1 hi1, run_loadVar_row w g2 u2 t2 c2 f2 d2 hg2 hu2 hd2 hi2]
end Go.Proofs.Ytfdcapblgdlkaaa
