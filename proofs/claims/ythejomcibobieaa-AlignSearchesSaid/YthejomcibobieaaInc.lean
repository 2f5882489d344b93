/- Maps keyed by structs, of numbers: m[k]++ as the translation lays it (a look-up, the entry, the store into it), in a region that draws its order. -/
import Derived.Maps.RangeWalk
import Derived.Maps.OwnSet
import Derived.WideKeyEntry
import Derived.Test.YthejomcibobieaaRel
import Derived.Test.YthejomcibobieaaSlices
namespace Go.Proofs.Ythejomcibobieaa
open Go.RowKit Go.ChangeMaps Go.MapKept Go.WideElems
open Go.Maps (Keyed)

section
variable {H : Type} {P : Program} {w w2 : World} {t k e : TypeId} {B n : Nat} {D : DataW H}
theorem own_same {R : Value → Option (DataW H × List MemPlace)} (h : w.ownsMap P k R B n D) (hb : w2.heap[B]? = w.heap[B]?) : w2.ownsMap P k R B n D := by
  obtain ⟨es, clock, h1, r⟩ := h
  exact ⟨es, clock, hb.trans h1, r⟩
theorem set_same (w : World) {B : Nat} (h : B < w.heap.size) (o : Obj) : (setBlock w B o).heap[B]? = some o := by simp [setBlock, h]
theorem grown_block (w : World) (B : Nat) (o : Obj) : w.grownBy (setBlock w B o) (some B) := ⟨rfl, rfl, rfl, by simp [setBlock], fun i _ hi => by
  show (w.heap.setIfInBounds B o)[i]? = w.heap[i]?
  rw [Array.getElem?_setIfInBounds_ne (fun e => hi (by rw [e]))]⟩
/-- what the parts of 'm[k]++' do -/
structure IncO (P : Program) (t : TypeId) (B : Nat) (key : Value) (c x : Int) (st : Nat) (o0 o1 o2 : Obj) : Prop where
  look0 : ∀ w : World, w.heap[B]? = some o0 → (Instr.lookup t (.map (some B)) key false).run P w = .ok (.int .i64 c) w
  look1 : ∀ w : World, w.heap[B]? = some o1 → (Instr.lookup t (.map (some B)) key false).run P w = .ok (.int .i64 c) w
  ent : ∀ w : World, w.heap[B]? = some o0 → (Instr.mapEntry t (.map (some B)) key).run P w = .ok (.tuple #[.int .i64 c, goInt st]) (setBlock w B o1)
  sto : ∀ w : World, w.heap[B]? = some o1 → (Instr.entryStore t (.map (some B)) (goInt st) (.int .i64 x)).run P w = .ok () (setBlock w B o2)
  n0 : o2 ≠ o0
  n1 : o2 ≠ o1
theorem inc_parts (K : WideMaps.KeyLaw P k) (ht : P.underlying t = some (.map k e)) (he : P.underlying e = some (.int .i64)) (hz : ∀ u : World, (zeroValue e).run P u = .ok (.int .i64 0) u) (h : w.ownsMap P k (plainElem P e) B n D) (hn : n + 1 < maxLen) {key : Value} {kl : Lit} (hkey : keyOf P k key = some kl) (x : Int) (hx : (Lit.int .i64 x).wf = true)
    {c : Int} (hc : D.atKey kl (.lit (.int .i64 0)) = .lit (.int .i64 c)) (hne : x ≠ c) :
    ∃ o0 st o1 o2, w.heap[B]? = some o0 ∧ IncO P t B key c x st o0 o1 o2 ∧ ∀ w2 : World, w2.heap[B]? = some o2 → w2.ownsMap P k (plainElem P e) B (n + 1) (D.put kl (.lit (.int .i64 x))) := by
  have hh := h
  obtain ⟨es, clock, hb, F, hs, hD⟩ := h
  obtain ⟨s1, s2, s3⟩ := F.stamped
  have KK := Keyed.of_law K
  have hlt : B < w.heap.size := hh.lt
  have look : ∀ (D' : DataW H) (n' : Nat) (c' : Int) (w2 : World), w2.ownsMap P k (plainElem P e) B n' D' → D'.atKey kl (.lit (.int .i64 0)) = .lit (.int .i64 c') → (Instr.lookup t (.map (some B)) key false).run P w2 = .ok (.int .i64 c') w2 := by
    intro D' n' c' w2 hw2 hc'
    obtain ⟨d, hr, hd, -⟩ := hw2.lookup_int KK ht he (hz w2) hkey
    rw [hc'] at hd
    injection hd with hd
    injection hd with _ hd
    rw [hd]
    exact hr
  have upd : ∀ (y : Int), (Lit.int .i64 y).wf = true → ∃ w', (Instr.mapUpdate t (.map (some B)) key (.int .i64 y)).run P w = .ok () w' ∧ w'.ownsMap P k (plainElem P e) B (n + 1) (D.put kl (.lit (.int .i64 y))) := fun y hy => by
    obtain ⟨w', h1, h2, -⟩ := hh.update KK ht (by omega) hkey (plainElem_int he hy)
    exact ⟨w', h1, h2⟩
  have hM : Maps.IsMap D := hh.isMap
  have atp : ∀ y : Int, (D.put kl (.lit (.int .i64 y))).atKey kl (.lit (.int .i64 0)) = .lit (.int .i64 y) := fun y => Maps.atKey_put_same hM (KK.key hkey) _ _
  have diff : ∀ (w1 w2 : World) (D1 D2 : DataW H) (m1 m2 : Nat) (c1 c2 : Int), w1.ownsMap P k (plainElem P e) B m1 D1 → w2.ownsMap P k (plainElem P e) B m2 D2 → w1.heap[B]? = w2.heap[B]? → D1.atKey kl (.lit (.int .i64 0)) = .lit (.int .i64 c1) → D2.atKey kl (.lit (.int .i64 0)) = .lit (.int .i64 c2) → c1 = c2 := by
    intro w1 w2 D1 D2 m1 m2 c1 c2 h1 h2 he12 q1 q2
    have r1 := look _ _ _ _ (own_same h1 he12.symm) q1
    have r2 := look _ _ _ _ h2 q2
    rw [r1] at r2
    injection r2 with r2
    injection r2
  rcases K.find w hkey es.toList F.keys with ⟨h1, h2⟩ | ⟨j, e0, h1, h2, h3⟩
  · obtain ⟨w1, u1, u2⟩ := upd 0 (by decide)
    obtain ⟨w2', u3, u4⟩ := upd x hx
    have run : ∀ y : Int, (Instr.mapUpdate t (.map (some B)) key (.int .i64 y)).run P w = .ok () (setBlock w B (.map (es.push ⟨key, .int .i64 y, clock⟩) (clock + 1))) := fun y => by
      simp [Instr.mapUpdate, run_underlying ht, MapKept.run_getObj_map hb, K.check w false hkey, h1, MapKept.run_setObj_map _ hb, Result.andThen, setBlock]
    rw [run] at u1 u3
    injection u1 with _ u1
    injection u3 with _ u3
    subst u1
    subst u3
    have hc0 : c = 0 := by
      have q := look _ _ _ w hh hc
      simp [Instr.lookup, run_underlying ht, MapKept.run_getObj_map hb, K.check w es.isEmpty hkey, h1, hz, Result.andThen] at q
      exact q.symm
    subst hc0
    have own1 : ∀ w2 : World, w2.heap[B]? = some (.map (es.push ⟨key, .int .i64 0, clock⟩) (clock + 1)) → w2.ownsMap P k (plainElem P e) B (n + 1) (D.put kl (.lit (.int .i64 0))) := fun w2 h => own_same u2 (h.trans (set_same w hlt _).symm)
    have own2 : ∀ w2 : World, w2.heap[B]? = some (.map (es.push ⟨key, .int .i64 x, clock⟩) (clock + 1)) → w2.ownsMap P k (plainElem P e) B (n + 1) (D.put kl (.lit (.int .i64 x))) := fun w2 h => own_same u4 (h.trans (set_same w hlt _).symm)
    refine ⟨_, clock, .map (es.push ⟨key, .int .i64 0, clock⟩) (clock + 1), .map (es.push ⟨key, .int .i64 x, clock⟩) (clock + 1), hb, ⟨fun w2 h => look _ _ _ _ (own_same hh (h.trans hb.symm)) hc, fun w2 h => look _ _ _ _ (own1 w2 h) (atp 0), fun w2 h => ?_, fun w2 h => ?_, fun h => ?_, fun h => ?_⟩, own2⟩
    · have hf := K.find w2 hkey es.toList F.keys
      rcases hf with ⟨f1, -⟩ | ⟨j, e0, f1, f2, f3⟩
      · simp [Instr.mapEntry, run_underlying ht, MapKept.run_getObj_map h, K.check w2 false hkey, f1, hz, MapKept.run_setObj_map _ h, Result.andThen, setBlock, goInt]
      · exact absurd f3 (h2 e0 (List.mem_of_getElem? f2))
    · have hidx : (es.push ⟨key, .int .i64 0, clock⟩).findIdx? (fun e => ((e.born : Nat) : Int) == ((clock : Nat) : Int)) = some es.size := by
        rw [findIdx_arr]
        have := findIdx_born (l := (es.push ⟨key, .int .i64 0, clock⟩).toList) (j := es.size) (e0 := ⟨key, .int .i64 0, clock⟩) (by
          simp only [Array.toList_push, List.map_append, List.map_cons, List.map_nil]
          refine List.nodup_append.2 ⟨s2, by simp, fun a ha c hc e1 => ?_⟩
          simp only [List.mem_singleton] at hc
          obtain ⟨y, hy, rfl⟩ := List.mem_map.1 ha
          have := s1 y hy
          omega) (by simp)
        exact this
      have hmod : (es.push ⟨key, .int .i64 0, clock⟩).modify es.size (fun e => { e with val := .int .i64 x }) = es.push ⟨key, .int .i64 x, clock⟩ := by
        apply Array.ext'
        rw [Array.toList_modify, Array.toList_push, Array.toList_push, ← Array.length_toList, modify_last]
      simp [Instr.entryStore, MapKept.run_getObj_map h, asInt, asIntOf, goInt, hidx, hmod, MapKept.run_setObj_map _ h, Result.andThen, setBlock]
    · exact hne (diff _ _ _ _ _ _ _ _ (own2 (setBlock w B _) (set_same w hlt _)) hh (by rw [set_same w hlt, h, hb]) (atp x) hc)
    · exact hne (diff _ _ _ _ _ _ _ _ (own2 (setBlock w B _) (set_same w hlt _)) (own1 (setBlock w B _) (set_same w hlt _)) (by rw [set_same w hlt, set_same w hlt, h]) (atp x) (atp 0))
  · have hj : es[j]? = some e0 := by simpa using h2
    have hsame : es.modify j (fun e => { e with key := key }) = es := by
      apply Array.ext'
      rw [Array.toList_modify, modify_eq_set _ _ _ _ h2]
      have : ({ e0 with key := key } : MapEntry) = e0 := by rw [← h3]
      rw [this]
      exact set_self _ _ _ h2
    have hv0 : e0.val = .int .i64 c := by
      have q := look _ _ _ w hh hc
      simp [Instr.lookup, run_underlying ht, MapKept.run_getObj_map hb, K.check w es.isEmpty hkey, h1, Result.andThen] at q
      exact q
    obtain ⟨w2', u3, u4⟩ := upd x hx
    have hmod : es.modify j (fun e => { e with val := .int .i64 x }) = es.modify j (fun e' => { e' with key := key, val := .int .i64 x }) := by
      apply Array.ext'
      rw [Array.toList_modify, Array.toList_modify, modify_eq_set _ _ _ _ h2, modify_eq_set _ _ _ _ h2, ← h3]
    have run : (Instr.mapUpdate t (.map (some B)) key (.int .i64 x)).run P w = .ok () (setBlock w B (.map (es.modify j (fun e => { e with val := .int .i64 x })) clock)) := by
      rw [hmod]
      simp [Instr.mapUpdate, run_underlying ht, MapKept.run_getObj_map hb, K.check w false hkey, h1, hj, h3, K.stays w hkey, MapKept.run_setObj_map _ hb, Result.andThen, setBlock]
    rw [run] at u3
    injection u3 with _ u3
    subst u3
    have own2 : ∀ w2 : World, w2.heap[B]? = some (.map (es.modify j (fun e => { e with val := .int .i64 x })) clock) → w2.ownsMap P k (plainElem P e) B (n + 1) (D.put kl (.lit (.int .i64 x))) := fun w2 h => own_same u4 (h.trans (set_same w hlt _).symm)
    refine ⟨_, e0.born, .map es clock, .map (es.modify j (fun e => { e with val := .int .i64 x })) clock, hb, ⟨fun w2 h => look _ _ _ _ (own_same hh (h.trans hb.symm)) hc, fun w2 h => look _ _ _ _ (own_same hh (h.trans hb.symm)) hc, fun w2 h => ?_, fun w2 h => ?_, fun h => ?_, fun h => ?_⟩, own2⟩
    · have hf := K.find w2 hkey es.toList F.keys
      rcases hf with ⟨-, f2⟩ | ⟨j2, e2, f1, f2, f3⟩
      · exact absurd h3 (f2 e0 (List.mem_of_getElem? h2))
      · have hkn : es.toList.Pairwise (fun a b => a.key ≠ b.key) := ((stamped_iff es clock).1 F.stamped).2.2
        have he2 : e2 = e0 := entry_eq_of_key hkn (List.mem_of_getElem? f2) (List.mem_of_getElem? h2) (f3.trans h3.symm)
        subst he2
        have hj2 : es[j2]? = some e2 := by simpa using f2
        have hsame2 : es.modify j2 (fun e => { e with key := key }) = es := by
          apply Array.ext'
          rw [Array.toList_modify, modify_eq_set _ _ _ _ f2]
          have : ({ e2 with key := key } : MapEntry) = e2 := by rw [← h3]
          rw [this]
          exact set_self _ _ _ f2
        simp [Instr.mapEntry, run_underlying ht, MapKept.run_getObj_map h, K.check w2 false hkey, f1, hj2, h3, K.stays w2 hkey, hsame2, MapKept.run_setObj_map _ h, Result.andThen, setBlock, hv0, goInt]
    · have hidx : es.findIdx? (fun e => ((e.born : Nat) : Int) == ((e0.born : Nat) : Int)) = some j := by
        rw [findIdx_arr]
        exact findIdx_born s2 h2
      simp [Instr.entryStore, MapKept.run_getObj_map h, asInt, asIntOf, goInt, hidx, MapKept.run_setObj_map _ h, Result.andThen, setBlock]
    · exact hne (diff _ _ _ _ _ _ _ _ (own2 (setBlock w B _) (set_same w hlt _)) hh (by rw [set_same w hlt, h, hb]) (atp x) hc)
    · exact hne (diff _ _ _ _ _ _ _ _ (own2 (setBlock w B _) (set_same w hlt _)) hh (by rw [set_same w hlt, h, hb]) (atp x) hc)
end
theorem grown_at {w w' : World} {B : Nat} (h : Ext w w') (hB : B < w.heap.size) : w'.heap[B]? = w.heap[B]? := h.block B hB
theorem at_lt {w : World} {B : Nat} {o : Obj} (h : w.heap[B]? = some o) : B < w.heap.size := by
  rcases Nat.lt_or_ge B w.heap.size with h1 | h1
  · exact h1
  · rw [Array.getElem?_eq_none h1] at h; cases h
/-- a region that draws its order, with the parts L (look-up), m (entry), s (store) of 'm[k]++' -/
theorem wp_region_inc {P : Program} {Q : Exit → Act → World → Prop} {id : Nat} {a0 : Act} {w0 : World} {ops : Array Oper} {t : TypeId} {B : Nat} {key : Value} {c x : Int} {st : Nat} {o0 o1 o2 : Obj} (hI : IncO P t B key c x st o0 o1 o2) (hB : w0.heap[B]? = some o0) (L m s : Nat) (ps : List (Value → World → Prop))
    (hmx : P.follows .mixedOrders = true) (hS : relB1 ops.toList a0.tmps.size = true) (hps : ∀ p ∈ ps, ∀ v w w', p v w → p v w') (hLm : L ≠ m) (hLs : L ≠ s) (hms : m ≠ s) (hd : depB ops.toList s m = true) (hdL : depB ops.toList s L = true)
    (hL : ∀ (o : Oper), ops.toList[L]? = some o → ∀ (a : Act) (w : World), (∀ t, (∀ i, dstO ops.toList i ≠ some t) → a.tmps.getD t undef = a0.tmps.getD t undef) → (∀ e ∈ o.after.toList, Region.binds .any e = true → Vof ps e.on (slotV ops.toList a e.on) w) →
      ∃ ta tb d, o.dst = some d ∧ o.op = .lookup t ta tb false ∧ a.eval ta = .map (some B) ∧ a.eval tb = key)
    (hm : ∀ (o : Oper), ops.toList[m]? = some o → ∀ (a : Act) (w : World), (∀ t, (∀ i, dstO ops.toList i ≠ some t) → a.tmps.getD t undef = a0.tmps.getD t undef) → (∀ e ∈ o.after.toList, Region.binds .any e = true → Vof ps e.on (slotV ops.toList a e.on) w) →
      ∃ ta tb d, o.dst = some d ∧ o.op = .mapEntry t ta tb ∧ a.eval ta = .map (some B) ∧ a.eval tb = key)
    (hs : ∀ (o : Oper), ops.toList[s]? = some o → ∀ (a : Act) (w : World), (∀ t, (∀ i, dstO ops.toList i ≠ some t) → a.tmps.getD t undef = a0.tmps.getD t undef) → (∀ e ∈ o.after.toList, Region.binds .any e = true → Vof ps e.on (slotV ops.toList a e.on) w) →
      ∃ ta tb tc, o.dst = none ∧ o.op = .entryStore t ta tb tc ∧ a.eval ta = .map (some B) ∧ a.eval tb = goInt st ∧ a.eval tc = .int .i64 x)
    (hpL : Vof ps L = isV (.int .i64 c)) (hpm : Vof ps m = isV (.tuple #[.int .i64 c, goInt st])) (hpss : Vof ps s = isV undef) (hme : ∀ o, ops.toList[s]? = some o → ∃ e ∈ o.after.toList, Region.binds .any e = true ∧ e.on = m)
    (hop : ∀ (i : Nat) (o : Oper), ops.toList[i]? = some o → i ≠ L → i ≠ m → i ≠ s → ∀ (a : Act) (w : World), (∀ t, (∀ i, dstO ops.toList i ≠ some t) → a.tmps.getD t undef = a0.tmps.getD t undef) → w0.drew.grownBy w (some B) →
      (∀ e ∈ o.after.toList, Region.binds .any e = true → Vof ps e.on (slotV ops.toList a e.on) w) → o.wp P a w (fun a' w' => ∃ v, a' = a.put o.dst v ∧ Vof ps i (match o.dst with | some _ => v | none => undef) w' ∧ Ext w w') Q)
    (hfin : ∀ (vs : Nat → Value) (w : World), w0.drew.grownBy w (some B) → w.heap[B]? = some o2 → (∀ i, i < ops.toList.length → Vof ps i (vs i) w) → Q .normal (putAll ops.toList 0 vs a0) w)
    (hsl : s < ops.toList.length) : (Code.region id ops true).wp P Q a0 w0 := by
  have hVof : ∀ i v w w', Vof ps i v w → Vof ps i v w' := by
    intro i v w w' hv
    unfold Vof at hv ⊢
    cases hp : ps[i]? with
    | none => trivial
    | some p => rw [hp] at hv; exact hps p (List.mem_of_getElem? hp) v w w' hv
  refine wp_region_rel3 (fun i v w => Vof ps i v w ∧ (i = m → w.heap[B]? = some o1 ∨ w.heap[B]? = some o2) ∧ (i = s → w.heap[B]? = some o2)) (fun i w => B < w.heap.size ∧ (i = m → w.heap[B]? = some o1 → o1 = o0) ∧ (i = s → w.heap[B]? = some o0 ∨ w.heap[B]? = some o1)) (fun w w' => w.grownBy w' (some B)) hmx hS (fun _ _ h => grown_ext h _) (fun _ _ _ h k => grown_trans h k) ?_ ?_ ?_ ?_ ?_
  · rintro i v w w' ⟨h1, h2, h3⟩ hE
    refine ⟨hVof _ _ _ _ h1, fun h => ?_, fun h => ?_⟩
    · rcases h2 h with q | q
      · exact .inl ((grown_at hE (at_lt q)).trans q)
      · exact .inr ((grown_at hE (at_lt q)).trans q)
    · exact (grown_at hE (at_lt (h3 h))).trans (h3 h)
  · rintro i w w' ⟨h1, h2, h3⟩ hE
    rw [grown_at hE h1]
    exact ⟨Nat.lt_of_lt_of_le h1 hE.size, h2, h3⟩
  · intro i
    exact ⟨at_lt hB, fun _ h => by rw [show w0.drew.heap[B]? = w0.heap[B]? from rfl, hB] at h; injection h with h; exact h.symm, fun _ => .inl hB⟩
  · intro i o ho a w hsz _ hfrm hT hNi hNd hdep
    have hdep' : ∀ e ∈ o.after.toList, Region.binds .any e = true → Vof ps e.on (slotV ops.toList a e.on) w := fun e he hb => (hdep e he hb).1
    by_cases h1 : i = L
    · subst h1
      obtain ⟨ta, tb, d, q1, q2, q3, q4⟩ := hL o ho a w hfrm hdep'
      have hrun : (Instr.lookup t (.map (some B)) key false).run P w = .ok (.int .i64 c) w := by
        rcases (hNd s hdL).2.2 rfl with q | q
        · exact hI.look0 w q
        · exact hI.look1 w q
      unfold Oper.wp
      simp only [execOp, q2, q3, q4, Sem.run_bind, Sem.run_pure, hrun, Result.andThen_ok]
      refine ⟨_, rfl, ⟨?_, fun h => absurd h hLm, fun h => absurd h hLs⟩, .inl (Ext.refl w)⟩
      rw [q1, hpL]
      rfl
    · by_cases h2 : i = m
      · subst h2
        obtain ⟨ta, tb, d, q1, q2, q3, q4⟩ := hm o ho a w hfrm hdep'
        have h0 : w.heap[B]? = some o0 := by
          rcases (hNd s hd).2.2 rfl with q | q
          · exact q
          · rw [hNi.2.1 rfl q] at q; exact q
        have hrun := hI.ent w h0
        have hlt := at_lt h0
        unfold Oper.wp
        simp only [execOp, q2, q3, q4, Sem.run_bind, Sem.run_pure, hrun, Result.andThen_ok]
        refine ⟨_, rfl, ⟨?_, fun _ => .inl (set_same w hlt o1), fun h => absurd h hms⟩, .inr ⟨grown_block w B o1, ?_, ?_⟩⟩
        · rw [q1, hpm]
          rfl
        · intro j hj hN
          exact ⟨by simpa [setBlock] using hN.1, fun h => absurd h hj, fun _ => .inr (set_same w hlt o1)⟩
        · intro j v hj hdj hv
          exact ⟨hVof _ _ _ _ hv.1, fun h => absurd h hj, fun h => by rw [h, hd] at hdj; cases hdj⟩
      · by_cases h3 : i = s
        · subst h3
          obtain ⟨ta, tb, tc, q1, q2, q3, q4, q5⟩ := hs o ho a w hfrm hdep'
          obtain ⟨e, he, hb, hem⟩ := hme o ho
          have h11 : w.heap[B]? = some o1 := by
            rcases (hdep e he hb).2.1 hem with q | q
            · exact q
            · rcases hNi.2.2 rfl with r | r
              · rw [q] at r; injection r with r; exact absurd r hI.n0
              · exact r
          have hrun := hI.sto w h11
          have hlt := at_lt h11
          unfold Oper.wp
          simp only [execOp, q2, q3, q4, q5, Sem.run_bind, Sem.run_pure, hrun, Result.andThen_ok]
          refine ⟨undef, by rw [q1], ⟨?_, fun h => absurd h h2, fun _ => set_same w hlt o2⟩, .inr ⟨grown_block w B o2, ?_, ?_⟩⟩
          · rw [q1, hpss]
            rfl
          · intro j hj hN
            refine ⟨by simpa [setBlock] using hN.1, fun _ h => ?_, fun h => absurd h hj⟩
            rw [set_same w hlt] at h
            injection h with h
            exact absurd h hI.n1
          · intro j v hj hdj hv
            exact ⟨hVof _ _ _ _ hv.1, fun _ => .inr (set_same w hlt o2), fun h => absurd h hj⟩
        · refine Oper.wp_mono ?_ (hop i o ho h1 h2 h3 a w hfrm hT hdep')
          rintro a' w' ⟨v, rfl, hv, hw⟩
          exact ⟨v, rfl, ⟨hv, fun h => absurd h h2, fun h => absurd h h3⟩, .inl hw⟩
  · intro vs w hT hv
    exact hfin vs w hT ((hv s hsl).2.2 rfl) fun i hi => (hv i hi).1
end Go.Proofs.Ythejomcibobieaa
