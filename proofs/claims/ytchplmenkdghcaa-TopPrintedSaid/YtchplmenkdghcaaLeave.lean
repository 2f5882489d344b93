/- A region that draws its order, in which one list is appended to and stored back into its field. -/
import Derived.Test.YtchplmenkdghcaaRel
import Derived.Test.YtchplmenkdghcaaSlices
import Derived.Test.YtchplmenkdghcaaTops
import Derived.Test.YtchplmenkdghcaaPairs
namespace Go.Proofs.Ytchplmenkdghcaa
open Go.RowKit
/-- an append: onto the list vL (n elements of the type e, the cells xs), m elements with the cells news; the list is the field p of the block gA, of the cells cs -/
structure App where
  B : Nat
  gA : Nat
  e : TypeId
  sz : Nat
  n : Nat
  m : Nat
  M : Nat
  vL : Value
  xs : List Value
  news : List Value
  cs : Array Value
  p : Nat
namespace App
structure ok (x : App) : Prop where
  ga : x.gA < x.B
  bm : x.B ≤ x.M
  own : ∀ g, x.vL.ownBlock = some g → g < x.M
  one : ∀ u ∈ x.news, u.oneCell' = true
  pos : 0 < x.m
  small : x.n + x.m ≤ 65536
  len : x.news.length = x.m * x.sz
structure T (x : App) (w w' : World) : Prop where
  os : w'.os = w.os
  tape : w'.tape = w.tape
  output : w'.output = w.output
  size : w.heap.size ≤ w'.heap.size
  block : ∀ b, b < w.heap.size → b ≠ x.gA → x.vL.ownBlock ≠ some b → w'.heap[b]? = w.heap[b]?
theorem T.of_ext {x : App} {w w' : World} (h : Ext w w') : x.T w w' := ⟨h.os, h.tape, h.output, h.size, fun b hb _ _ => h.block b hb⟩
theorem T.trans {x : App} {a b c : World} (h : x.T a b) (k : x.T b c) : x.T a c :=
  ⟨k.os.trans h.os, k.tape.trans h.tape, k.output.trans h.output, Nat.le_trans h.size k.size, fun g hg h1 h2 => (k.block g (Nat.lt_of_lt_of_le hg h.size) h1 h2).trans (h.block g hg h1 h2)⟩
def Nm (x : App) (w : World) : Prop := w.ownsRow x.B x.e x.sz x.vL x.n x.xs
def Ns (x : App) (w : World) : Prop := Blk w x.gA 45 x.cs
def Is (x : App) (v : Value) (w : World) : Prop := (∃ A c, v = .slice A (x.n + x.m) c) ∧ w.ownsRow x.B x.e x.sz v (x.n + x.m) (x.xs ++ x.news) ∧ (v.ownBlock = x.vL.ownBlock ∨ ∃ g, v.ownBlock = some g ∧ x.M ≤ g)
def St (x : App) (w : World) : Prop := ∃ v, x.Is v w ∧ Blk w x.gA 45 (x.cs.setIfInBounds x.p v)
/-- the new elements, in a block of their own -/
def New (x : App) : Value → World → Prop := fun v w => ∃ g, v = .slice (some ⟨g, 0, none⟩) x.m x.m ∧ x.M ≤ g ∧ Blk w g x.e x.news.toArray
/-- new blocks stay -/
def Step (x : App) (w w' : World) : Prop := w.heap.size ≤ w'.heap.size ∧ ∀ b, x.M ≤ b → b < w.heap.size → w'.heap[b]? = w.heap[b]?
structure Stab (x : App) (p : Value → World → Prop) : Prop where
  ext : ∀ v w w', p v w → Ext w w' → p v w'
  step : ∀ v w w', p v w → x.Step w w' → p v w'
theorem stab_val (x : App) (u : Value) : x.Stab (isV u) := ⟨fun _ _ _ h _ => h, fun _ _ _ h _ => h⟩
theorem stab_new (x : App) : x.Stab x.New :=
  ⟨fun _ _ _ ⟨g, e, h1, h2⟩ hw => ⟨g, e, h1, h2.grow hw⟩, fun _ _ _ ⟨g, e, h1, h2⟩ hw => ⟨g, e, h1, (hw.2 g h1 h2.lt).trans h2⟩⟩
theorem Vof_stab {x : App} {ps : List (Value → World → Prop)} (h : ∀ p ∈ ps, x.Stab p) (i : Nat) : x.Stab (Vof ps i) := by
  constructor
  · intro v w w' hv hw
    unfold Vof at hv ⊢
    cases hp : ps[i]? with
    | none => trivial
    | some p => rw [hp] at hv; exact (h p (List.mem_of_getElem? hp)).ext v w w' hv hw
  · intro v w w' hv hw
    unfold Vof at hv ⊢
    cases hp : ps[i]? with
    | none => trivial
    | some p => rw [hp] at hv; exact (h p (List.mem_of_getElem? hp)).step v w w' hv hw
theorem Is.grow {x : App} {v : Value} {w w' : World} (h : x.Is v w) (hw : Ext w w') : x.Is v w' := ⟨h.1, own_grow h.2.1 hw, h.2.2⟩
theorem St.grow {x : App} {w w' : World} (h : x.St w) (hw : Ext w w') : x.St w' := by
  obtain ⟨v, h1, h2⟩ := h
  exact ⟨v, h1.grow hw, h2.grow hw⟩
end App
theorem wp_region_app {P : Program} {Q : Exit → Act → World → Prop} {id : Nat} {a0 : Act} {w0 : World} {ops : Array Oper} (x : App) (hx : x.ok) (hM : x.M ≤ w0.heap.size) (m s : Nat) (ps : List (Value → World → Prop)) (hm : P.follows .mixedOrders = true) (hS : relB1 ops.toList a0.tmps.size = true)
    (hps : ∀ p ∈ ps, x.Stab p) (hms : m ≠ s) (hd : depB ops.toList s m = true) (hN1 : x.Nm w0) (hN2 : x.Ns w0)
    (hop : ∀ (i : Nat) (o : Oper), ops.toList[i]? = some o → i ≠ m → i ≠ s → ∀ (a : Act) (w : World), a.tmps.size = a0.tmps.size → (∀ t, (∀ i, dstO ops.toList i ≠ some t) → a.tmps.getD t undef = a0.tmps.getD t undef) → x.T w0.drew w → (depB ops.toList s i = true → x.Ns w) →
      (∀ e ∈ o.after.toList, Region.binds .any e = true → e.on ≠ m → e.on ≠ s → Vof ps e.on (slotV ops.toList a e.on) w) → o.wp P a w (fun a' w' => ∃ v, a' = a.put o.dst v ∧ Vof ps i (match o.dst with | some _ => v | none => undef) w' ∧ Ext w w') Q)
    (happ : ∀ (o : Oper), ops.toList[m]? = some o → ∀ (a : Act) (w : World), (∀ e ∈ o.after.toList, Region.binds .any e = true → e.on ≠ m → e.on ≠ s → Vof ps e.on (slotV ops.toList a e.on) w) →
      ∃ ta tb t d bytes, o.dst = some d ∧ o.op = .call { callee := .builtin .append, args := #[ta, tb], argTypes := #[t, t] } ∧ ElemInfo P t x.e x.sz bytes ∧ bytes ≤ 65536 ∧ a.eval ta = x.vL ∧ x.New (a.eval tb) w)
    (hst : ∀ (o : Oper), ops.toList[s]? = some o → ∀ (a : Act) (w : World), (∀ t, (∀ i, dstO ops.toList i ≠ some t) → a.tmps.getD t undef = a0.tmps.getD t undef) → (∀ e ∈ o.after.toList, Region.binds .any e = true → e.on ≠ m → e.on ≠ s → Vof ps e.on (slotV ops.toList a e.on) w) →
      ∀ A c, slotV ops.toList a m = .slice A (x.n + x.m) c → Blk w x.gA 45 x.cs → o.dst = none ∧ (execOp a.eval o).run P w = .ok .skip (w.setCell ⟨x.gA, x.p, none⟩ (.slice A (x.n + x.m) c)))
    (hfin : ∀ (vs : Nat → Value) (w : World), x.T w0.drew w → x.St w → (∀ i, i < ops.toList.length → i ≠ m → i ≠ s → Vof ps i (vs i) w) → Q .normal (putAll ops.toList 0 vs a0) w)
    (hml : m < ops.toList.length) (hsl : s < ops.toList.length) (hme : ∀ o, ops.toList[s]? = some o → ∃ e ∈ o.after.toList, Region.binds .any e = true ∧ e.on = m) : (Code.region id ops true).wp P Q a0 w0 := by
  have hsm : s ≠ m := fun e => hms e.symm
  refine wp_region_rel3 (fun i v w => if i = m then x.Is v w else if i = s then x.St w else Vof ps i v w) (fun i w => if i = m then x.Nm w else if i = s then x.Ns w else True) x.T hm hS (fun _ _ h => App.T.of_ext h) (fun _ _ _ h k => h.trans k) ?_ ?_ ?_ ?_ ?_
  · intro i v w w' hv hw
    by_cases h1 : i = m
    · simp only [h1, if_true] at hv ⊢; exact hv.grow hw
    · by_cases h2 : i = s
      · simp only [h2, if_true, if_neg hsm] at hv ⊢; exact hv.grow hw
      · simp only [h1, h2, if_false] at hv ⊢; exact (App.Vof_stab hps i).ext v w w' hv hw
  · intro i w w' hv hw
    by_cases h1 : i = m
    · simp only [h1, if_true] at hv ⊢; exact own_grow hv hw
    · by_cases h2 : i = s
      · simp only [h2, if_true, if_neg hsm] at hv ⊢; exact Blk.grow hv hw
      · simp only [h1, h2, if_false]
  · intro i
    by_cases h1 : i = m
    · simp only [h1, if_true]; exact hN1
    · by_cases h2 : i = s
      · simp only [h2, if_true, if_neg hsm]; exact hN2
      · simp only [h1, h2, if_false]
  · intro i o ho a w hsz _ hfrm hT hNi hNd hdep
    have hdep' : ∀ e ∈ o.after.toList, Region.binds .any e = true → e.on ≠ m → e.on ≠ s → Vof ps e.on (slotV ops.toList a e.on) w := by
      intro e he hb h1 h2
      have := hdep e he hb
      simpa only [h1, h2, if_false] using this
    by_cases h1 : i = m
    · subst h1
      simp only [if_true] at hNi ⊢
      obtain ⟨ta, tb, t, d, bytes, hdst, hop', hI, hby, hva, g, hvb, hg, hB⟩ := happ o ho a w hdep'
      have hle : x.B ≤ w.heap.size := by have := hT.size; have := hx.bm; simp at this ⊢; have h2 : w0.drew.heap.size = w0.heap.size := rfl; omega
      have hown : w.ownsRow (trunc w x.B).heap.size x.e x.sz x.vL x.n x.xs := by rw [trunc_size hle]; exact hNi
      have hsl : Slc w x.sz (some ⟨g, 0, none⟩) x.m x.news := by
        have := Slc.of_blk (n := x.m) (sz := x.sz) hB (by simp [hx.len])
        simpa using this
      obtain ⟨A', c', w', hrun, k1, k2, k3, k4⟩ := run_append_keep (trunc_ext hle) hI o.type hown x.m hx.pos hsl hx.one hx.small hby
      have hs0 : w0.heap.size ≤ w.heap.size := hT.size
      have hM' : x.M ≤ w.heap.size := by omega
      rw [trunc_size hle] at k1
      have hgd := hNi
      have hstep : x.T w w' := ⟨k3.os, k3.tape, k3.output, k3.size, fun b hb _ h2 => k3.block b hb (fun e => h2 e.symm)⟩
      have hblk : ∀ b, b < w.heap.size → x.vL.ownBlock ≠ some b → w'.heap[b]? = w.heap[b]? := fun b hb h2 => k3.block b hb (fun e => h2 e.symm)
      unfold Oper.wp
      have hex : (execOp a.eval o).run P w = .ok (.value (.slice A' (x.n + x.m) c')) w' := by
        unfold execOp
        simp only [hop', resolve, invoke, builtin, Sem.run_bind, Sem.run_pure, Result.andThen_ok, List.map_toArray, List.map_cons, List.map_nil, hva, hvb, hrun]
      rw [hex]
      refine ⟨_, rfl, ?_, .inr ⟨hstep, ?_, ?_⟩⟩
      · rw [hdst]
        refine ⟨⟨A', c', rfl⟩, k1, ?_⟩
        rcases k4 with h | h
        · exact .inl h
        · exact .inr ⟨_, h, hM'⟩
      · intro j hj
        simp only [hj, if_false]
        split
        · intro hB2
          refine (hblk x.gA (Blk.lt hB2) fun e => ?_).trans hB2
          have := (hNi.lt x.gA e).1
          have := hx.ga
          omega
        · exact fun _ => trivial
      · intro j v hj hdj hv
        simp only [hj, if_false] at hv ⊢
        by_cases h2 : j = s
        · subst h2
          rw [hd] at hdj; cases hdj
        · simp only [h2, if_false] at hv ⊢
          exact (App.Vof_stab hps j).step v w w' hv ⟨k3.size, fun b h1 h2 => hblk b h2 fun e => by have := hx.own b e; omega⟩
    · by_cases h2 : i = s
      · subst h2
        simp only [if_true, if_neg h1] at hNi ⊢
        obtain ⟨e, he, hb, hem⟩ := hme o ho
        have hv := hdep e he hb
        simp only [hem, if_true] at hv
        obtain ⟨⟨A, c, hvs⟩, hown, hnew⟩ := hv
        obtain ⟨hdst, hrun⟩ := hst o ho a w hfrm hdep' A c hvs hNi
        rw [hvs] at hown hnew
        have hga : x.gA < x.B := hx.ga
        have hstep : x.T w (w.setCell ⟨x.gA, x.p, none⟩ (.slice A (x.n + x.m) c)) := ⟨rfl, rfl, rfl, by simp [World.setCell], fun b hb h1 _ => Below.heap_setCell _ _ _ _ h1⟩
        unfold Oper.wp
        rw [hrun]
        refine ⟨undef, rfl, ⟨.slice A (x.n + x.m) c, ⟨⟨A, c, rfl⟩, ownsRow_setCell_below hown hga _, hnew⟩, Blk.set_ hNi x.p _⟩, .inr ⟨hstep, ?_, ?_⟩⟩
        · intro j hj
          by_cases h3 : j = m
          · simp only [h3, if_true]
            intro hN; exact ownsRow_setCell_below hN hga _
          · simp only [h3, hj, if_false]
            exact fun _ => trivial
        · intro j v hj hdj hv
          by_cases h3 : j = m
          · simp only [h3, if_true] at hv ⊢
            exact ⟨hv.1, ownsRow_setCell_below hv.2.1 hga _, hv.2.2⟩
          · simp only [h3, hj, if_false] at hv ⊢
            exact (App.Vof_stab hps j).step v w _ hv ⟨by simp [World.setCell], fun b h1 _ => Below.heap_setCell _ _ _ _ (by have := hx.bm; show b ≠ x.gA; omega)⟩
      · refine Oper.wp_mono ?_ (hop i o ho h1 h2 a w hsz hfrm hT (fun hds => by have := hNd s hds; simpa only [if_neg hsm, if_true] using this) hdep')
        rintro a' w' ⟨v, rfl, hv, hw⟩
        refine ⟨v, rfl, ?_, .inl hw⟩
        simp only [h1, h2, if_false]
        exact hv
  · intro vs w hT hv
    refine hfin vs w hT ?_ fun i hi h1 h2 => ?_
    · have := hv s hsl
      simpa only [if_neg hsm, if_true] using this
    · have := hv i hi
      simpa only [h1, h2, if_false] using this
end Go.Proofs.Ytchplmenkdghcaa
namespace Go.Proofs.Ytchplmenkdghcaa
open Go.RowKit
def appL (B gA : Nat) (vL : Value) (left : List Rs) (r : Rs) (cs : Array Value) (W : World) : App := ⟨B, gA, 70, 6, left.length, 1, W.heap.size + 1, vL, flatG Rs.cellsL left, r.cellsL, cs, 3⟩
/-- the state of a search in the block gA; its lists lie from B on -/
structure AlW (B gA : Nat) (s : St) (sc bd : Int) (vA vL : Value) (W : World) : Prop where
  blk : Blk W gA 45 #[.int .i64 sc, .int .i64 bd, vA, vL]
  att : W.ownsRow B 78 8 vA s.att.length (flatG At.cellsL s.att)
  left : W.ownsRow B 70 6 vL s.left.length (flatG Rs.cellsL s.left)
  ga : gA < B
  ne : ∀ g, vA.ownBlock = some g → vL.ownBlock ≠ some g
/-- only the block gA and the list v turn -/
structure KeepX (gA : Nat) (v : Value) (w w' : World) : Prop where
  os : w'.os = w.os
  tape : w'.tape = w.tape
  output : w'.output = w.output
  size : w.heap.size ≤ w'.heap.size
  block : ∀ b, b < w.heap.size → b ≠ gA → v.ownBlock ≠ some b → w'.heap[b]? = w.heap[b]?
theorem KeepX.refl (gA : Nat) (v : Value) (w : World) : KeepX gA v w w := ⟨rfl, rfl, rfl, Nat.le_refl _, fun _ _ _ _ => rfl⟩
theorem KeepX.of_ext {gA : Nat} {v : Value} {w w' : World} (h : Ext w w') : KeepX gA v w w' := ⟨h.os, h.tape, h.output, h.size, fun b hb _ _ => h.block b hb⟩
theorem KeepX.trans {gA : Nat} {v : Value} {a b c : World} (h : KeepX gA v a b) (k : KeepX gA v b c) : KeepX gA v a c :=
  ⟨k.os.trans h.os, k.tape.trans h.tape, k.output.trans h.output, Nat.le_trans h.size k.size, fun g hg h1 h2 => (k.block g (Nat.lt_of_lt_of_le hg h.size) h1 h2).trans (h.block g hg h1 h2)⟩
theorem KeepX.blk {gA : Nat} {v : Value} {w w' : World} (h : KeepX gA v w w') {g : Nat} {t : TypeId} {cs : Array Value} (hB : Blk w g t cs) (h1 : g ≠ gA) (h2 : v.ownBlock ≠ some g) : Blk w' g t cs := (h.block g hB.lt h1 h2).trans hB
theorem KeepX.old {gA : Nat} {v : Value} {w0 w w' : World} (h : KeepX gA v w w') (he : Ext w0 w) (h1 : w0.heap.size ≤ gA) (h2 : ∀ g, v.ownBlock = some g → w0.heap.size ≤ g) : Ext w0 w' :=
  ⟨h.os.trans he.os, h.tape.trans he.tape, h.output.trans he.output, Nat.le_trans he.size h.size, fun b hb => (h.block b (Nat.lt_of_lt_of_le hb he.size) (by omega) (fun e => by have := h2 b e; omega)).trans (he.block b hb)⟩
theorem App.T.keep {x : App} {w w' : World} (h : x.T w w') : KeepX x.gA x.vL w w' := ⟨h.os, h.tape, h.output, h.size, h.block⟩
set_option maxRecDepth 100000 in
set_option maxHeartbeats 8000000 in
theorem leave_any (c : Cl) (hc : c.ok) (lp lq : List Mi) (k : Bk) (hk : isBlk c k = true) (hp : ∀ m ∈ lp, m.ok) (hq : ∀ m ∈ lq, m.ok) (hnp : lp.length ≤ 100) (hnq : lq.length ≤ 100) (Ap Aq : Option Addr) (cp cq : Nat)
    (B gA gP gQ gC : Nat) (w0 W : World) (hP : Pts w0 Ap lp) (hQ : Pts w0 Aq lq) (hE0 : Ext w0 W) (h0g : w0.heap.size ≤ gA) (_ : w0.heap.size ≤ B) (left : List Rs) (sc bd : Int) (vA vL : Value)
    (hA : Blk W gA 45 #[.int .i64 sc, .int .i64 bd, vA, vL]) (hL : W.ownsRow B 70 6 vL left.length (flatG Rs.cellsL left)) (hgA : gA < B) (hBW : B ≤ W.heap.size) (hn : left.length ≤ 60000)
    (hbP : Blk W gP 38 #[.slice Ap lp.length cp]) (hbQ : Blk W gQ 38 #[.slice Aq lq.length cq]) (hbC : Blk W gC 26 #[.int .i64 c.turns, .int .i64 c.shift, .int .i64 c.elastic, .int .i64 c.reach, .int .i64 c.spread]) (hgP : gP < B ∧ gP ≠ gA) (hgQ : gQ < B ∧ gQ ≠ gA) (hgC : gC < B ∧ gC ≠ gA) :
    Calls Try.prog 19 #[k.val, .pointer (some ⟨gA, 0, none⟩), .pointer (some ⟨gP, 0, none⟩), .pointer (some ⟨gQ, 0, none⟩), .pointer (some ⟨gC, 0, none⟩)] W fun e W' => (∃ v, e = .returned v) ∧ ∃ vL', Blk W' gA 45 #[.int .i64 sc, .int .i64 bd, vA, vL'] ∧
      W'.ownsRow B 70 6 vL' (left.length + 1) (flatG Rs.cellsL (left ++ [⟨k, bndK c lp lq k⟩])) ∧ KeepX gA vL W W' ∧ (vL'.ownBlock = vL.ownBlock ∨ ∃ g, vL'.ownBlock = some g ∧ W.heap.size ≤ g) := by
  obtain ⟨bd2, hbd⟩ : ∃ bd2, bd2 = bndK c lp lq k := ⟨_, rfl⟩
  rw [← hbd]
  have CB := Lib.hid (fun w' (h : Ext w0 w') => show Calls Try.prog 20 #[.slice Ap lp.length cp, .slice Aq lq.length cq, c.val, k.val] w' fun e w'' => e = .returned (.int .i64 bd2) ∧ Ext w' w'' from by rw [hbd]; exact bound_any c hc lp lq k hk hp hq hnp hnq Ap Aq cp cq w' (hP.grow h) (hQ.grow h))
  have hown : ∀ g, vL.ownBlock = some g → B ≤ g ∧ g < W.heap.size := fun g e => hL.lt g e
  clear hbd hc hk hp hq hP hQ hnp hnq
  have hV : Ext W (W.alloc (.cells #[.int .i64 k.turn, .int .i64 k.x0, .int .i64 k.y0, .int .i64 k.x1, .int .i64 k.y1] 67)) := (Ext.refl W).alloc _
  have HSz := Lib.hid (show (W.alloc (.cells #[.int .i64 k.turn, .int .i64 k.x0, .int .i64 k.y0, .int .i64 k.x1, .int .i64 k.y1] 67)).heap.size = W.heap.size + 1 by simp)
  have HOk : Hid ((appL B gA vL left ⟨k, bd2⟩ #[.int .i64 sc, .int .i64 bd, vA, vL] W).ok) := Lib.hid ⟨hgA, by show B ≤ W.heap.size + 1; omega, fun g e => by have := (hown g e).2; show g < W.heap.size + 1; omega, fun u hu => rs_one _ u hu, by show 0 < 1; omega, by show left.length + 1 ≤ 65536; omega, rfl⟩
  have HN1 : Hid ((appL B gA vL left ⟨k, bd2⟩ #[.int .i64 sc, .int .i64 bd, vA, vL] W).Nm (W.alloc (.cells #[.int .i64 k.turn, .int .i64 k.x0, .int .i64 k.y0, .int .i64 k.x1, .int .i64 k.y1] 67))) := Lib.hid (own_grow hL hV)
  have HN2 : Hid ((appL B gA vL left ⟨k, bd2⟩ #[.int .i64 sc, .int .i64 bd, vA, vL] W).Ns (W.alloc (.cells #[.int .i64 k.turn, .int .i64 k.x0, .int .i64 k.y0, .int .i64 k.x1, .int .i64 k.y1] 67))) := Lib.hid (hA.grow hV)
  have HK : Hid (∀ w, (appL B gA vL left ⟨k, bd2⟩ #[.int .i64 sc, .int .i64 bd, vA, vL] W).T (W.alloc (.cells #[.int .i64 k.turn, .int .i64 k.x0, .int .i64 k.y0, .int .i64 k.x1, .int .i64 k.y1] 67)).drew w → Blk w W.heap.size 67 #[.int .i64 k.turn, .int .i64 k.x0, .int .i64 k.y0, .int .i64 k.x1, .int .i64 k.y1]) := Lib.hid fun w h => h.keep.blk (Blk.new W 67 _).drew (by show W.heap.size ≠ gA; omega) (fun e => by have := (hown _ e).2; omega)
  have HPb : Hid (∀ w, (appL B gA vL left ⟨k, bd2⟩ #[.int .i64 sc, .int .i64 bd, vA, vL] W).T (W.alloc (.cells #[.int .i64 k.turn, .int .i64 k.x0, .int .i64 k.y0, .int .i64 k.x1, .int .i64 k.y1] 67)).drew w → Blk w gP 38 #[.slice Ap lp.length cp]) := Lib.hid fun w h => h.keep.blk (hbP.grow hV).drew hgP.2 (fun e => by have := (hown _ e).1; omega)
  have HQb : Hid (∀ w, (appL B gA vL left ⟨k, bd2⟩ #[.int .i64 sc, .int .i64 bd, vA, vL] W).T (W.alloc (.cells #[.int .i64 k.turn, .int .i64 k.x0, .int .i64 k.y0, .int .i64 k.x1, .int .i64 k.y1] 67)).drew w → Blk w gQ 38 #[.slice Aq lq.length cq]) := Lib.hid fun w h => h.keep.blk (hbQ.grow hV).drew hgQ.2 (fun e => by have := (hown _ e).1; omega)
  have HC : Hid (∀ w, (appL B gA vL left ⟨k, bd2⟩ #[.int .i64 sc, .int .i64 bd, vA, vL] W).T (W.alloc (.cells #[.int .i64 k.turn, .int .i64 k.x0, .int .i64 k.y0, .int .i64 k.x1, .int .i64 k.y1] 67)).drew w → Blk w gC 26 #[.int .i64 c.turns, .int .i64 c.shift, .int .i64 c.elastic, .int .i64 c.reach, .int .i64 c.spread]) := Lib.hid fun w h => h.keep.blk (hbC.grow hV).drew hgC.2 (fun e => by have := (hown _ e).1; omega)
  have HOld : Hid (∀ w, (appL B gA vL left ⟨k, bd2⟩ #[.int .i64 sc, .int .i64 bd, vA, vL] W).T (W.alloc (.cells #[.int .i64 k.turn, .int .i64 k.x0, .int .i64 k.y0, .int .i64 k.x1, .int .i64 k.y1] 67)).drew w → Ext w0 w) := Lib.hid fun w h => h.keep.old (hE0.trans hV.drew) h0g (fun g e => by have := (hown g e).1; omega)
  have HW := Lib.hid (show Ext W (W.alloc (.cells #[.int .i64 k.turn, .int .i64 k.x0, .int .i64 k.y0, .int .i64 k.x1, .int .i64 k.y1] 67)).drew from hV.drew)
  clear hA hL hbP hbQ hbC hE0 hV hown
  go_enter Try.func19, Try.ntmps19
  go_wp2_with fail
  generalize W.alloc (.cells #[.int .i64 k.turn, .int .i64 k.x0, .int .i64 k.y0, .int .i64 k.x1, .int .i64 k.y1] 67) = V at *
  refine wp_region_app (appL B gA vL left ⟨k, bd2⟩ #[.int .i64 sc, .int .i64 bd, vA, vL] W) HOk.out (by show W.heap.size + 1 ≤ V.heap.size; rw [HSz.out]; exact Nat.le_refl _) 10 12 [isV (.pointer (some ⟨gA, 3, none⟩)), isV vL, isV k.val, isV (.slice Ap lp.length cp), isV (.slice Aq lq.length cq), isV c.val, isV k.val, isV (.int .i64 bd2), isV (.agg #[.int .i64 k.turn, .int .i64 k.x0, .int .i64 k.y0, .int .i64 k.x1, .int .i64 k.y1, .int .i64 bd2]), App.New (appL B gA vL left ⟨k, bd2⟩ #[.int .i64 sc, .int .i64 bd, vA, vL] W), isV undef, isV (.pointer (some ⟨gA, 3, none⟩)), isV undef] (by kernel_rfl) (by kernel_rfl) (by simp [App.stab_val, App.stab_new]) (by decide) (by kernel_rfl) HN1.out HN2.out ?op ?app ?st ?fin (by decide) (by decide) ?me
  case op =>
    intro i o ho hi1 hi2 a V2 _ hfrm hT hNs hdep
    match i, ho with
    | 0, ho =>
      injection ho with ho
      subst ho
      have e1 : a.tmps[1]?.getD undef = .pointer (some ⟨gA, 0, none⟩) := slot_of (hfrm 1 (frm_of 1 (by kernel_rfl)))
      exact rel_val (by simp [execOp, go_sem, e1]) rfl
    | 1, ho =>
      injection ho with ho
      subst ho
      have e1 : a.tmps[6]?.getD undef = .pointer (some ⟨gA, 3, none⟩) := slot_of (hdep ⟨0, .data⟩ (by simp) (by kernel_rfl) (by decide) (by decide))
      have c0 := (hNs (by kernel_rfl)).cell 3
      replace c0 : V2.cell? ⟨gA, 3, none⟩ = some vL := c0
      exact rel_val (by simp [execOp, go_sem, e1, c0]) rfl
    | 2, ho =>
      injection ho with ho
      subst ho
      have e1 : a.tmps[5]?.getD undef = .pointer (some ⟨W.heap.size, 0, none⟩) := slot_of (hfrm 5 (frm_of 5 (by kernel_rfl)))
      have c0 := (HK.out _ hT).cell 0
      have c1 := (HK.out _ hT).cell 1
      have c2 := (HK.out _ hT).cell 2
      have c3 := (HK.out _ hT).cell 3
      have c4 := (HK.out _ hT).cell 4
      replace c0 : V2.cell? ⟨W.heap.size, 0, none⟩ = some (.int .i64 k.turn) := c0
      replace c1 : V2.cell? ⟨W.heap.size, 1, none⟩ = some (.int .i64 k.x0) := c1
      replace c2 : V2.cell? ⟨W.heap.size, 2, none⟩ = some (.int .i64 k.y0) := c2
      replace c3 : V2.cell? ⟨W.heap.size, 3, none⟩ = some (.int .i64 k.x1) := c3
      replace c4 : V2.cell? ⟨W.heap.size, 4, none⟩ = some (.int .i64 k.y1) := c4
      exact rel_val (by simp [execOp, go_sem, e1, c0, c1, c2, c3, c4]) rfl
    | 3, ho =>
      injection ho with ho
      subst ho
      have e1 : a.tmps[2]?.getD undef = .pointer (some ⟨gP, 0, none⟩) := slot_of (hfrm 2 (frm_of 2 (by kernel_rfl)))
      have c0 := (HPb.out _ hT).cell 0
      replace c0 : V2.cell? ⟨gP, 0, none⟩ = some (.slice Ap lp.length cp) := c0
      exact rel_val (by simp [execOp, go_sem, e1, c0]) rfl
    | 4, ho =>
      injection ho with ho
      subst ho
      have e1 : a.tmps[3]?.getD undef = .pointer (some ⟨gQ, 0, none⟩) := slot_of (hfrm 3 (frm_of 3 (by kernel_rfl)))
      have c0 := (HQb.out _ hT).cell 0
      replace c0 : V2.cell? ⟨gQ, 0, none⟩ = some (.slice Aq lq.length cq) := c0
      exact rel_val (by simp [execOp, go_sem, e1, c0]) rfl
    | 5, ho =>
      injection ho with ho
      subst ho
      have e1 : a.tmps[4]?.getD undef = .pointer (some ⟨gC, 0, none⟩) := slot_of (hfrm 4 (frm_of 4 (by kernel_rfl)))
      have c0 := (HC.out _ hT).cell 0
      have c1 := (HC.out _ hT).cell 1
      have c2 := (HC.out _ hT).cell 2
      have c3 := (HC.out _ hT).cell 3
      have c4 := (HC.out _ hT).cell 4
      replace c0 : V2.cell? ⟨gC, 0, none⟩ = some (.int .i64 c.turns) := c0
      replace c1 : V2.cell? ⟨gC, 1, none⟩ = some (.int .i64 c.shift) := c1
      replace c2 : V2.cell? ⟨gC, 2, none⟩ = some (.int .i64 c.elastic) := c2
      replace c3 : V2.cell? ⟨gC, 3, none⟩ = some (.int .i64 c.reach) := c3
      replace c4 : V2.cell? ⟨gC, 4, none⟩ = some (.int .i64 c.spread) := c4
      exact rel_val (by simp [execOp, go_sem, e1, c0, c1, c2, c3, c4]) rfl
    | 6, ho =>
      injection ho with ho
      subst ho
      have e1 : a.tmps[5]?.getD undef = .pointer (some ⟨W.heap.size, 0, none⟩) := slot_of (hfrm 5 (frm_of 5 (by kernel_rfl)))
      have c0 := (HK.out _ hT).cell 0
      have c1 := (HK.out _ hT).cell 1
      have c2 := (HK.out _ hT).cell 2
      have c3 := (HK.out _ hT).cell 3
      have c4 := (HK.out _ hT).cell 4
      replace c0 : V2.cell? ⟨W.heap.size, 0, none⟩ = some (.int .i64 k.turn) := c0
      replace c1 : V2.cell? ⟨W.heap.size, 1, none⟩ = some (.int .i64 k.x0) := c1
      replace c2 : V2.cell? ⟨W.heap.size, 2, none⟩ = some (.int .i64 k.y0) := c2
      replace c3 : V2.cell? ⟨W.heap.size, 3, none⟩ = some (.int .i64 k.x1) := c3
      replace c4 : V2.cell? ⟨W.heap.size, 4, none⟩ = some (.int .i64 k.y1) := c4
      exact rel_val (by simp [execOp, go_sem, e1, c0, c1, c2, c3, c4]) rfl
    | 7, ho =>
      injection ho with ho
      subst ho
      have e1 : a.tmps[9]?.getD undef = .slice Ap lp.length cp := slot_of (hdep ⟨3, .data⟩ (by simp) (by kernel_rfl) (by decide) (by decide))
      have e2 : a.tmps[10]?.getD undef = .slice Aq lq.length cq := slot_of (hdep ⟨4, .data⟩ (by simp) (by kernel_rfl) (by decide) (by decide))
      have e3 : a.tmps[11]?.getD undef = c.val := slot_of (hdep ⟨5, .data⟩ (by simp) (by kernel_rfl) (by decide) (by decide))
      have e4 : a.tmps[12]?.getD undef = k.val := slot_of (hdep ⟨6, .data⟩ (by simp) (by kernel_rfl) (by decide) (by decide))
      exact rel_call 20 [.tmp 9, .tmp 10, .tmp 11, .tmp 12] #[38, 38, 26, 67] rfl (by kernel_rfl) [.slice Ap lp.length cp, .slice Aq lq.length cq, c.val, k.val] (by simp [Act.eval, e1, e2, e3, e4]) (ret_val (CB.out _ (HOld.out _ hT)))
    | 8, ho =>
      injection ho with ho
      subst ho
      have e1 : a.tmps[8]?.getD undef = k.val := slot_of (hdep ⟨2, .data⟩ (by simp) (by kernel_rfl) (by decide) (by decide))
      have e2 : a.tmps[13]?.getD undef = .int .i64 bd2 := slot_of (hdep ⟨7, .data⟩ (by simp) (by kernel_rfl) (by decide) (by decide))
      exact rel_val (by simp [execOp, go_sem, e1, e2]) rfl
    | 9, ho =>
      injection ho with ho
      subst ho
      have e1 : a.tmps[14]?.getD undef = .agg #[.int .i64 k.turn, .int .i64 k.x0, .int .i64 k.y0, .int .i64 k.x1, .int .i64 k.y1, .int .i64 bd2] := slot_of (hdep ⟨8, .data⟩ (by simp) (by kernel_rfl) (by decide) (by decide))
      have hsz := hT.size
      have hsz2 : W.heap.size + 1 ≤ V2.heap.size := by rw [← HSz.out]; exact hsz
      simp [Oper.wp, execOp, go_sem, e1]
      exact ⟨_, rfl, ⟨_, rfl, hsz2, Blk.new _ _ _⟩, (Ext.refl _).alloc _⟩
    | 10, ho =>
      exact absurd rfl hi1
    | 11, ho =>
      injection ho with ho
      subst ho
      have e1 : a.tmps[1]?.getD undef = .pointer (some ⟨gA, 0, none⟩) := slot_of (hfrm 1 (frm_of 1 (by kernel_rfl)))
      exact rel_val (by simp [execOp, go_sem, e1]) rfl
    | 12, ho =>
      exact absurd rfl hi2
    | k + 13, ho => exact absurd (List.getElem?_eq_some_iff.1 ho).1 (by simp)
  case app =>
    intro o ho a V2 hdep
    injection ho with ho
    subst ho
    have e1 : a.tmps[7]?.getD undef = vL := slot_of (hdep ⟨1, .data⟩ (by simp) (by kernel_rfl) (by decide) (by decide))
    obtain ⟨g, hg1, hg2, hg3⟩ := hdep ⟨9, .data⟩ (by simp) (by kernel_rfl) (by decide) (by decide)
    exact ⟨.tmp 7, .tmp 15, 43, 16, 48, rfl, rfl, infoRs, by decide, by simpa [Act.eval, appL] using e1, g, hg1, hg2, hg3⟩
  case st =>
    intro o ho a V2 hfrm hdep A cc hv hNs
    injection ho with ho
    subst ho
    have e1 : a.tmps[17]?.getD undef = .pointer (some ⟨gA, 3, none⟩) := slot_of (hdep ⟨11, .data⟩ (by simp) (by kernel_rfl) (by decide) (by decide))
    have e2 := slot_of hv
    have r0 : V2.cell? ⟨gA, 3, none⟩ = some vL := hNs.cell 3
    have hf := hNs.frozen
    simp only [appL] at hf
    refine ⟨rfl, ?_⟩
    simp [execOp, e1, e2, go_sem, r0, hf, appL]
  case me =>
    intro o ho
    injection ho with ho
    subst ho
    exact ⟨⟨10, .data⟩, by simp, by kernel_rfl, rfl⟩
  case fin =>
    intro vs V4 hT hSt hvs
    obtain ⟨v', ⟨⟨A, cc, rfl⟩, hown', hnew⟩, hblk⟩ := hSt
    clear hvs
    simp only [putAll, Act.put]
    go_wp2_with fail
    go_end0
    exact ⟨⟨_, rfl⟩, _, hblk, by rw [flatG_app]; exact hown', (KeepX.of_ext HW.out).trans hT.keep, hnew.imp_right fun ⟨g, e, h⟩ => ⟨g, e, Nat.le_of_succ_le h⟩⟩
end Go.Proofs.Ytchplmenkdghcaa

