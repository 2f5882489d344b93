/- Slices: what they hold; append onto a slice of the call's own; calls that return new slices. -/
import Derived.Test.YtfdcapblgdlkaaaCommon
import Derived.Maps.AppendAt
import Derived.Deep.AppendLies
import Derived.Deep.RegionLaw
import Derived.Laws.OwnMore
namespace Go.Proofs.Ytfdcapblgdlkaaa
open Go.RowKit

/-- The first n blocks of a world. -/
def trunc (w : World) (n : Nat) : World := { w with heap := w.heap.extract 0 n }
theorem trunc_at (w : World) (n k : Nat) (h : k < n) : (trunc w n).heap[k]? = w.heap[k]? := by
  show (w.heap.extract 0 n)[k]? = w.heap[k]?
  rw [Array.getElem?_extract]
  rcases Nat.lt_or_ge k w.heap.size with h1 | h1
  · rw [if_pos (by omega), Nat.zero_add]
  · rw [if_neg (by omega), Array.getElem?_eq_none h1]
theorem trunc_size {w : World} {n : Nat} (h : n ≤ w.heap.size) : (trunc w n).heap.size = n := by simp [trunc]; omega
theorem trunc_ext {w : World} {n : Nat} (h : n ≤ w.heap.size) : Ext (trunc w n) w :=
  ⟨rfl, rfl, rfl, by rw [trunc_size h]; exact h, fun k hk => (trunc_at w n k (by rw [trunc_size h] at hk; exact hk)).symm⟩
theorem trunc_blk {w : World} {n g : Nat} {t : TypeId} {cs : Array Value} (h : Blk w g t cs) (hg : g < n) : Blk (trunc w n) g t cs := (trunc_at w n g hg).trans h
theorem Ext.of_trunc {a w w' : World} (h : Ext a w) (hg : Ext (trunc w a.heap.size) w') : Ext a w' := by
  refine Ext.trans (b := trunc w a.heap.size) ?_ hg
  exact ⟨h.os, h.tape, h.output, by rw [trunc_size h.size]; exact Nat.le_refl _, fun k hk => (trunc_at w _ k hk).trans (h.block k hk)⟩

/-- The slice of n elements (sz cells each) that starts at A holds the cells xs. -/
def Slc (w : World) (sz : Nat) (A : Option Addr) (n : Nat) (xs : List Value) : Prop :=
  xs.length = n * sz ∧ (0 < n → ∃ b off, A = some ⟨b, off, none⟩ ∧ b < w.heap.size ∧ ∀ j u, xs[j]? = some u → w.cell? ⟨b, off + j, none⟩ = some u)
theorem Slc.grow {w w' : World} {sz n : Nat} {A : Option Addr} {xs : List Value} (h : Slc w sz A n xs) (hg : Ext w w') : Slc w' sz A n xs :=
  ⟨h.1, fun hn => by
    obtain ⟨b, off, e, hb, hc⟩ := h.2 hn
    exact ⟨b, off, e, Nat.lt_of_lt_of_le hb hg.size, fun j u hu => (hg.cell hb).trans (hc j u hu)⟩⟩
theorem Slc.none_ (w : World) (sz : Nat) (A : Option Addr) : Slc w sz A 0 [] := ⟨by simp, fun h => absurd h (by omega)⟩

theorem addr_add (b off j : Nat) : (⟨b, off, none⟩ : Addr).add j = ⟨b, off + j, none⟩ := by
  unfold Addr.add
  split
  · rename_i h; have : j = 0 := by simpa using h
    subst this; rfl
  · rfl

theorem Slc.of_own {w : World} {base : Nat} {e : TypeId} {sz n c : Nat} {A : Option Addr} {xs : List Value} (h : w.ownsRow base e sz (.slice A n c) n xs) : Slc w sz A n xs := by
  refine ⟨h.1, fun hn => ?_⟩
  obtain ⟨g, cap, hv, _, hlt⟩ := h.form hn
  have hA : A = some ⟨g, 0, none⟩ := by injection hv
  subst hA
  refine ⟨g, 0, rfl, hlt, fun j u hu => ?_⟩
  have := h.cells (g := g) rfl j u hu
  rwa [addr_add] at this

theorem Slc.of_blk {w : World} {g : Nat} {t : TypeId} {cs : Array Value} {sz n : Nat} (h : Blk w g t cs) (hl : cs.size = n * sz) : Slc w sz (some ⟨g, 0, none⟩) n cs.toList :=
  ⟨by simpa using hl, fun _ => ⟨g, 0, rfl, h.lt, fun j u hu => by rw [Nat.zero_add, h.cell j, ← hu]; simp⟩⟩

/-- What is known of an element type. -/
def ElemInfo (P : Program) (t e : TypeId) (size bytes : Nat) : Prop :=
  P.underlying t = some (.slice e) ∧ ∃ (i : TypeInfo) (z : Value), P.info? e = some i ∧ i.zero = some z ∧ i.size = size ∧ i.bytes = bytes ∧ z.cells.size = size ∧ 0 < size
theorem elemInfo {P : Program} {t e : TypeId} {size bytes : Nat} {z : Value} (ht : P.underlying t = some (.slice e)) (h : (P.info? e).map (fun i => (i.zero, i.size, i.bytes)) = some (some z, size, bytes)) (hz : z.cells.size = size) (hs : 0 < size) : ElemInfo P t e size bytes := by
  cases hi : P.info? e with
  | none => rw [hi] at h; cases h
  | some i =>
    rw [hi] at h
    simp only [Option.map_some, Option.some.injEq, Prod.mk.injEq] at h
    exact ⟨ht, i, z, hi, h.1, h.2.1, h.2.2, hz, hs⟩

theorem run_append_nil {P : Program} {w : World} {base : Nat} {t ty e : TypeId} {i : TypeInfo} {size : Nat} (ht : P.underlying t = some (.slice e)) (hi : P.info? e = some i)
    {v : Value} {n : Nat} {xs : List Value} (hown : w.ownsRow base e size v n xs) (c : Nat) : (Builtin.append_ #[t, t] ty #[v, .slice none 0 c]).run P w = .ok v w := by
  rcases hown.2 with ⟨rfl, rfl⟩ | ⟨g, cap, cur, rfl, _, _, hnc, _⟩
  · simp [Builtin.append_, run_underlying ht, sizeOf, typeInfo, hi, Builtin.lenOf, Builtin.firstCells]
  · simp [Builtin.append_, run_underlying ht, sizeOf, typeInfo, hi, Builtin.lenOf, Builtin.firstCells, hnc, storeCells]

theorem own_slice {w : World} {base : Nat} {e : TypeId} {size n : Nat} {v : Value} {xs : List Value} (h : w.ownsRow base e size v n xs) : ∃ A c, v = .slice A n c := by
  rcases h.2 with ⟨rfl, rfl⟩ | ⟨g, cap, cur, rfl, _⟩
  · exact ⟨none, 0, rfl⟩
  · exact ⟨_, _, rfl⟩

theorem Ext.grown {a w w' : World} {row : Option Nat} (h : Ext a w) (hg : w.grownBy w' row) (hr : ∀ k, row = some k → a.heap.size ≤ k) : Ext a w' := Below.grown h hg h.size hr

/-- append onto a slice that was made since W0. -/
theorem run_append_ext {P : Program} {W0 W : World} (hW : Ext W0 W) {t e : TypeId} {size bytes : Nat} (hI : ElemInfo P t e size bytes) (ty : TypeId)
    {v : Value} {n : Nat} {xs : List Value} (hown : W.ownsRow W0.heap.size e size v n xs) {A : Option Addr} {m : Nat} (c : Nat) {news : List Value} (hr : Slc W size A m news) (h1 : ∀ u ∈ news, u.oneCell' = true)
    (hsmall : n + m ≤ 65536) (hby : bytes ≤ 65536) :
    ∃ A' c' w', (Builtin.append_ #[t, t] ty #[v, .slice A m c]).run P W = .ok (.slice A' (n + m) c') w' ∧ w'.ownsRow W0.heap.size e size (.slice A' (n + m) c') (n + m) (xs ++ news) ∧ Ext W0 w' := by
  obtain ⟨ht, i, z, hi, hz, hsize, hbytes, hzs, hpos⟩ := hI
  have hold : ∀ k, v.ownBlock = some k → W0.heap.size ≤ k := fun k hk => (hown.lt k hk).1
  rcases A with _ | ad
  · have hm : m = 0 := by
      rcases Nat.eq_zero_or_pos m with h0 | h0
      · exact h0
      · obtain ⟨b, off, h, _⟩ := hr.2 h0
        cases h
    subst hm
    have hn : news = [] := List.eq_nil_of_length_eq_zero (by simpa using hr.1)
    subst hn
    obtain ⟨A', c', rfl⟩ := own_slice hown
    exact ⟨A', c', W, run_append_nil ht hi hown c, by simpa using hown, hW⟩
  · have hcells : ∀ j u, news[j]? = some u → W.cell? (ad.add j) = some u := by
      intro j u hu
      rcases Nat.eq_zero_or_pos m with h0 | h0
      · subst h0
        have hn : news = [] := List.eq_nil_of_length_eq_zero (by simpa using hr.1)
        subst hn
        simp at hu
      · obtain ⟨b, off, h, _, hc⟩ := hr.2 h0
        injection h with h
        subst h
        rw [addr_add]
        exact hc j u hu
    have hb2 : (n + m) * bytes ≤ 140737488355328 := Nat.le_trans (Nat.mul_le_mul hsmall hby) (by decide)
    obtain ⟨v', w', hrun, h2, h3, _, _⟩ := run_append_own_at (P := P) W W0.heap.size t ty e i z size bytes ht hi hz hsize hbytes hzs hpos v n xs hown ad m c news hr.1 hcells h1 (by simp only [maxLen]; omega) hb2 hW.size
    obtain ⟨A', c', rfl⟩ := own_slice h2
    exact ⟨A', c', w', hrun, h2, hW.grown h3 hold⟩

section
variable {P : Program} {o : Oper} {a : Act} {w : World} {K : Act → World → Prop} {Q : Exit → Act → World → Prop}
theorem wp_append_ext (W0 : World) (hW : Ext W0 w) {t e : TypeId} {size bytes : Nat} (hI : ElemInfo P t e size bytes) (s x : Operand)
    (ho : o.op = .call { callee := .builtin .append, args := #[s, x], argTypes := #[t, t] })
    (v : Value) (n : Nat) (xs : List Value) (hs : a.eval s = v) (hown : w.ownsRow W0.heap.size e size v n xs)
    (A : Option Addr) (m c : Nat) (news : List Value) (hx : a.eval x = .slice A m c) (hr : Slc w size A m news) (h1 : ∀ u ∈ news, u.oneCell' = true)
    (hsmall : n + m ≤ 65536) (hby : bytes ≤ 65536)
    (h : ∀ A' c' z, (ext W0 z).ownsRow W0.heap.size e size (.slice A' (n + m) c') (n + m) (xs ++ news) → K (a.put o.dst (.slice A' (n + m) c')) (ext W0 z)) : o.wp P a w K Q := by
  obtain ⟨A', c', w', hrun, h2, h3⟩ := run_append_ext hW hI o.type hown c hr h1 hsmall hby
  unfold Oper.wp execOp
  simp only [ho, resolve, invoke, builtin, Sem.run_bind, Sem.run_pure, Result.andThen_ok, List.map_toArray, List.map_cons, List.map_nil, hs, hx, hrun]
  have := h A' c' w'
  rw [ext_of h3] at this
  exact this h2
theorem wpList_append_ext {ops : Array Oper} {rest : List Oper} (hgd : o.guard = none) (W0 : World) (hW : Ext W0 w) {t e : TypeId} {size bytes : Nat} (hI : ElemInfo P t e size bytes) (s x : Operand)
    (ho : o.op = .call { callee := .builtin .append, args := #[s, x], argTypes := #[t, t] })
    (v : Value) (n : Nat) (xs : List Value) (hs : a.eval s = v) (hown : w.ownsRow W0.heap.size e size v n xs)
    (A : Option Addr) (m c : Nat) (news : List Value) (hx : a.eval x = .slice A m c) (hr : Slc w size A m news) (h1 : ∀ u ∈ news, u.oneCell' = true)
    (hsmall : n + m ≤ 65536) (hby : bytes ≤ 65536)
    (h : ∀ A' c' z, (ext W0 z).ownsRow W0.heap.size e size (.slice A' (n + m) c') (n + m) (xs ++ news) → wpList P ops Q rest (a.put o.dst (.slice A' (n + m) c')) (ext W0 z)) : wpList P ops Q (o :: rest) a w :=
  wpList_plain hgd fun _ hK => wp_append_ext W0 hW hI s x ho v n xs hs hown A m c news hx hr h1 hsmall hby fun A' c' z h2 => hK _ _ (h A' c' z h2)
theorem step_append_ext {ops : Array Oper} {E : Prop} (hgd : o.guard = none) (W0 : World) (hW : Ext W0 w) {t e : TypeId} {size bytes : Nat} (hI : ElemInfo P t e size bytes) (s x : Operand)
    (ho : o.op = .call { callee := .builtin .append, args := #[s, x], argTypes := #[t, t] })
    (v : Value) (n : Nat) (xs : List Value) (hs : a.eval s = v) (hown : w.ownsRow W0.heap.size e size v n xs)
    (A : Option Addr) (m c : Nat) (news : List Value) (hx : a.eval x = .slice A m c) (hr : Slc w size A m news) (h1 : ∀ u ∈ news, u.oneCell' = true)
    (hsmall : n + m ≤ 65536) (hby : bytes ≤ 65536)
    (h : ∀ A' c' z, (ext W0 z).ownsRow W0.heap.size e size (.slice A' (n + m) c') (n + m) (xs ++ news) → K (a.put o.dst (.slice A' (n + m) c')) (ext W0 z)) :
    if Region.wanted o (yielded ops a.tmps) = true then Oper.wp P o a w K Q else E := by
  have hw : Region.wanted o (yielded ops a.tmps) = true := by simp [Region.wanted, hgd]
  rw [if_pos hw]
  exact wp_append_ext W0 hW hI s x ho v n xs hs hown A m c news hx hr h1 hsmall hby h
end

theorem run_append_empty {P : Program} {w : World} {t ty e : TypeId} {i : TypeInfo} (ht : P.underlying t = some (.slice e)) (hi : P.info? e = some i) (a : Addr) (A : Option Addr) (m c : Nat) (hm : 0 < m) (hs : m ≤ 65536) (hb : i.bytes ≤ 65536) :
    (Builtin.append_ #[t, t] ty #[.slice (some a) 0 0, .slice A m c]).run P w = (Builtin.append_ #[t, t] ty #[.slice none 0 0, .slice A m c]).run P w := by
  have h1 : ¬ 281474976710656 < m * i.bytes := by
    have := Nat.mul_le_mul hs hb
    omega
  have h2 : ¬ (9223372036854775807 : Int) < (m : Int) := by omega
  have h0 : m ≠ 0 := by omega
  simp [Builtin.append_, run_underlying ht, sizeOf, typeInfo, hi, Builtin.lenOf, Builtin.firstCells, h0, Builtin.nextslicecap, hm, h1, h2, loadCells, loadCellsFrom]
/-- append onto an empty slice without room: nothing that is there turns. -/
theorem run_append_new {P : Program} {W : World} {t e : TypeId} {size bytes : Nat} (hI : ElemInfo P t e size bytes) (ty : TypeId) {base : Nat} (hbase : base ≤ W.heap.size)
    {v : Value} (hv : ∃ A0, v = .slice A0 0 0) (hown : W.ownsRow base e size v 0 []) {A : Option Addr} {m : Nat} (c : Nat) {news : List Value} (hr : Slc W size A m news) (h1 : ∀ u ∈ news, u.oneCell' = true)
    (hsmall : m ≤ 65536) (hby : bytes ≤ 65536) :
    ∃ A' c' w', (Builtin.append_ #[t, t] ty #[v, .slice A m c]).run P W = .ok (.slice A' m c') w' ∧ w'.ownsRow base e size (.slice A' m c') m news ∧ Ext W w' := by
  have hnil : ∃ A' c' w', (Builtin.append_ #[t, t] ty #[.slice none 0 0, .slice A m c]).run P W = .ok (.slice A' m c') w' ∧ w'.ownsRow base e size (.slice A' m c') m news ∧ Ext W w' := by
    obtain ⟨A', c', w', h2, h3, h4⟩ := run_append_ext (Ext.refl W) hI ty (v := .slice none 0 0) (n := 0) (xs := []) ⟨by simp, .inl ⟨rfl, rfl⟩⟩ c hr h1 (by omega) hby
    simp only [Nat.zero_add, List.nil_append] at h2 h3
    refine ⟨A', c', w', h2, ⟨h3.1, ?_⟩, h4⟩
    rcases h3.2 with h5 | ⟨g, cap, cur, hv, hg, r⟩
    · exact .inl h5
    · exact .inr ⟨g, cap, cur, hv, Nat.le_trans hbase hg, r⟩
  obtain ⟨A0, rfl⟩ := hv
  rcases A0 with _ | a0
  · exact hnil
  · rcases Nat.eq_zero_or_pos m with rfl | hm
    · have hn : news = [] := List.eq_nil_of_length_eq_zero (by simpa using hr.1)
      subst hn
      have hI' := hI
      obtain ⟨ht, i, z, hi, hz, hsize, hbytes, hzs, hpos⟩ := hI
      refine ⟨some a0, 0, W, ?_, hown, Ext.refl W⟩
      rcases A with _ | ad
      · exact run_append_nil ht hi hown c
      · simp [Builtin.append_, run_underlying ht, sizeOf, typeInfo, hi, Builtin.lenOf, Builtin.firstCells, storeCells, loadCells, loadCellsFrom]
    · obtain ⟨ht, i, z, hi, hz, hsize, hbytes, hzs, hpos⟩ := hI
      rw [run_append_empty ht hi a0 A m c hm hsmall (by omega)]
      exact hnil
section
variable {P : Program} {o : Oper} {a : Act} {w : World} {K : Act → World → Prop} {Q : Exit → Act → World → Prop}
theorem wp_append_new {t e : TypeId} {size bytes : Nat} (hI : ElemInfo P t e size bytes) (s x : Operand)
    (ho : o.op = .call { callee := .builtin .append, args := #[s, x], argTypes := #[t, t] })
    (base : Nat) (hbase : base ≤ w.heap.size) (A0 : Option Addr) (hs : a.eval s = .slice A0 0 0) (hown : w.ownsRow base e size (.slice A0 0 0) 0 [])
    (A : Option Addr) (m c : Nat) (news : List Value) (hx : a.eval x = .slice A m c) (hr : Slc w size A m news) (h1 : ∀ u ∈ news, u.oneCell' = true)
    (hsmall : m ≤ 65536) (hby : bytes ≤ 65536)
    (h : ∀ A' c' z, (ext w z).ownsRow base e size (.slice A' m c') m news → K (a.put o.dst (.slice A' m c')) (ext w z)) : o.wp P a w K Q := by
  obtain ⟨A', c', w', hrun, h2, h3⟩ := run_append_new hI o.type hbase ⟨A0, rfl⟩ hown c hr h1 hsmall hby
  unfold Oper.wp execOp
  simp only [ho, resolve, invoke, builtin, Sem.run_bind, Sem.run_pure, Result.andThen_ok, List.map_toArray, List.map_cons, List.map_nil, hs, hx, hrun]
  have := h A' c' w'
  rw [ext_of h3] at this
  exact this h2
theorem wpList_append_new {ops : Array Oper} {rest : List Oper} (hgd : o.guard = none) {t e : TypeId} {size bytes : Nat} (hI : ElemInfo P t e size bytes) (s x : Operand)
    (ho : o.op = .call { callee := .builtin .append, args := #[s, x], argTypes := #[t, t] })
    (base : Nat) (hbase : base ≤ w.heap.size) (A0 : Option Addr) (hs : a.eval s = .slice A0 0 0) (hown : w.ownsRow base e size (.slice A0 0 0) 0 [])
    (A : Option Addr) (m c : Nat) (news : List Value) (hx : a.eval x = .slice A m c) (hr : Slc w size A m news) (h1 : ∀ u ∈ news, u.oneCell' = true)
    (hsmall : m ≤ 65536) (hby : bytes ≤ 65536)
    (h : ∀ A' c' z, (ext w z).ownsRow base e size (.slice A' m c') m news → wpList P ops Q rest (a.put o.dst (.slice A' m c')) (ext w z)) : wpList P ops Q (o :: rest) a w :=
  wpList_plain hgd fun _ hK => wp_append_new hI s x ho base hbase A0 hs hown A m c news hx hr h1 hsmall hby fun A' c' z h2 => hK _ _ (h A' c' z h2)
theorem step_append_new {ops : Array Oper} {E : Prop} (hgd : o.guard = none) {t e : TypeId} {size bytes : Nat} (hI : ElemInfo P t e size bytes) (s x : Operand)
    (ho : o.op = .call { callee := .builtin .append, args := #[s, x], argTypes := #[t, t] })
    (base : Nat) (hbase : base ≤ w.heap.size) (A0 : Option Addr) (hs : a.eval s = .slice A0 0 0) (hown : w.ownsRow base e size (.slice A0 0 0) 0 [])
    (A : Option Addr) (m c : Nat) (news : List Value) (hx : a.eval x = .slice A m c) (hr : Slc w size A m news) (h1 : ∀ u ∈ news, u.oneCell' = true)
    (hsmall : m ≤ 65536) (hby : bytes ≤ 65536)
    (h : ∀ A' c' z, (ext w z).ownsRow base e size (.slice A' m c') m news → K (a.put o.dst (.slice A' m c')) (ext w z)) :
    if Region.wanted o (yielded ops a.tmps) = true then Oper.wp P o a w K Q else E := by
  have hw : Region.wanted o (yielded ops a.tmps) = true := by simp [Region.wanted, hgd]
  rw [if_pos hw]
  exact wp_append_new hI s x ho base hbase A0 hs hown A m c news hx hr h1 hsmall hby h
end

/-- A call returns a new slice of n elements, with the cells xs. -/
def RetS (e : TypeId) (sz n : Nat) (xs : List Value) (w : World) (en : Ending) (w' : World) : Prop :=
  ∃ A c, en = .returned (.slice A n c) ∧ w'.ownsRow w.heap.size e sz (.slice A n c) n xs ∧ Ext w w'
theorem calls_slice {P : Program} {f : FuncId} {args : Array Value} {w : World} {e : TypeId} {sz n : Nat} {xs : List Value} {R : Ending → World → Prop}
    (h : Calls P f args w (RetS e sz n xs w)) (hR : ∀ A c z, (ext w z).ownsRow w.heap.size e sz (.slice A n c) n xs → R (.returned (.slice A n c)) (ext w z)) : Calls P f args w R :=
  h.mono fun en w' ⟨A, c, he, ho, hw⟩ => by
    subst he
    have := hR A c w'
    rw [ext_of hw] at this
    exact this ho
/-- .. and a second value. -/
def RetS2 (e : TypeId) (sz n : Nat) (xs : List Value) (u : Value) (w : World) (en : Ending) (w' : World) : Prop :=
  ∃ A c, en = .returned (.tuple #[.slice A n c, u]) ∧ w'.ownsRow w.heap.size e sz (.slice A n c) n xs ∧ Ext w w'
theorem calls_slice2 {P : Program} {f : FuncId} {args : Array Value} {w : World} {e : TypeId} {sz n : Nat} {xs : List Value} {u : Value} {R : Ending → World → Prop}
    (h : Calls P f args w (RetS2 e sz n xs u w)) (hR : ∀ A c z, (ext w z).ownsRow w.heap.size e sz (.slice A n c) n xs → R (.returned (.tuple #[.slice A n c, u])) (ext w z)) : Calls P f args w R :=
  h.mono fun en w' ⟨A, c, he, ho, hw⟩ => by
    subst he
    have := hR A c w'
    rw [ext_of hw] at this
    exact this ho
/-- .. and two more values. -/
def RetS3 (e : TypeId) (sz n : Nat) (xs : List Value) (u v : Value) (w : World) (en : Ending) (w' : World) : Prop :=
  ∃ A c, en = .returned (.tuple #[.slice A n c, u, v]) ∧ w'.ownsRow w.heap.size e sz (.slice A n c) n xs ∧ Ext w w'
theorem calls_slice3 {P : Program} {f : FuncId} {args : Array Value} {w : World} {e : TypeId} {sz n : Nat} {xs : List Value} {u v : Value} {R : Ending → World → Prop}
    (h : Calls P f args w (RetS3 e sz n xs u v w)) (hR : ∀ A c z, (ext w z).ownsRow w.heap.size e sz (.slice A n c) n xs → R (.returned (.tuple #[.slice A n c, u, v])) (ext w z)) : Calls P f args w R :=
  h.mono fun en w' ⟨A, c, he, ho, hw⟩ => by
    subst he
    have := hR A c w'
    rw [ext_of hw] at this
    exact this ho
/-- A function of the program's own. -/
def callB (P : Program) (f : FuncId) : Bool := match P.funcs[f]? with | some fn => fn.body.isSome && !(fn.name == "runtime.NumGoroutine") | none => false
theorem run_call_op {P : Program} {o : Oper} {a : Act} {w : World} {f : FuncId} {xs : Array Operand} {ts : Array TypeId} (ho : o.op = .call { callee := .value (.func f), args := xs, argTypes := ts }) (hf : callB P f = true) :
    (execOp a.eval o).run P w = .ok (.enter f (xs.map a.eval)) w := by
  have he : a.eval (.func f) = .func (.func f) #[] #[] := rfl
  unfold callB at hf
  split at hf
  · rename_i fn hfn
    simp only [Bool.and_eq_true, Bool.not_eq_true', beq_eq_false_iff_ne] at hf
    have hb : fn.body ≠ none := by
      intro h0; rw [h0] at hf; cases hf.1
    unfold execOp
    simp [ho, resolve, he, Deferred.ofValue, invoke, callFunc, hfn, hf.2, hb]
  · cases hf
section
variable {P : Program} {ops : Array Oper} {o : Oper} {a : Act} {w : World} {K : Act → World → Prop} {Q : Exit → Act → World → Prop} {E : Prop}
/-- A call as a step of a region that draws: its contract. -/
theorem step_call_of (hgd : o.guard = none) (f : FuncId) (xs : Array Operand) (ts : Array TypeId) (ho : o.op = .call { callee := .value (.func f), args := xs, argTypes := ts }) (hf : callB P f = true)
    (h : Calls P f (xs.map a.eval) w fun | .returned v, w'' => K (a.put o.dst v) w'' | .panicked chain, w'' => Q (.panic chain) a w'' | .outgrown, _ => LetsOut Q) :
    if Region.wanted o (yielded ops a.tmps) = true then Oper.wp P o a w K Q else E := by
  have hw : Region.wanted o (yielded ops a.tmps) = true := by simp [Region.wanted, hgd]
  rw [if_pos hw]
  unfold Oper.wp
  rw [run_call_op ho hf]
  exact h
theorem step_call_slice (hgd : o.guard = none) (f : FuncId) (xs : List Operand) (ts : Array TypeId) (ho : o.op = .call { callee := .value (.func f), args := xs.toArray, argTypes := ts }) (hf : callB P f = true) (args : List Value) (hargs : xs.map a.eval = args)
    {e : TypeId} {sz n : Nat} {ys : List Value} (h : Calls P f args.toArray w (RetS e sz n ys w)) (hk : ∀ A c z, (ext w z).ownsRow w.heap.size e sz (.slice A n c) n ys → K (a.put o.dst (.slice A n c)) (ext w z)) :
    if Region.wanted o (yielded ops a.tmps) = true then Oper.wp P o a w K Q else E :=
  step_call_of hgd f xs.toArray ts ho hf (by rw [List.map_toArray, hargs]; exact calls_slice h fun A c z ho => hk A c z ho)
theorem step_call_ext (hgd : o.guard = none) (f : FuncId) (xs : List Operand) (ts : Array TypeId) (ho : o.op = .call { callee := .value (.func f), args := xs.toArray, argTypes := ts }) (hf : callB P f = true) (args : List Value) (hargs : xs.map a.eval = args)
    {v : Value} (h : Calls P f args.toArray w fun e w' => e = .returned v ∧ Ext w w') (hk : ∀ z, K (a.put o.dst v) (ext w z)) :
    if Region.wanted o (yielded ops a.tmps) = true then Oper.wp P o a w K Q else E :=
  step_call_of hgd f xs.toArray ts ho hf (by rw [List.map_toArray, hargs]; exact Calls.ext h fun z => hk z)
end
theorem own_nil (w : World) (base : Nat) (e : TypeId) (sz : Nat) : w.ownsRow base e sz (.slice none 0 0) 0 [] := ⟨by simp, .inl ⟨rfl, rfl⟩⟩
theorem own_empty {w : World} {base g : Nat} {e : TypeId} (sz : Nat) (hb : base ≤ g) (h : Blk w g e #[]) : w.ownsRow base e sz (.slice (some ⟨g, 0, none⟩) 0 0) 0 [] :=
  ⟨by simp, .inr ⟨g, 0, #[], rfl, hb, h, Nat.le_refl _, by simp [maxLen], by simp, by simp⟩⟩
theorem own_grow {w w' : World} {base : Nat} {e : TypeId} {sz n : Nat} {v : Value} {xs : List Value} (h : w.ownsRow base e sz v n xs) (hg : Ext w w') : w'.ownsRow base e sz v n xs := by
  refine ⟨h.1, ?_⟩
  rcases h.2 with h2 | ⟨g, cap, cur, hv, hb, hh, r⟩
  · exact .inl h2
  · exact .inr ⟨g, cap, cur, hv, hb, Blk.grow (t := e) hh hg, r⟩
theorem own_mono {w : World} {base base' : Nat} {e : TypeId} {sz n : Nat} {v : Value} {xs : List Value} (h : w.ownsRow base e sz v n xs) (hb : base' ≤ base) : w.ownsRow base' e sz v n xs := by
  refine ⟨h.1, ?_⟩
  rcases h.2 with h2 | ⟨g, cap, cur, hv, hg, r⟩
  · exact .inl h2
  · exact .inr ⟨g, cap, cur, hv, Nat.le_trans hb hg, r⟩
end Go.Proofs.Ytfdcapblgdlkaaa
