/- Slices: what they hold; append onto a slice of the call's own; calls that return new slices. -/
import Derived.Test.YthejomcibobieaaCommon
import Derived.Maps.AppendAt
import Derived.Deep.AppendLies
import Derived.Deep.RegionLaw
import Derived.Laws.OwnMore
import Derived.OwnWalk
import Derived.Lib.SliceRun
namespace Go.Proofs.Ythejomcibobieaa
open Go.RowKit

/-- The first n blocks of a world. -/
def trunc (w : World) (n : Nat) : World := { w with heap := w.heap.extract 0 n }
theorem trunc_at (w : World) (n k : Nat) (h : k < n) : (trunc w n).heap[k]? = w.heap[k]? := by
  show (w.heap.extract 0 n)[k]? = w.heap[k]?
  rw [Array.getElem?_extract]
  rcases Nat.lt_or_ge k w.heap.size with h1 | h1
  · rw [if_pos (by omega), Nat.zero_add]
  · rw [if_neg (by omega), Array.getElem?_eq_none h1]
theorem trunc_size {w : World} {n : Nat} (h : n ≤ w.heap.size) : (trunc w n).heap.size = n := by simp [trunc]; omega
theorem trunc_ext {w : World} {n : Nat} (h : n ≤ w.heap.size) : Ext (trunc w n) w :=
  ⟨rfl, rfl, rfl, by rw [trunc_size h]; exact h, fun k hk => (trunc_at w n k (by rw [trunc_size h] at hk; exact hk)).symm⟩
theorem trunc_blk {w : World} {n g : Nat} {t : TypeId} {cs : Array Value} (h : Blk w g t cs) (hg : g < n) : Blk (trunc w n) g t cs := (trunc_at w n g hg).trans h
theorem Ext.of_trunc {a w w' : World} (h : Ext a w) (hg : Ext (trunc w a.heap.size) w') : Ext a w' := by
  refine Ext.trans (b := trunc w a.heap.size) ?_ hg
  exact ⟨h.os, h.tape, h.output, by rw [trunc_size h.size]; exact Nat.le_refl _, fun k hk => (trunc_at w _ k hk).trans (h.block k hk)⟩

/-- The slice of n elements (sz cells each) that starts at A holds the cells xs. -/
def Slc (w : World) (sz : Nat) (A : Option Addr) (n : Nat) (xs : List Value) : Prop :=
  xs.length = n * sz ∧ (0 < n → ∃ b off, A = some ⟨b, off, none⟩ ∧ b < w.heap.size ∧ ∀ j u, xs[j]? = some u → w.cell? ⟨b, off + j, none⟩ = some u)
theorem Slc.grow {w w' : World} {sz n : Nat} {A : Option Addr} {xs : List Value} (h : Slc w sz A n xs) (hg : Ext w w') : Slc w' sz A n xs :=
  ⟨h.1, fun hn => by
    obtain ⟨b, off, e, hb, hc⟩ := h.2 hn
    exact ⟨b, off, e, Nat.lt_of_lt_of_le hb hg.size, fun j u hu => (hg.cell hb).trans (hc j u hu)⟩⟩
theorem Slc.none_ (w : World) (sz : Nat) (A : Option Addr) : Slc w sz A 0 [] := ⟨by simp, fun h => absurd h (by omega)⟩

theorem addr_add (b off j : Nat) : (⟨b, off, none⟩ : Addr).add j = ⟨b, off + j, none⟩ := by
  unfold Addr.add
  split
  · rename_i h; have : j = 0 := by simpa using h
    subst this; rfl
  · rfl

theorem Slc.of_own {w : World} {base : Nat} {e : TypeId} {sz n c : Nat} {A : Option Addr} {xs : List Value} (h : w.ownsRow base e sz (.slice A n c) n xs) : Slc w sz A n xs := by
  refine ⟨h.1, fun hn => ?_⟩
  obtain ⟨g, cap, hv, _, hlt⟩ := h.form hn
  have hA : A = some ⟨g, 0, none⟩ := by injection hv
  subst hA
  refine ⟨g, 0, rfl, hlt, fun j u hu => ?_⟩
  have := h.cells (g := g) rfl j u hu
  rwa [addr_add] at this

theorem Slc.of_blk {w : World} {g : Nat} {t : TypeId} {cs : Array Value} {sz n : Nat} (h : Blk w g t cs) (hl : cs.size = n * sz) : Slc w sz (some ⟨g, 0, none⟩) n cs.toList :=
  ⟨by simpa using hl, fun _ => ⟨g, 0, rfl, h.lt, fun j u hu => by rw [Nat.zero_add, h.cell j, ← hu]; simp⟩⟩

/-- What is known of an element type. -/
def ElemInfo (P : Program) (t e : TypeId) (size bytes : Nat) : Prop :=
  P.underlying t = some (.slice e) ∧ ∃ (i : TypeInfo) (z : Value), P.info? e = some i ∧ i.zero = some z ∧ i.size = size ∧ i.bytes = bytes ∧ z.cells.size = size ∧ 0 < size
theorem elemInfo {P : Program} {t e : TypeId} {size bytes : Nat} {z : Value} (ht : P.underlying t = some (.slice e)) (h : (P.info? e).map (fun i => (i.zero, i.size, i.bytes)) = some (some z, size, bytes)) (hz : z.cells.size = size) (hs : 0 < size) : ElemInfo P t e size bytes := by
  cases hi : P.info? e with
  | none => rw [hi] at h; cases h
  | some i =>
    rw [hi] at h
    simp only [Option.map_some, Option.some.injEq, Prod.mk.injEq] at h
    exact ⟨ht, i, z, hi, h.1, h.2.1, h.2.2, hz, hs⟩

theorem run_append_nil {P : Program} {w : World} {base : Nat} {t ty e : TypeId} {i : TypeInfo} {size : Nat} (ht : P.underlying t = some (.slice e)) (hi : P.info? e = some i)
    {v : Value} {n : Nat} {xs : List Value} (hown : w.ownsRow base e size v n xs) (c : Nat) : (Builtin.append_ #[t, t] ty #[v, .slice none 0 c]).run P w = .ok v w := by
  rcases hown.2 with ⟨rfl, rfl⟩ | ⟨g, cap, cur, rfl, _, _, hnc, _⟩
  · simp [Builtin.append_, run_underlying ht, sizeOf, typeInfo, hi, Builtin.lenOf, Builtin.firstCells]
  · simp [Builtin.append_, run_underlying ht, sizeOf, typeInfo, hi, Builtin.lenOf, Builtin.firstCells, hnc, storeCells]

theorem own_slice {w : World} {base : Nat} {e : TypeId} {size n : Nat} {v : Value} {xs : List Value} (h : w.ownsRow base e size v n xs) : ∃ A c, v = .slice A n c := by
  rcases h.2 with ⟨rfl, rfl⟩ | ⟨g, cap, cur, rfl, _⟩
  · exact ⟨none, 0, rfl⟩
  · exact ⟨_, _, rfl⟩

theorem Ext.grown {a w w' : World} {row : Option Nat} (h : Ext a w) (hg : w.grownBy w' row) (hr : ∀ k, row = some k → a.heap.size ≤ k) : Ext a w' := Below.grown h hg h.size hr

/-- append onto a slice that was made since W0. -/
theorem run_append_ext {P : Program} {W0 W : World} (hW : Ext W0 W) {t e : TypeId} {size bytes : Nat} (hI : ElemInfo P t e size bytes) (ty : TypeId)
    {v : Value} {n : Nat} {xs : List Value} (hown : W.ownsRow W0.heap.size e size v n xs) {A : Option Addr} {m : Nat} (c : Nat) {news : List Value} (hr : Slc W size A m news) (h1 : ∀ u ∈ news, u.oneCell' = true)
    (hsmall : n + m ≤ 65536) (hby : bytes ≤ 65536) :
    ∃ A' c' w', (Builtin.append_ #[t, t] ty #[v, .slice A m c]).run P W = .ok (.slice A' (n + m) c') w' ∧ w'.ownsRow W0.heap.size e size (.slice A' (n + m) c') (n + m) (xs ++ news) ∧ Ext W0 w' := by
  obtain ⟨ht, i, z, hi, hz, hsize, hbytes, hzs, hpos⟩ := hI
  have hold : ∀ k, v.ownBlock = some k → W0.heap.size ≤ k := fun k hk => (hown.lt k hk).1
  rcases A with _ | ad
  · have hm : m = 0 := by
      rcases Nat.eq_zero_or_pos m with h0 | h0
      · exact h0
      · obtain ⟨b, off, h, _⟩ := hr.2 h0
        cases h
    subst hm
    have hn : news = [] := List.eq_nil_of_length_eq_zero (by simpa using hr.1)
    subst hn
    obtain ⟨A', c', rfl⟩ := own_slice hown
    exact ⟨A', c', W, run_append_nil ht hi hown c, by simpa using hown, hW⟩
  · have hcells : ∀ j u, news[j]? = some u → W.cell? (ad.add j) = some u := by
      intro j u hu
      rcases Nat.eq_zero_or_pos m with h0 | h0
      · subst h0
        have hn : news = [] := List.eq_nil_of_length_eq_zero (by simpa using hr.1)
        subst hn
        simp at hu
      · obtain ⟨b, off, h, _, hc⟩ := hr.2 h0
        injection h with h
        subst h
        rw [addr_add]
        exact hc j u hu
    have hb2 : (n + m) * bytes ≤ 140737488355328 := Nat.le_trans (Nat.mul_le_mul hsmall hby) (by decide)
    obtain ⟨v', w', hrun, h2, h3, _, _⟩ := run_append_own_at (P := P) W W0.heap.size t ty e i z size bytes ht hi hz hsize hbytes hzs hpos v n xs hown ad m c news hr.1 hcells h1 (by simp only [maxLen]; omega) hb2 hW.size
    obtain ⟨A', c', rfl⟩ := own_slice h2
    exact ⟨A', c', w', hrun, h2, hW.grown h3 hold⟩

section
variable {P : Program} {o : Oper} {a : Act} {w : World} {K : Act → World → Prop} {Q : Exit → Act → World → Prop}
theorem wp_append_ext (W0 : World) (hW : Ext W0 w) {t e : TypeId} {size bytes : Nat} (hI : ElemInfo P t e size bytes) (s x : Operand)
    (ho : o.op = .call { callee := .builtin .append, args := #[s, x], argTypes := #[t, t] })
    (v : Value) (n : Nat) (xs : List Value) (hs : a.eval s = v) (hown : w.ownsRow W0.heap.size e size v n xs)
    (A : Option Addr) (m c : Nat) (news : List Value) (hx : a.eval x = .slice A m c) (hr : Slc w size A m news) (h1 : ∀ u ∈ news, u.oneCell' = true)
    (hsmall : n + m ≤ 65536) (hby : bytes ≤ 65536)
    (h : ∀ A' c' z, (ext W0 z).ownsRow W0.heap.size e size (.slice A' (n + m) c') (n + m) (xs ++ news) → K (a.put o.dst (.slice A' (n + m) c')) (ext W0 z)) : o.wp P a w K Q := by
  obtain ⟨A', c', w', hrun, h2, h3⟩ := run_append_ext hW hI o.type hown c hr h1 hsmall hby
  unfold Oper.wp execOp
  simp only [ho, resolve, invoke, builtin, Sem.run_bind, Sem.run_pure, Result.andThen_ok, List.map_toArray, List.map_cons, List.map_nil, hs, hx, hrun]
  have := h A' c' w'
  rw [ext_of h3] at this
  exact this h2
theorem wpList_append_ext {ops : Array Oper} {rest : List Oper} (hgd : o.guard = none) (W0 : World) (hW : Ext W0 w) {t e : TypeId} {size bytes : Nat} (hI : ElemInfo P t e size bytes) (s x : Operand)
    (ho : o.op = .call { callee := .builtin .append, args := #[s, x], argTypes := #[t, t] })
    (v : Value) (n : Nat) (xs : List Value) (hs : a.eval s = v) (hown : w.ownsRow W0.heap.size e size v n xs)
    (A : Option Addr) (m c : Nat) (news : List Value) (hx : a.eval x = .slice A m c) (hr : Slc w size A m news) (h1 : ∀ u ∈ news, u.oneCell' = true)
    (hsmall : n + m ≤ 65536) (hby : bytes ≤ 65536)
    (h : ∀ A' c' z, (ext W0 z).ownsRow W0.heap.size e size (.slice A' (n + m) c') (n + m) (xs ++ news) → wpList P ops Q rest (a.put o.dst (.slice A' (n + m) c')) (ext W0 z)) : wpList P ops Q (o :: rest) a w :=
  wpList_plain hgd fun _ hK => wp_append_ext W0 hW hI s x ho v n xs hs hown A m c news hx hr h1 hsmall hby fun A' c' z h2 => hK _ _ (h A' c' z h2)
theorem step_append_ext {ops : Array Oper} {E : Prop} (hgd : o.guard = none) (W0 : World) (hW : Ext W0 w) {t e : TypeId} {size bytes : Nat} (hI : ElemInfo P t e size bytes) (s x : Operand)
    (ho : o.op = .call { callee := .builtin .append, args := #[s, x], argTypes := #[t, t] })
    (v : Value) (n : Nat) (xs : List Value) (hs : a.eval s = v) (hown : w.ownsRow W0.heap.size e size v n xs)
    (A : Option Addr) (m c : Nat) (news : List Value) (hx : a.eval x = .slice A m c) (hr : Slc w size A m news) (h1 : ∀ u ∈ news, u.oneCell' = true)
    (hsmall : n + m ≤ 65536) (hby : bytes ≤ 65536)
    (h : ∀ A' c' z, (ext W0 z).ownsRow W0.heap.size e size (.slice A' (n + m) c') (n + m) (xs ++ news) → K (a.put o.dst (.slice A' (n + m) c')) (ext W0 z)) :
    if Region.wanted o (yielded ops a.tmps) = true then Oper.wp P o a w K Q else E := by
  have hw : Region.wanted o (yielded ops a.tmps) = true := by simp [Region.wanted, hgd]
  rw [if_pos hw]
  exact wp_append_ext W0 hW hI s x ho v n xs hs hown A m c news hx hr h1 hsmall hby h
end

theorem run_append_empty {P : Program} {w : World} {t ty e : TypeId} {i : TypeInfo} (ht : P.underlying t = some (.slice e)) (hi : P.info? e = some i) (a : Addr) (A : Option Addr) (m c : Nat) (hm : 0 < m) (hs : m ≤ 65536) (hb : i.bytes ≤ 65536) :
    (Builtin.append_ #[t, t] ty #[.slice (some a) 0 0, .slice A m c]).run P w = (Builtin.append_ #[t, t] ty #[.slice none 0 0, .slice A m c]).run P w := by
  have h1 : ¬ 281474976710656 < m * i.bytes := by
    have := Nat.mul_le_mul hs hb
    omega
  have h2 : ¬ (9223372036854775807 : Int) < (m : Int) := by omega
  have h0 : m ≠ 0 := by omega
  simp [Builtin.append_, run_underlying ht, sizeOf, typeInfo, hi, Builtin.lenOf, Builtin.firstCells, h0, Builtin.nextslicecap, hm, h1, h2, loadCells, loadCellsFrom]
/-- append onto an empty slice without room: nothing that is there turns. -/
theorem run_append_new {P : Program} {W : World} {t e : TypeId} {size bytes : Nat} (hI : ElemInfo P t e size bytes) (ty : TypeId) {base : Nat} (hbase : base ≤ W.heap.size)
    {v : Value} (hv : ∃ A0, v = .slice A0 0 0) (hown : W.ownsRow base e size v 0 []) {A : Option Addr} {m : Nat} (c : Nat) {news : List Value} (hr : Slc W size A m news) (h1 : ∀ u ∈ news, u.oneCell' = true)
    (hsmall : m ≤ 65536) (hby : bytes ≤ 65536) :
    ∃ A' c' w', (Builtin.append_ #[t, t] ty #[v, .slice A m c]).run P W = .ok (.slice A' m c') w' ∧ w'.ownsRow base e size (.slice A' m c') m news ∧ Ext W w' := by
  have hnil : ∃ A' c' w', (Builtin.append_ #[t, t] ty #[.slice none 0 0, .slice A m c]).run P W = .ok (.slice A' m c') w' ∧ w'.ownsRow base e size (.slice A' m c') m news ∧ Ext W w' := by
    obtain ⟨A', c', w', h2, h3, h4⟩ := run_append_ext (Ext.refl W) hI ty (v := .slice none 0 0) (n := 0) (xs := []) ⟨by simp, .inl ⟨rfl, rfl⟩⟩ c hr h1 (by omega) hby
    simp only [Nat.zero_add, List.nil_append] at h2 h3
    refine ⟨A', c', w', h2, ⟨h3.1, ?_⟩, h4⟩
    rcases h3.2 with h5 | ⟨g, cap, cur, hv, hg, r⟩
    · exact .inl h5
    · exact .inr ⟨g, cap, cur, hv, Nat.le_trans hbase hg, r⟩
  obtain ⟨A0, rfl⟩ := hv
  rcases A0 with _ | a0
  · exact hnil
  · rcases Nat.eq_zero_or_pos m with rfl | hm
    · have hn : news = [] := List.eq_nil_of_length_eq_zero (by simpa using hr.1)
      subst hn
      have hI' := hI
      obtain ⟨ht, i, z, hi, hz, hsize, hbytes, hzs, hpos⟩ := hI
      refine ⟨some a0, 0, W, ?_, hown, Ext.refl W⟩
      rcases A with _ | ad
      · exact run_append_nil ht hi hown c
      · simp [Builtin.append_, run_underlying ht, sizeOf, typeInfo, hi, Builtin.lenOf, Builtin.firstCells, storeCells, loadCells, loadCellsFrom]
    · obtain ⟨ht, i, z, hi, hz, hsize, hbytes, hzs, hpos⟩ := hI
      rw [run_append_empty ht hi a0 A m c hm hsmall (by omega)]
      exact hnil
section
variable {P : Program} {o : Oper} {a : Act} {w : World} {K : Act → World → Prop} {Q : Exit → Act → World → Prop}
theorem wp_append_new {t e : TypeId} {size bytes : Nat} (hI : ElemInfo P t e size bytes) (s x : Operand)
    (ho : o.op = .call { callee := .builtin .append, args := #[s, x], argTypes := #[t, t] })
    (base : Nat) (hbase : base ≤ w.heap.size) (A0 : Option Addr) (hs : a.eval s = .slice A0 0 0) (hown : w.ownsRow base e size (.slice A0 0 0) 0 [])
    (A : Option Addr) (m c : Nat) (news : List Value) (hx : a.eval x = .slice A m c) (hr : Slc w size A m news) (h1 : ∀ u ∈ news, u.oneCell' = true)
    (hsmall : m ≤ 65536) (hby : bytes ≤ 65536)
    (h : ∀ A' c' z, (ext w z).ownsRow base e size (.slice A' m c') m news → K (a.put o.dst (.slice A' m c')) (ext w z)) : o.wp P a w K Q := by
  obtain ⟨A', c', w', hrun, h2, h3⟩ := run_append_new hI o.type hbase ⟨A0, rfl⟩ hown c hr h1 hsmall hby
  unfold Oper.wp execOp
  simp only [ho, resolve, invoke, builtin, Sem.run_bind, Sem.run_pure, Result.andThen_ok, List.map_toArray, List.map_cons, List.map_nil, hs, hx, hrun]
  have := h A' c' w'
  rw [ext_of h3] at this
  exact this h2
theorem wpList_append_new {ops : Array Oper} {rest : List Oper} (hgd : o.guard = none) {t e : TypeId} {size bytes : Nat} (hI : ElemInfo P t e size bytes) (s x : Operand)
    (ho : o.op = .call { callee := .builtin .append, args := #[s, x], argTypes := #[t, t] })
    (base : Nat) (hbase : base ≤ w.heap.size) (A0 : Option Addr) (hs : a.eval s = .slice A0 0 0) (hown : w.ownsRow base e size (.slice A0 0 0) 0 [])
    (A : Option Addr) (m c : Nat) (news : List Value) (hx : a.eval x = .slice A m c) (hr : Slc w size A m news) (h1 : ∀ u ∈ news, u.oneCell' = true)
    (hsmall : m ≤ 65536) (hby : bytes ≤ 65536)
    (h : ∀ A' c' z, (ext w z).ownsRow base e size (.slice A' m c') m news → wpList P ops Q rest (a.put o.dst (.slice A' m c')) (ext w z)) : wpList P ops Q (o :: rest) a w :=
  wpList_plain hgd fun _ hK => wp_append_new hI s x ho base hbase A0 hs hown A m c news hx hr h1 hsmall hby fun A' c' z h2 => hK _ _ (h A' c' z h2)
theorem step_append_new {ops : Array Oper} {E : Prop} (hgd : o.guard = none) {t e : TypeId} {size bytes : Nat} (hI : ElemInfo P t e size bytes) (s x : Operand)
    (ho : o.op = .call { callee := .builtin .append, args := #[s, x], argTypes := #[t, t] })
    (base : Nat) (hbase : base ≤ w.heap.size) (A0 : Option Addr) (hs : a.eval s = .slice A0 0 0) (hown : w.ownsRow base e size (.slice A0 0 0) 0 [])
    (A : Option Addr) (m c : Nat) (news : List Value) (hx : a.eval x = .slice A m c) (hr : Slc w size A m news) (h1 : ∀ u ∈ news, u.oneCell' = true)
    (hsmall : m ≤ 65536) (hby : bytes ≤ 65536)
    (h : ∀ A' c' z, (ext w z).ownsRow base e size (.slice A' m c') m news → K (a.put o.dst (.slice A' m c')) (ext w z)) :
    if Region.wanted o (yielded ops a.tmps) = true then Oper.wp P o a w K Q else E := by
  have hw : Region.wanted o (yielded ops a.tmps) = true := by simp [Region.wanted, hgd]
  rw [if_pos hw]
  exact wp_append_new hI s x ho base hbase A0 hs hown A m c news hx hr h1 hsmall hby h
end

/-- A call returns a new slice of n elements, with the cells xs. -/
def RetS (e : TypeId) (sz n : Nat) (xs : List Value) (w : World) (en : Ending) (w' : World) : Prop :=
  ∃ A c, en = .returned (.slice A n c) ∧ w'.ownsRow w.heap.size e sz (.slice A n c) n xs ∧ Ext w w'
theorem calls_slice {P : Program} {f : FuncId} {args : Array Value} {w : World} {e : TypeId} {sz n : Nat} {xs : List Value} {R : Ending → World → Prop}
    (h : Calls P f args w (RetS e sz n xs w)) (hR : ∀ A c z, (ext w z).ownsRow w.heap.size e sz (.slice A n c) n xs → R (.returned (.slice A n c)) (ext w z)) : Calls P f args w R :=
  h.mono fun en w' ⟨A, c, he, ho, hw⟩ => by
    subst he
    have := hR A c w'
    rw [ext_of hw] at this
    exact this ho
/-- .. and a second value. -/
def RetS2 (e : TypeId) (sz n : Nat) (xs : List Value) (u : Value) (w : World) (en : Ending) (w' : World) : Prop :=
  ∃ A c, en = .returned (.tuple #[.slice A n c, u]) ∧ w'.ownsRow w.heap.size e sz (.slice A n c) n xs ∧ Ext w w'
theorem calls_slice2 {P : Program} {f : FuncId} {args : Array Value} {w : World} {e : TypeId} {sz n : Nat} {xs : List Value} {u : Value} {R : Ending → World → Prop}
    (h : Calls P f args w (RetS2 e sz n xs u w)) (hR : ∀ A c z, (ext w z).ownsRow w.heap.size e sz (.slice A n c) n xs → R (.returned (.tuple #[.slice A n c, u])) (ext w z)) : Calls P f args w R :=
  h.mono fun en w' ⟨A, c, he, ho, hw⟩ => by
    subst he
    have := hR A c w'
    rw [ext_of hw] at this
    exact this ho
/-- .. and two more values. -/
def RetS3 (e : TypeId) (sz n : Nat) (xs : List Value) (u v : Value) (w : World) (en : Ending) (w' : World) : Prop :=
  ∃ A c, en = .returned (.tuple #[.slice A n c, u, v]) ∧ w'.ownsRow w.heap.size e sz (.slice A n c) n xs ∧ Ext w w'
theorem calls_slice3 {P : Program} {f : FuncId} {args : Array Value} {w : World} {e : TypeId} {sz n : Nat} {xs : List Value} {u v : Value} {R : Ending → World → Prop}
    (h : Calls P f args w (RetS3 e sz n xs u v w)) (hR : ∀ A c z, (ext w z).ownsRow w.heap.size e sz (.slice A n c) n xs → R (.returned (.tuple #[.slice A n c, u, v])) (ext w z)) : Calls P f args w R :=
  h.mono fun en w' ⟨A, c, he, ho, hw⟩ => by
    subst he
    have := hR A c w'
    rw [ext_of hw] at this
    exact this ho
/-- A function of the program's own. -/
def callB (P : Program) (f : FuncId) : Bool := match P.funcs[f]? with | some fn => fn.body.isSome && !(fn.name == "runtime.NumGoroutine") | none => false
theorem run_call_op {P : Program} {o : Oper} {a : Act} {w : World} {f : FuncId} {xs : Array Operand} {ts : Array TypeId} (ho : o.op = .call { callee := .value (.func f), args := xs, argTypes := ts }) (hf : callB P f = true) :
    (execOp a.eval o).run P w = .ok (.enter f (xs.map a.eval)) w := by
  have he : a.eval (.func f) = .func (.func f) #[] #[] := rfl
  unfold callB at hf
  split at hf
  · rename_i fn hfn
    simp only [Bool.and_eq_true, Bool.not_eq_true', beq_eq_false_iff_ne] at hf
    have hb : fn.body ≠ none := by
      intro h0; rw [h0] at hf; cases hf.1
    unfold execOp
    simp [ho, resolve, he, Deferred.ofValue, invoke, callFunc, hfn, hf.2, hb]
  · cases hf
section
variable {P : Program} {ops : Array Oper} {o : Oper} {a : Act} {w : World} {K : Act → World → Prop} {Q : Exit → Act → World → Prop} {E : Prop}
/-- A call as a step of a region that draws: its contract. -/
theorem step_call_of (hgd : o.guard = none) (f : FuncId) (xs : Array Operand) (ts : Array TypeId) (ho : o.op = .call { callee := .value (.func f), args := xs, argTypes := ts }) (hf : callB P f = true)
    (h : Calls P f (xs.map a.eval) w fun | .returned v, w'' => K (a.put o.dst v) w'' | .panicked chain, w'' => Q (.panic chain) a w'' | .outgrown, _ => LetsOut Q) :
    if Region.wanted o (yielded ops a.tmps) = true then Oper.wp P o a w K Q else E := by
  have hw : Region.wanted o (yielded ops a.tmps) = true := by simp [Region.wanted, hgd]
  rw [if_pos hw]
  unfold Oper.wp
  rw [run_call_op ho hf]
  exact h
theorem step_call_slice (hgd : o.guard = none) (f : FuncId) (xs : List Operand) (ts : Array TypeId) (ho : o.op = .call { callee := .value (.func f), args := xs.toArray, argTypes := ts }) (hf : callB P f = true) (args : List Value) (hargs : xs.map a.eval = args)
    {e : TypeId} {sz n : Nat} {ys : List Value} (h : Calls P f args.toArray w (RetS e sz n ys w)) (hk : ∀ A c z, (ext w z).ownsRow w.heap.size e sz (.slice A n c) n ys → K (a.put o.dst (.slice A n c)) (ext w z)) :
    if Region.wanted o (yielded ops a.tmps) = true then Oper.wp P o a w K Q else E :=
  step_call_of hgd f xs.toArray ts ho hf (by rw [List.map_toArray, hargs]; exact calls_slice h fun A c z ho => hk A c z ho)
theorem step_call_ext (hgd : o.guard = none) (f : FuncId) (xs : List Operand) (ts : Array TypeId) (ho : o.op = .call { callee := .value (.func f), args := xs.toArray, argTypes := ts }) (hf : callB P f = true) (args : List Value) (hargs : xs.map a.eval = args)
    {v : Value} (h : Calls P f args.toArray w fun e w' => e = .returned v ∧ Ext w w') (hk : ∀ z, K (a.put o.dst v) (ext w z)) :
    if Region.wanted o (yielded ops a.tmps) = true then Oper.wp P o a w K Q else E :=
  step_call_of hgd f xs.toArray ts ho hf (by rw [List.map_toArray, hargs]; exact Calls.ext h fun z => hk z)
end
theorem own_nil (w : World) (base : Nat) (e : TypeId) (sz : Nat) : w.ownsRow base e sz (.slice none 0 0) 0 [] := ⟨by simp, .inl ⟨rfl, rfl⟩⟩
theorem own_empty {w : World} {base g : Nat} {e : TypeId} (sz : Nat) (hb : base ≤ g) (h : Blk w g e #[]) : w.ownsRow base e sz (.slice (some ⟨g, 0, none⟩) 0 0) 0 [] :=
  ⟨by simp, .inr ⟨g, 0, #[], rfl, hb, h, Nat.le_refl _, by simp [maxLen], by simp, by simp⟩⟩
theorem own_grow {w w' : World} {base : Nat} {e : TypeId} {sz n : Nat} {v : Value} {xs : List Value} (h : w.ownsRow base e sz v n xs) (hg : Ext w w') : w'.ownsRow base e sz v n xs := by
  refine ⟨h.1, ?_⟩
  rcases h.2 with h2 | ⟨g, cap, cur, hv, hb, hh, r⟩
  · exact .inl h2
  · exact .inr ⟨g, cap, cur, hv, hb, Blk.grow (t := e) hh hg, r⟩
theorem own_mono {w : World} {base base' : Nat} {e : TypeId} {sz n : Nat} {v : Value} {xs : List Value} (h : w.ownsRow base e sz v n xs) (hb : base' ≤ base) : w.ownsRow base' e sz v n xs := by
  refine ⟨h.1, ?_⟩
  rcases h.2 with h2 | ⟨g, cap, cur, hv, hg, r⟩
  · exact .inl h2
  · exact .inr ⟨g, cap, cur, hv, Nat.le_trans hb hg, r⟩
end Go.Proofs.Ythejomcibobieaa
/- append that keeps all other blocks. -/
namespace Go.Proofs.Ythejomcibobieaa
open Go.RowKit

theorem run_append_keep {P : Program} {W0 W : World} (hW : Ext W0 W) {t e : TypeId} {size bytes : Nat} (hI : ElemInfo P t e size bytes) (ty : TypeId)
    {v : Value} {n : Nat} {xs : List Value} (hown : W.ownsRow W0.heap.size e size v n xs) {A : Option Addr} {m : Nat} (c : Nat) {news : List Value} (hm : 0 < m) (hr : Slc W size A m news) (h1 : ∀ u ∈ news, u.oneCell' = true)
    (hsmall : n + m ≤ 65536) (hby : bytes ≤ 65536) :
    ∃ A' c' w', (Builtin.append_ #[t, t] ty #[v, .slice A m c]).run P W = .ok (.slice A' (n + m) c') w' ∧ w'.ownsRow W0.heap.size e size (.slice A' (n + m) c') (n + m) (xs ++ news) ∧ Ext W0 w' ∧ W.grownBy w' v.ownBlock ∧ ((Value.slice A' (n + m) c').ownBlock = v.ownBlock ∨ (Value.slice A' (n + m) c').ownBlock = some W.heap.size) := by
  obtain ⟨ht, i, z, hi, hz, hsize, hbytes, hzs, hpos⟩ := hI
  have hold : ∀ k, v.ownBlock = some k → W0.heap.size ≤ k := fun k hk => (hown.lt k hk).1
  obtain ⟨b, off, hA, _, hc⟩ := hr.2 hm
  subst hA
  have hcells : ∀ j u, news[j]? = some u → W.cell? ((⟨b, off, none⟩ : Addr).add j) = some u := fun j u hu => by rw [addr_add]; exact hc j u hu
  have hb2 : (n + m) * bytes ≤ 140737488355328 := Nat.le_trans (Nat.mul_le_mul hsmall hby) (by decide)
  obtain ⟨v', w', hrun, h2, h3, _, h5⟩ := run_append_own_at (P := P) W W0.heap.size t ty e i z size bytes ht hi hz hsize hbytes hzs hpos v n xs hown ⟨b, off, none⟩ m c news hr.1 hcells h1 (by simp only [maxLen]; omega) hb2 hW.size
  obtain ⟨A', c', rfl⟩ := own_slice h2
  exact ⟨A', c', w', hrun, h2, hW.grown h3 hold, h3, h5⟩
theorem wpList_append_keep {P : Program} {o : Oper} {a : Act} {w : World} {Q : Exit → Act → World → Prop} {ops : Array Oper} {rest : List Oper} (hgd : o.guard = none) (W0 : World) (hW : Ext W0 w) {t e : TypeId} {size bytes : Nat} (hI : ElemInfo P t e size bytes) (s x : Operand)
    (ho : o.op = .call { callee := .builtin .append, args := #[s, x], argTypes := #[t, t] })
    (v : Value) (n : Nat) (xs : List Value) (hs : a.eval s = v) (hown : w.ownsRow W0.heap.size e size v n xs)
    (A : Option Addr) (m c : Nat) (news : List Value) (hx : a.eval x = .slice A m c) (hm : 0 < m) (hr : Slc w size A m news) (h1 : ∀ u ∈ news, u.oneCell' = true)
    (hsmall : n + m ≤ 65536) (hby : bytes ≤ 65536)
    (h : ∀ A' c' z, (ext W0 z).ownsRow W0.heap.size e size (.slice A' (n + m) c') (n + m) (xs ++ news) → (∀ b, b < w.heap.size → v.ownBlock ≠ some b → (ext W0 z).heap[b]? = w.heap[b]? ∧ (Value.slice A' (n + m) c').ownBlock ≠ some b) → wpList P ops Q rest (a.put o.dst (.slice A' (n + m) c')) (ext W0 z)) : wpList P ops Q (o :: rest) a w :=
  wpList_plain hgd fun _ hK => by
    obtain ⟨A', c', w', hrun, h2, h3, h4, h5⟩ := run_append_keep hW hI o.type hown c hm hr h1 hsmall hby
    unfold Oper.wp execOp
    simp only [ho, resolve, invoke, builtin, Sem.run_bind, Sem.run_pure, Result.andThen_ok, List.map_toArray, List.map_cons, List.map_nil, hs, hx, hrun]
    have := h A' c' w'
    rw [ext_of h3] at this
    refine hK _ _ (this h2 fun b hb hne => ⟨h4.block b hb (fun e => hne e.symm), fun e => ?_⟩)
    rcases h5 with h5 | h5
    · exact hne (h5.symm.trans e)
    · rw [h5] at e; injection e with e; omega
end Go.Proofs.Ythejomcibobieaa
/- make: a new block of zero cells. -/
namespace Go.Proofs.Ythejomcibobieaa
open Go.RowKit

def ZInfo (P : Program) (t e : TypeId) (z : Value) : Prop := P.underlying t = some (.slice e) ∧ ∃ i, P.info? e = some i ∧ i.zero = some z ∧ i.size = 1 ∧ i.bytes ≤ 64 ∧ z.cells = #[z]
theorem zInfo {P : Program} {t e : TypeId} {z : Value} {bytes : Nat} (ht : P.underlying t = some (.slice e)) (h : (P.info? e).map (fun i => (i.zero, i.size, i.bytes)) = some (some z, 1, bytes)) (hb : bytes ≤ 64) (hz : z.cells = #[z]) : ZInfo P t e z := by
  obtain ⟨i, h1, h2, h3, h4⟩ := info_parts h
  exact ⟨ht, i, h1, h2, h3, by omega, hz⟩
theorem made_one (z : Value) (n : Nat) : madeCells #[z] n = Array.replicate n z := by
  unfold madeCells
  apply Array.ext
  · simp
  · intro i h1 h2
    simp [Nat.mod_one]
theorem wpList_make_blk {P : Program} (w : World) {ops : Array Oper} {rest : List Oper} {o : Oper} {a : Act} {Q : Exit → Act → World → Prop}
    (hg : o.guard = none) (l c : Operand) (t : TypeId) (hop : o.op = Op.makeSlice t l c) (e : TypeId) (z : Value) (hI : ZInfo P t e z) (n : Nat) (hn : n ≤ 65536) (hl : a.eval l = .int .i64 (n : Int)) (hc : a.eval c = .int .i64 (n : Int))
    (hK : ∀ x, Blk (ext w x) w.heap.size e (Array.replicate n z) → wpList P ops Q rest (a.put o.dst (.slice (some ⟨w.heap.size, 0, none⟩) n n)) (ext w x)) : wpList P ops Q (o :: rest) a w := by
  obtain ⟨h1, i, h2, h3, h4, h5, h6⟩ := hI
  refine wpList_make_full w hg l c t hop w.heap.size e i z 1 h1 h2 h3 h4 .i64 .i64 n n n hl hc rfl rfl ?_ (by unfold maxLen; omega) (Nat.le_refl _) ?_
  · have := Nat.mul_le_mul h5 hn; omega
  · intro w' hown hgr
    have hE : Ext w w' := (Ext.refl w).grown hgr (fun k h => by cases h)
    have := hK w'
    rw [ext_of hE] at this
    refine this ?_
    obtain ⟨_, ⟨h, _⟩ | ⟨g, cap, cur, hv, hb, hh, hn2, hm, hs, ht⟩⟩ := hown
    · injection h with h; cases h
    · injection hv with e1 e2 e3
      injection e1 with e1
      injection e1 with e1
      subst e1 e3
      have hcur : cur = Array.replicate n z := by
        have h7 : cur.toList.take (n * 1) = cur.toList := List.take_of_length_le (by simp; omega)
        rw [h7, h6, made_one, Nat.mul_one] at ht
        exact Array.toList_inj.1 ht
      rw [← hcur]; exact hh
end Go.Proofs.Ythejomcibobieaa
/- Lists in a block of their own. -/
namespace Go.Proofs.Ythejomcibobieaa
open Go.RowKit

/-- The values xs stand at the head of block g, of capacity c. -/
def Lst (t : TypeId) (w : World) (g c : Nat) (xs : List Value) : Prop := ∃ cur : Array Value, Blk w g t cur ∧ xs.length ≤ c ∧ c ≤ maxLen ∧ ∀ j, j < xs.length → cur[j]? = xs[j]?
section
variable {t : TypeId} {w w' : World} {g c : Nat} {xs : List Value}
theorem Lst.grow (h : Lst t w g c xs) (he : Ext w w') : Lst t w' g c xs := by
  obtain ⟨cur, hB, r⟩ := h
  exact ⟨cur, hB.grow he, r⟩
theorem Lst.at_ (h : Lst t w g c xs) (j : Nat) (hj : j < xs.length) : w.cell? ⟨g, j, none⟩ = xs[j]? := by
  obtain ⟨cur, hB, _, _, hat⟩ := h
  exact (hB.cell j).trans (hat j hj)
theorem Lst.lt (h : Lst t w g c xs) : g < w.heap.size := by obtain ⟨cur, hB, _⟩ := h; exact hB.lt
theorem Lst.of_blk {xs : List Value} (h : Blk w g t xs.toArray) (hm : xs.length ≤ maxLen) : Lst t w g xs.length xs := ⟨_, h, Nat.le_refl _, hm, fun j _ => by simp⟩
theorem lst_of_own {base : Nat} {A : Option Addr} {n : Nat} (hl : 0 < n) (hn : xs.length = n) (h : w.ownsRow base t 1 (.slice A n c) n xs) : ∃ g, A = some ⟨g, 0, none⟩ ∧ base ≤ g ∧ Lst t w g c xs := by
  obtain ⟨_, h | ⟨g, cap, cur, hv, hb, hh, hn2, hm, hs, ht⟩⟩ := h
  · omega
  · injection hv with h1 h2 h3
    subst h1 h3
    refine ⟨g, rfl, hb, cur, hh, by omega, hm, fun j hj => ?_⟩
    have h4 : (cur.toList.take (n * 1))[j]? = xs[j]? := by rw [ht]
    rw [List.getElem?_take, if_pos (by omega)] at h4
    simpa using h4
end
/-- the first k cells of n are filled -/
def fillA (n : Nat) (z : Value) (f : Nat → Value) (k : Nat) : Array Value := ((List.range n).map fun i => if i < k then f i else z).toArray
theorem fill_size (n : Nat) (z : Value) (f : Nat → Value) (k : Nat) : (fillA n z f k).size = n := by simp [fillA]
theorem fill_at (n : Nat) (z : Value) (f : Nat → Value) (k i : Nat) (h : i < n) : (fillA n z f k)[i]? = some (if i < k then f i else z) := by
  simp [fillA, h]
theorem fill_zero (n : Nat) (z : Value) (f : Nat → Value) : fillA n z f 0 = Array.replicate n z := by
  apply Array.ext
  · simp [fillA]
  · intro i h1 h2; simp [fillA]
theorem fill_set (n : Nat) (z : Value) (f : Nat → Value) (k : Nat) (v : Value) (hv : v = f k) : (fillA n z f k).setIfInBounds k v = fillA n z f (k + 1) := by
  subst hv
  apply Array.ext
  · simp [fillA]
  · intro i h1 h2
    have hi : i < n := by simpa [fillA] using h2
    rw [Array.getElem_setIfInBounds (by simpa [fillA] using hi)]
    simp only [fillA, List.getElem_toArray, List.getElem_map, List.getElem_range]
    by_cases h : k = i
    · subst h; simp
    · rw [if_neg h]
      have : (i < k + 1) ↔ (i < k) := by omega
      simp only [this]
def valL (n : Nat) (f : Nat → Value) : List Value := (List.range n).map f
theorem valL_len (n : Nat) (f : Nat → Value) : (valL n f).length = n := by simp [valL]
theorem valL_at (n : Nat) (f : Nat → Value) (i : Nat) (h : i < n) : (valL n f)[i]? = some (f i) := by simp [valL, h]
theorem fill_full (n : Nat) (z : Value) (f : Nat → Value) : fillA n z f n = (valL n f).toArray := by
  unfold fillA valL
  congr 1
  apply List.map_congr_left
  intro i hi
  rw [if_pos (List.mem_range.1 hi)]
end Go.Proofs.Ythejomcibobieaa
/- Worlds in which one block turns; cells written one by one; clear of one element. -/
namespace Go.Proofs.Ythejomcibobieaa
open Go.RowKit

/-- the cells vs, written one by one from place o on -/
def putA (cs : Array Value) : Nat → List Value → Array Value
  | _, [] => cs
  | o, v :: r => putA (cs.setIfInBounds o v) (o + 1) r
theorem putA_size : ∀ (vs : List Value) (o : Nat) (cs : Array Value), (putA cs o vs).size = cs.size
  | [], _, _ => rfl
  | v :: r, o, cs => by rw [putA, putA_size r]; simp
theorem putA_at : ∀ (vs : List Value) (o : Nat) (cs : Array Value) (j : Nat), o + vs.length ≤ cs.size → (putA cs o vs)[j]? = if o ≤ j ∧ j < o + vs.length then vs[j - o]? else cs[j]?
  | [], o, cs, j, _ => by rw [putA, if_neg (by simp)]
  | v :: r, o, cs, j, h => by
    rw [putA, putA_at r (o + 1) _ j (by simp at h ⊢; omega)]
    simp only [List.length_cons] at h ⊢
    rcases Nat.lt_trichotomy j o with h1 | h1 | h1
    · rw [if_neg (by omega), if_neg (by omega), Array.getElem?_setIfInBounds_ne (by omega)]
    · subst h1
      rw [if_neg (by omega), if_pos (by omega), Array.getElem?_setIfInBounds_self_of_lt (by omega), Nat.sub_self, List.getElem?_cons_zero]
    · by_cases h2 : j < o + 1 + r.length
      · rw [if_pos (by omega), if_pos (by omega), show j - o = (j - (o + 1)) + 1 by omega, List.getElem?_cons_succ]
      · rw [if_neg (by omega), if_neg (by omega), Array.getElem?_setIfInBounds_ne (by omega)]
theorem Blk.setCells {g : Nat} {t : TypeId} : ∀ (vs : List Value) (o : Nat) (cs : Array Value) (w : World), Blk w g t cs → Blk (w.setCells g o vs) g t (putA cs o vs)
  | [], _, _, _, h => h
  | v :: r, o, _, _, h => Blk.setCells r (o + 1) _ _ (h.set_ o v)
theorem grown_set (g o : Nat) (v : Value) (w : World) : w.grownBy (w.setCell ⟨g, o, none⟩ v) (some g) :=
  ⟨rfl, rfl, rfl, by simp [World.setCell], fun b _ hb => Below.heap_setCell _ _ _ _ (by intro e; subst e; exact hb rfl)⟩
theorem grown_trans {a b c : World} {row : Option Nat} (h : a.grownBy b row) (k : b.grownBy c row) : a.grownBy c row :=
  ⟨k.os.trans h.os, k.tape.trans h.tape, k.output.trans h.output, Nat.le_trans h.size k.size, fun i hi hne => (k.block i (Nat.lt_of_lt_of_le hi h.size) hne).trans (h.block i hi hne)⟩
theorem grown_refl (w : World) (row : Option Nat) : w.grownBy w row := ⟨rfl, rfl, rfl, Nat.le_refl _, fun _ _ _ => rfl⟩
theorem grown_ext {w w' : World} (h : Ext w w') (row : Option Nat) : w.grownBy w' row := ⟨h.os, h.tape, h.output, h.size, fun b hb _ => h.block b hb⟩
theorem grown_setCells (g : Nat) : ∀ (vs : List Value) (o : Nat) (w : World), w.grownBy (w.setCells g o vs) (some g)
  | [], _, w => grown_refl w _
  | v :: r, o, w => grown_trans (grown_set g o v w) (grown_setCells g r (o + 1) _)
/-- 'clear(s)', s a slice of one element of several cells -/
theorem run_clear_one {P : Program} (w : World) (t e ty : TypeId) (z : Value) (zs : List Value) (ht : P.underlying t = some (.slice e)) (hv : ∀ w, (zeroValue e).run P w = .ok z w) (hz : z.cells = zs.toArray) (h1 : ∀ v ∈ zs, v.oneCell' = true) (b o c : Nat)
    (hc : ∀ j, j < zs.length → (w.cell? ⟨b, o + j, none⟩).isSome = true) (hf : ∀ j, j < zs.length → w.frozen? ⟨b, o + j, none⟩ = false) :
    (Builtin.clear_ #[t] ty #[.slice (some ⟨b, o, none⟩) 1 c]).run P w = .ok (.tuple #[]) (w.setCells b o zs) := by
  have hzc : (Builtin.zeroCells z.cells 1).toList = zs := by
    rw [hz]
    simp only [Builtin.zeroCells, Nat.one_mul, List.size_toArray]
    apply List.ext_getElem?
    intro i
    simp only [Array.toList_map, Array.toList_range, List.getElem?_map]
    rcases Nat.lt_or_ge i zs.length with h | h
    · rw [List.getElem?_range h, List.getElem?_eq_getElem h, Option.map_some, Nat.mod_eq_of_lt h, getElem!_pos _ i (by simpa using h)]
      simp
    · rw [List.getElem?_eq_none (by simpa using h), List.getElem?_eq_none h]
      rfl
  have hst := run_storeCells_cells (P := P) b o zs 0 w (by simpa using hc) (by simpa using hf) h1
  simp only [Nat.add_zero] at hst
  simp [Builtin.clear_, run_underlying ht, hv, hzc, hst]
end Go.Proofs.Ythejomcibobieaa
