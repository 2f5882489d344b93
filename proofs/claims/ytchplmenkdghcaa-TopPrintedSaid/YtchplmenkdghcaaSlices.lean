/- Slices: what they hold; append onto a slice of the call's own; calls that return new slices. -/
import Derived.Test.YtchplmenkdghcaaCommon
import Derived.Maps.AppendAt
import Derived.Deep.AppendLies
import Derived.Deep.RegionLaw
import Derived.Laws.OwnMore
import Derived.OwnWalk
import Derived.Lib.SliceRun
namespace Go.Proofs.Ytchplmenkdghcaa
open Go.RowKit
/-- The first n blocks of a world. -/
def trunc (w : World) (n : Nat) : World := { w with heap := w.heap.extract 0 n }
theorem trunc_at (w : World) (n k : Nat) (h : k < n) : (trunc w n).heap[k]? = w.heap[k]? := by
  show (w.heap.extract 0 n)[k]? = w.heap[k]?
  rw [Array.getElem?_extract]
  rcases Nat.lt_or_ge k w.heap.size with h1 | h1
  · rw [if_pos (by omega), Nat.zero_add]
  · rw [if_neg (by omega), Array.getElem?_eq_none h1]
theorem trunc_size {w : World} {n : Nat} (h : n ≤ w.heap.size) : (trunc w n).heap.size = n := by simp [trunc]; omega
theorem trunc_ext {w : World} {n : Nat} (h : n ≤ w.heap.size) : Ext (trunc w n) w :=
  ⟨rfl, rfl, rfl, by rw [trunc_size h]; exact h, fun k hk => (trunc_at w n k (by rw [trunc_size h] at hk; exact hk)).symm⟩
theorem trunc_blk {w : World} {n g : Nat} {t : TypeId} {cs : Array Value} (h : Blk w g t cs) (hg : g < n) : Blk (trunc w n) g t cs := (trunc_at w n g hg).trans h
/-- The slice of n elements (sz cells each) that starts at A holds the cells xs. -/
def Slc (w : World) (sz : Nat) (A : Option Addr) (n : Nat) (xs : List Value) : Prop :=
  xs.length = n * sz ∧ (0 < n → ∃ b off, A = some ⟨b, off, none⟩ ∧ b < w.heap.size ∧ ∀ j u, xs[j]? = some u → w.cell? ⟨b, off + j, none⟩ = some u)
theorem Slc.grow {w w' : World} {sz n : Nat} {A : Option Addr} {xs : List Value} (h : Slc w sz A n xs) (hg : Ext w w') : Slc w' sz A n xs :=
  ⟨h.1, fun hn => by
    obtain ⟨b, off, e, hb, hc⟩ := h.2 hn
    exact ⟨b, off, e, Nat.lt_of_lt_of_le hb hg.size, fun j u hu => (hg.cell hb).trans (hc j u hu)⟩⟩
theorem addr_add (b off j : Nat) : (⟨b, off, none⟩ : Addr).add j = ⟨b, off + j, none⟩ := by
  unfold Addr.add
  split
  · rename_i h; have : j = 0 := by simpa using h
    subst this; rfl
  · rfl
theorem Slc.of_own {w : World} {base : Nat} {e : TypeId} {sz n c : Nat} {A : Option Addr} {xs : List Value} (h : w.ownsRow base e sz (.slice A n c) n xs) : Slc w sz A n xs := by
  refine ⟨h.1, fun hn => ?_⟩
  obtain ⟨g, cap, hv, _, hlt⟩ := h.form hn
  have hA : A = some ⟨g, 0, none⟩ := by injection hv
  subst hA
  refine ⟨g, 0, rfl, hlt, fun j u hu => ?_⟩
  have := h.cells (g := g) rfl j u hu
  rwa [addr_add] at this
theorem Slc.of_blk {w : World} {g : Nat} {t : TypeId} {cs : Array Value} {sz n : Nat} (h : Blk w g t cs) (hl : cs.size = n * sz) : Slc w sz (some ⟨g, 0, none⟩) n cs.toList :=
  ⟨by simpa using hl, fun _ => ⟨g, 0, rfl, h.lt, fun j u hu => by rw [Nat.zero_add, h.cell j, ← hu]; simp⟩⟩
/-- What is known of an element type. -/
def ElemInfo (P : Program) (t e : TypeId) (size bytes : Nat) : Prop :=
  P.underlying t = some (.slice e) ∧ ∃ (i : TypeInfo) (z : Value), P.info? e = some i ∧ i.zero = some z ∧ i.size = size ∧ i.bytes = bytes ∧ z.cells.size = size ∧ 0 < size
theorem elemInfo {P : Program} {t e : TypeId} {size bytes : Nat} {z : Value} (ht : P.underlying t = some (.slice e)) (h : (P.info? e).map (fun i => (i.zero, i.size, i.bytes)) = some (some z, size, bytes)) (hz : z.cells.size = size) (hs : 0 < size) : ElemInfo P t e size bytes := by
  cases hi : P.info? e with
  | none => rw [hi] at h; cases h
  | some i =>
    rw [hi] at h
    simp only [Option.map_some, Option.some.injEq, Prod.mk.injEq] at h
    exact ⟨ht, i, z, hi, h.1, h.2.1, h.2.2, hz, hs⟩
theorem own_slice {w : World} {base : Nat} {e : TypeId} {size n : Nat} {v : Value} {xs : List Value} (h : w.ownsRow base e size v n xs) : ∃ A c, v = .slice A n c := by
  rcases h.2 with ⟨rfl, rfl⟩ | ⟨g, cap, cur, rfl, _⟩
  · exact ⟨none, 0, rfl⟩
  · exact ⟨_, _, rfl⟩
theorem Ext.grown {a w w' : World} {row : Option Nat} (h : Ext a w) (hg : w.grownBy w' row) (hr : ∀ k, row = some k → a.heap.size ≤ k) : Ext a w' := Below.grown h hg h.size hr
section
variable {P : Program} {o : Oper} {a : Act} {w : World} {K : Act → World → Prop} {Q : Exit → Act → World → Prop}
end
/-- A function of the program's own. -/
def callB (P : Program) (f : FuncId) : Bool := match P.funcs[f]? with | some fn => fn.body.isSome && !(fn.name == "runtime.NumGoroutine") | none => false
theorem run_call_op {P : Program} {o : Oper} {a : Act} {w : World} {f : FuncId} {xs : Array Operand} {ts : Array TypeId} (ho : o.op = .call { callee := .value (.func f), args := xs, argTypes := ts }) (hf : callB P f = true) :
    (execOp a.eval o).run P w = .ok (.enter f (xs.map a.eval)) w := by
  have he : a.eval (.func f) = .func (.func f) #[] #[] := rfl
  unfold callB at hf
  split at hf
  · rename_i fn hfn
    simp only [Bool.and_eq_true, Bool.not_eq_true', beq_eq_false_iff_ne] at hf
    have hb : fn.body ≠ none := by
      intro h0; rw [h0] at hf; cases hf.1
    unfold execOp
    simp [ho, resolve, he, Deferred.ofValue, invoke, callFunc, hfn, hf.2, hb]
  · cases hf
theorem own_nil (w : World) (base : Nat) (e : TypeId) (sz : Nat) : w.ownsRow base e sz (.slice none 0 0) 0 [] := ⟨by simp, .inl ⟨rfl, rfl⟩⟩
theorem own_grow {w w' : World} {base : Nat} {e : TypeId} {sz n : Nat} {v : Value} {xs : List Value} (h : w.ownsRow base e sz v n xs) (hg : Ext w w') : w'.ownsRow base e sz v n xs := by
  refine ⟨h.1, ?_⟩
  rcases h.2 with h2 | ⟨g, cap, cur, hv, hb, hh, r⟩
  · exact .inl h2
  · exact .inr ⟨g, cap, cur, hv, hb, Blk.grow (t := e) hh hg, r⟩
end Go.Proofs.Ytchplmenkdghcaa
namespace Go.Proofs.Ytchplmenkdghcaa
open Go.RowKit
theorem run_append_keep {P : Program} {W0 W : World} (hW : Ext W0 W) {t e : TypeId} {size bytes : Nat} (hI : ElemInfo P t e size bytes) (ty : TypeId)
    {v : Value} {n : Nat} {xs : List Value} (hown : W.ownsRow W0.heap.size e size v n xs) {A : Option Addr} {m : Nat} (c : Nat) {news : List Value} (hm : 0 < m) (hr : Slc W size A m news) (h1 : ∀ u ∈ news, u.oneCell' = true)
    (hsmall : n + m ≤ 65536) (hby : bytes ≤ 65536) :
    ∃ A' c' w', (Builtin.append_ #[t, t] ty #[v, .slice A m c]).run P W = .ok (.slice A' (n + m) c') w' ∧ w'.ownsRow W0.heap.size e size (.slice A' (n + m) c') (n + m) (xs ++ news) ∧ Ext W0 w' ∧ W.grownBy w' v.ownBlock ∧ ((Value.slice A' (n + m) c').ownBlock = v.ownBlock ∨ (Value.slice A' (n + m) c').ownBlock = some W.heap.size) := by
  obtain ⟨ht, i, z, hi, hz, hsize, hbytes, hzs, hpos⟩ := hI
  have hold : ∀ k, v.ownBlock = some k → W0.heap.size ≤ k := fun k hk => (hown.lt k hk).1
  obtain ⟨b, off, hA, _, hc⟩ := hr.2 hm
  subst hA
  have hcells : ∀ j u, news[j]? = some u → W.cell? ((⟨b, off, none⟩ : Addr).add j) = some u := fun j u hu => by rw [addr_add]; exact hc j u hu
  have hb2 : (n + m) * bytes ≤ 140737488355328 := Nat.le_trans (Nat.mul_le_mul hsmall hby) (by decide)
  obtain ⟨v', w', hrun, h2, h3, _, h5⟩ := run_append_own_at (P := P) W W0.heap.size t ty e i z size bytes ht hi hz hsize hbytes hzs hpos v n xs hown ⟨b, off, none⟩ m c news hr.1 hcells h1 (by simp only [maxLen]; omega) hb2 hW.size
  obtain ⟨A', c', rfl⟩ := own_slice h2
  exact ⟨A', c', w', hrun, h2, hW.grown h3 hold, h3, h5⟩
theorem wpList_append_keep {P : Program} {o : Oper} {a : Act} {w : World} {Q : Exit → Act → World → Prop} {ops : Array Oper} {rest : List Oper} (hgd : o.guard = none) (W0 : World) (hW : Ext W0 w) {t e : TypeId} {size bytes : Nat} (hI : ElemInfo P t e size bytes) (s x : Operand)
    (ho : o.op = .call { callee := .builtin .append, args := #[s, x], argTypes := #[t, t] })
    (v : Value) (n : Nat) (xs : List Value) (hs : a.eval s = v) (hown : w.ownsRow W0.heap.size e size v n xs)
    (A : Option Addr) (m c : Nat) (news : List Value) (hx : a.eval x = .slice A m c) (hm : 0 < m) (hr : Slc w size A m news) (h1 : ∀ u ∈ news, u.oneCell' = true)
    (hsmall : n + m ≤ 65536) (hby : bytes ≤ 65536)
    (h : ∀ A' c' z, (ext W0 z).ownsRow W0.heap.size e size (.slice A' (n + m) c') (n + m) (xs ++ news) → (∀ b, b < w.heap.size → v.ownBlock ≠ some b → (ext W0 z).heap[b]? = w.heap[b]? ∧ (Value.slice A' (n + m) c').ownBlock ≠ some b) → wpList P ops Q rest (a.put o.dst (.slice A' (n + m) c')) (ext W0 z)) : wpList P ops Q (o :: rest) a w :=
  wpList_plain hgd fun _ hK => by
    obtain ⟨A', c', w', hrun, h2, h3, h4, h5⟩ := run_append_keep hW hI o.type hown c hm hr h1 hsmall hby
    unfold Oper.wp execOp
    simp only [ho, resolve, invoke, builtin, Sem.run_bind, Sem.run_pure, Result.andThen_ok, List.map_toArray, List.map_cons, List.map_nil, hs, hx, hrun]
    have := h A' c' w'
    rw [ext_of h3] at this
    refine hK _ _ (this h2 fun b hb hne => ⟨h4.block b hb (fun e => hne e.symm), fun e => ?_⟩)
    rcases h5 with h5 | h5
    · exact hne (h5.symm.trans e)
    · rw [h5] at e; injection e with e; omega
end Go.Proofs.Ytchplmenkdghcaa
namespace Go.Proofs.Ytchplmenkdghcaa
open Go.RowKit
def ZInfo (P : Program) (t e : TypeId) (z : Value) : Prop := P.underlying t = some (.slice e) ∧ ∃ i, P.info? e = some i ∧ i.zero = some z ∧ i.size = 1 ∧ i.bytes ≤ 64 ∧ z.cells = #[z]
theorem zInfo {P : Program} {t e : TypeId} {z : Value} {bytes : Nat} (ht : P.underlying t = some (.slice e)) (h : (P.info? e).map (fun i => (i.zero, i.size, i.bytes)) = some (some z, 1, bytes)) (hb : bytes ≤ 64) (hz : z.cells = #[z]) : ZInfo P t e z := by
  obtain ⟨i, h1, h2, h3, h4⟩ := info_parts h
  exact ⟨ht, i, h1, h2, h3, by omega, hz⟩
theorem made_one (z : Value) (n : Nat) : madeCells #[z] n = Array.replicate n z := by
  unfold madeCells
  apply Array.ext
  · simp
  · intro i h1 h2
    simp [Nat.mod_one]
theorem wpList_make_blk {P : Program} (w : World) {ops : Array Oper} {rest : List Oper} {o : Oper} {a : Act} {Q : Exit → Act → World → Prop}
    (hg : o.guard = none) (l c : Operand) (t : TypeId) (hop : o.op = Op.makeSlice t l c) (e : TypeId) (z : Value) (hI : ZInfo P t e z) (n : Nat) (hn : n ≤ 65536) (hl : a.eval l = .int .i64 (n : Int)) (hc : a.eval c = .int .i64 (n : Int))
    (hK : ∀ x, Blk (ext w x) w.heap.size e (Array.replicate n z) → wpList P ops Q rest (a.put o.dst (.slice (some ⟨w.heap.size, 0, none⟩) n n)) (ext w x)) : wpList P ops Q (o :: rest) a w := by
  obtain ⟨h1, i, h2, h3, h4, h5, h6⟩ := hI
  refine wpList_make_full w hg l c t hop w.heap.size e i z 1 h1 h2 h3 h4 .i64 .i64 n n n hl hc rfl rfl ?_ (by unfold maxLen; omega) (Nat.le_refl _) ?_
  · have := Nat.mul_le_mul h5 hn; omega
  · intro w' hown hgr
    have hE : Ext w w' := (Ext.refl w).grown hgr (fun k h => by cases h)
    have := hK w'
    rw [ext_of hE] at this
    refine this ?_
    obtain ⟨_, ⟨h, _⟩ | ⟨g, cap, cur, hv, hb, hh, hn2, hm, hs, ht⟩⟩ := hown
    · injection h with h; cases h
    · injection hv with e1 e2 e3
      injection e1 with e1
      injection e1 with e1
      subst e1 e3
      have hcur : cur = Array.replicate n z := by
        have h7 : cur.toList.take (n * 1) = cur.toList := List.take_of_length_le (by simp; omega)
        rw [h7, h6, made_one, Nat.mul_one] at ht
        exact Array.toList_inj.1 ht
      rw [← hcur]; exact hh
end Go.Proofs.Ytchplmenkdghcaa
namespace Go.Proofs.Ytchplmenkdghcaa
open Go.RowKit
/-- The values xs stand at the head of block g, of capacity c. -/
def Lst (t : TypeId) (w : World) (g c : Nat) (xs : List Value) : Prop := ∃ cur : Array Value, Blk w g t cur ∧ xs.length ≤ c ∧ c ≤ maxLen ∧ ∀ j, j < xs.length → cur[j]? = xs[j]?
section
variable {t : TypeId} {w w' : World} {g c : Nat} {xs : List Value}
theorem Lst.grow (h : Lst t w g c xs) (he : Ext w w') : Lst t w' g c xs := by
  obtain ⟨cur, hB, r⟩ := h
  exact ⟨cur, hB.grow he, r⟩
theorem Lst.at_ (h : Lst t w g c xs) (j : Nat) (hj : j < xs.length) : w.cell? ⟨g, j, none⟩ = xs[j]? := by
  obtain ⟨cur, hB, _, _, hat⟩ := h
  exact (hB.cell j).trans (hat j hj)
theorem Lst.lt (h : Lst t w g c xs) : g < w.heap.size := by obtain ⟨cur, hB, _⟩ := h; exact hB.lt
theorem Lst.of_blk {xs : List Value} (h : Blk w g t xs.toArray) (hm : xs.length ≤ maxLen) : Lst t w g xs.length xs := ⟨_, h, Nat.le_refl _, hm, fun j _ => by simp⟩
theorem lst_of_own {base : Nat} {A : Option Addr} {n : Nat} (hl : 0 < n) (hn : xs.length = n) (h : w.ownsRow base t 1 (.slice A n c) n xs) : ∃ g, A = some ⟨g, 0, none⟩ ∧ base ≤ g ∧ Lst t w g c xs := by
  obtain ⟨_, h | ⟨g, cap, cur, hv, hb, hh, hn2, hm, hs, ht⟩⟩ := h
  · omega
  · injection hv with h1 h2 h3
    subst h1 h3
    refine ⟨g, rfl, hb, cur, hh, by omega, hm, fun j hj => ?_⟩
    have h4 : (cur.toList.take (n * 1))[j]? = xs[j]? := by rw [ht]
    rw [List.getElem?_take, if_pos (by omega)] at h4
    simpa using h4
end
end Go.Proofs.Ytchplmenkdghcaa
namespace Go.Proofs.Ytchplmenkdghcaa
open Go.RowKit
/-- the cells vs, written one by one from place o on -/
def putA (cs : Array Value) : Nat → List Value → Array Value
  | _, [] => cs
  | o, v :: r => putA (cs.setIfInBounds o v) (o + 1) r
theorem putA_size : ∀ (vs : List Value) (o : Nat) (cs : Array Value), (putA cs o vs).size = cs.size
  | [], _, _ => rfl
  | v :: r, o, cs => by rw [putA, putA_size r]; simp
theorem putA_at : ∀ (vs : List Value) (o : Nat) (cs : Array Value) (j : Nat), o + vs.length ≤ cs.size → (putA cs o vs)[j]? = if o ≤ j ∧ j < o + vs.length then vs[j - o]? else cs[j]?
  | [], o, cs, j, _ => by rw [putA, if_neg (by simp)]
  | v :: r, o, cs, j, h => by
    rw [putA, putA_at r (o + 1) _ j (by simp at h ⊢; omega)]
    simp only [List.length_cons] at h ⊢
    rcases Nat.lt_trichotomy j o with h1 | h1 | h1
    · rw [if_neg (by omega), if_neg (by omega), Array.getElem?_setIfInBounds_ne (by omega)]
    · subst h1
      rw [if_neg (by omega), if_pos (by omega), Array.getElem?_setIfInBounds_self_of_lt (by omega), Nat.sub_self, List.getElem?_cons_zero]
    · by_cases h2 : j < o + 1 + r.length
      · rw [if_pos (by omega), if_pos (by omega), show j - o = (j - (o + 1)) + 1 by omega, List.getElem?_cons_succ]
      · rw [if_neg (by omega), if_neg (by omega), Array.getElem?_setIfInBounds_ne (by omega)]
theorem Blk.setCells {g : Nat} {t : TypeId} : ∀ (vs : List Value) (o : Nat) (cs : Array Value) (w : World), Blk w g t cs → Blk (w.setCells g o vs) g t (putA cs o vs)
  | [], _, _, _, h => h
  | v :: r, o, _, _, h => Blk.setCells r (o + 1) _ _ (h.set_ o v)
theorem grown_set (g o : Nat) (v : Value) (w : World) : w.grownBy (w.setCell ⟨g, o, none⟩ v) (some g) :=
  ⟨rfl, rfl, rfl, by simp [World.setCell], fun b _ hb => Below.heap_setCell _ _ _ _ (by intro e; subst e; exact hb rfl)⟩
theorem grown_trans {a b c : World} {row : Option Nat} (h : a.grownBy b row) (k : b.grownBy c row) : a.grownBy c row :=
  ⟨k.os.trans h.os, k.tape.trans h.tape, k.output.trans h.output, Nat.le_trans h.size k.size, fun i hi hne => (k.block i (Nat.lt_of_lt_of_le hi h.size) hne).trans (h.block i hi hne)⟩
theorem grown_refl (w : World) (row : Option Nat) : w.grownBy w row := ⟨rfl, rfl, rfl, Nat.le_refl _, fun _ _ _ => rfl⟩
theorem grown_ext {w w' : World} (h : Ext w w') (row : Option Nat) : w.grownBy w' row := ⟨h.os, h.tape, h.output, h.size, fun b hb _ => h.block b hb⟩
theorem grown_setCells (g : Nat) : ∀ (vs : List Value) (o : Nat) (w : World), w.grownBy (w.setCells g o vs) (some g)
  | [], _, w => grown_refl w _
  | v :: r, o, w => grown_trans (grown_set g o v w) (grown_setCells g r (o + 1) _)
/-- 'clear(s)', s a slice of one element of several cells -/
theorem run_clear_one {P : Program} (w : World) (t e ty : TypeId) (z : Value) (zs : List Value) (ht : P.underlying t = some (.slice e)) (hv : ∀ w, (zeroValue e).run P w = .ok z w) (hz : z.cells = zs.toArray) (h1 : ∀ v ∈ zs, v.oneCell' = true) (b o c : Nat)
    (hc : ∀ j, j < zs.length → (w.cell? ⟨b, o + j, none⟩).isSome = true) (hf : ∀ j, j < zs.length → w.frozen? ⟨b, o + j, none⟩ = false) :
    (Builtin.clear_ #[t] ty #[.slice (some ⟨b, o, none⟩) 1 c]).run P w = .ok (.tuple #[]) (w.setCells b o zs) := by
  have hzc : (Builtin.zeroCells z.cells 1).toList = zs := by
    rw [hz]
    simp only [Builtin.zeroCells, Nat.one_mul, List.size_toArray]
    apply List.ext_getElem?
    intro i
    simp only [Array.toList_map, Array.toList_range, List.getElem?_map]
    rcases Nat.lt_or_ge i zs.length with h | h
    · rw [List.getElem?_range h, List.getElem?_eq_getElem h, Option.map_some, Nat.mod_eq_of_lt h, getElem!_pos _ i (by simpa using h)]
      simp
    · rw [List.getElem?_eq_none (by simpa using h), List.getElem?_eq_none h]
      rfl
  have hst := run_storeCells_cells (P := P) b o zs 0 w (by simpa using hc) (by simpa using hf) h1
  simp only [Nat.add_zero] at hst
  simp [Builtin.clear_, run_underlying ht, hv, hzc, hst]
end Go.Proofs.Ytchplmenkdghcaa

