/- append that keeps all other blocks. -/
import Derived.Test.YthejomcibobieaaSlices
import Derived.OwnWalk
namespace Go.Proofs.Ythejomcibobieaa
open Go.RowKit

theorem run_append_keep {P : Program} {W0 W : World} (hW : Ext W0 W) {t e : TypeId} {size bytes : Nat} (hI : ElemInfo P t e size bytes) (ty : TypeId)
    {v : Value} {n : Nat} {xs : List Value} (hown : W.ownsRow W0.heap.size e size v n xs) {A : Option Addr} {m : Nat} (c : Nat) {news : List Value} (hm : 0 < m) (hr : Slc W size A m news) (h1 : ∀ u ∈ news, u.oneCell' = true)
    (hsmall : n + m ≤ 65536) (hby : bytes ≤ 65536) :
    ∃ A' c' w', (Builtin.append_ #[t, t] ty #[v, .slice A m c]).run P W = .ok (.slice A' (n + m) c') w' ∧ w'.ownsRow W0.heap.size e size (.slice A' (n + m) c') (n + m) (xs ++ news) ∧ Ext W0 w' ∧ W.grownBy w' v.ownBlock ∧ ((Value.slice A' (n + m) c').ownBlock = v.ownBlock ∨ (Value.slice A' (n + m) c').ownBlock = some W.heap.size) := by
  obtain ⟨ht, i, z, hi, hz, hsize, hbytes, hzs, hpos⟩ := hI
  have hold : ∀ k, v.ownBlock = some k → W0.heap.size ≤ k := fun k hk => (hown.lt k hk).1
  obtain ⟨b, off, hA, _, hc⟩ := hr.2 hm
  subst hA
  have hcells : ∀ j u, news[j]? = some u → W.cell? ((⟨b, off, none⟩ : Addr).add j) = some u := fun j u hu => by rw [addr_add]; exact hc j u hu
  have hb2 : (n + m) * bytes ≤ 140737488355328 := Nat.le_trans (Nat.mul_le_mul hsmall hby) (by decide)
  obtain ⟨v', w', hrun, h2, h3, _, h5⟩ := run_append_own_at (P := P) W W0.heap.size t ty e i z size bytes ht hi hz hsize hbytes hzs hpos v n xs hown ⟨b, off, none⟩ m c news hr.1 hcells h1 (by simp only [maxLen]; omega) hb2 hW.size
  obtain ⟨A', c', rfl⟩ := own_slice h2
  exact ⟨A', c', w', hrun, h2, hW.grown h3 hold, h3, h5⟩
theorem wpList_append_keep {P : Program} {o : Oper} {a : Act} {w : World} {Q : Exit → Act → World → Prop} {ops : Array Oper} {rest : List Oper} (hgd : o.guard = none) (W0 : World) (hW : Ext W0 w) {t e : TypeId} {size bytes : Nat} (hI : ElemInfo P t e size bytes) (s x : Operand)
    (ho : o.op = .call { callee := .builtin .append, args := #[s, x], argTypes := #[t, t] })
    (v : Value) (n : Nat) (xs : List Value) (hs : a.eval s = v) (hown : w.ownsRow W0.heap.size e size v n xs)
    (A : Option Addr) (m c : Nat) (news : List Value) (hx : a.eval x = .slice A m c) (hm : 0 < m) (hr : Slc w size A m news) (h1 : ∀ u ∈ news, u.oneCell' = true)
    (hsmall : n + m ≤ 65536) (hby : bytes ≤ 65536)
    (h : ∀ A' c' z, (ext W0 z).ownsRow W0.heap.size e size (.slice A' (n + m) c') (n + m) (xs ++ news) → (∀ b, b < w.heap.size → v.ownBlock ≠ some b → (ext W0 z).heap[b]? = w.heap[b]? ∧ (Value.slice A' (n + m) c').ownBlock ≠ some b) → wpList P ops Q rest (a.put o.dst (.slice A' (n + m) c')) (ext W0 z)) : wpList P ops Q (o :: rest) a w :=
  wpList_plain hgd fun _ hK => by
    obtain ⟨A', c', w', hrun, h2, h3, h4, h5⟩ := run_append_keep hW hI o.type hown c hm hr h1 hsmall hby
    unfold Oper.wp execOp
    simp only [ho, resolve, invoke, builtin, Sem.run_bind, Sem.run_pure, Result.andThen_ok, List.map_toArray, List.map_cons, List.map_nil, hs, hx, hrun]
    have := h A' c' w'
    rw [ext_of h3] at this
    refine hK _ _ (this h2 fun b hb hne => ⟨h4.block b hb (fun e => hne e.symm), fun e => ?_⟩)
    rcases h5 with h5 | h5
    · exact hne (h5.symm.trans e)
    · rw [h5] at e; injection e with e; omega
end Go.Proofs.Ythejomcibobieaa
