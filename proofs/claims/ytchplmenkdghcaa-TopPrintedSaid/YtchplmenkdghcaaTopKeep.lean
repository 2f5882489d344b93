/- What a loop keeps: worlds that differ in blocks of some types alone; parts of a function's code. -/
import Derived.Test.YtchplmenkdghcaaTopPix
import Derived.Test.YtchplmenkdghcaaTopLaw
import Derived.Test.YtchplmenkdghcaaTopBin
import Derived.OneCell
namespace Go.Proofs.Ytchplmenkdghcaa
open Go.RowKit Go.Shelf
/-- a part of a code -/
def subC : List Nat → Code → Code
  | [], c => c
  | 0 :: ks, .seq a _ => subC ks a
  | _ :: ks, .seq _ b => subC ks b
  | 0 :: ks, .cond _ a _ => subC ks a
  | _ :: ks, .cond _ _ b => subC ks b
  | _ :: ks, .block _ a => subC ks a
  | _ :: ks, .loop a => subC ks a
  | _ :: _, c => c
/-- X' is X, but for blocks of the types in S, from B on -/
structure Kp (S : List TypeId) (B : Nat) (X X' : World) : Prop where
  os : X'.os = X.os
  tape : X'.tape = X.tape
  output : X'.output = X.output
  size : X.heap.size ≤ X'.heap.size
  low : ∀ b, b < B → b < X.heap.size → X'.heap[b]? = X.heap[b]?
  others : ∀ (k : Nat) (o : Obj), X.heap[k]? = some o → (∀ cs t, o = .cells cs t (0, 0) → t ∉ S) → X'.heap[k]? = some o
section
variable {S : List TypeId} {B : Nat} {X X' : World}
theorem Kp.refl (X : World) : Kp S B X X := ⟨rfl, rfl, rfl, Nat.le_refl _, fun _ _ _ => rfl, fun _ _ h _ => h⟩
theorem Kp.trans {X'' : World} (h : Kp S B X X') (k : Kp S B X' X'') : Kp S B X X'' :=
  ⟨k.os.trans h.os, k.tape.trans h.tape, k.output.trans h.output, Nat.le_trans h.size k.size, fun b h1 h2 => (k.low b h1 (Nat.lt_of_lt_of_le h2 h.size)).trans (h.low b h1 h2), fun i o h1 h2 => k.others i o (h.others i o h1 h2) h2⟩
theorem Kp.of_ext (h : Ext X X') : Kp S B X X' := ⟨h.os, h.tape, h.output, h.size, fun b _ hb => h.block b hb, fun k _ hk _ => (h.block k (Array.getElem?_eq_some_iff.1 hk).1).trans hk⟩
theorem Kp.keeps (h : Kp S B X X') : KeepsOthers X X' := ⟨h.size, fun k o hk ho => h.others k o hk fun cs t e => by subst e; cases ho⟩
theorem Kp.blk (h : Kp S B X X') {g : Nat} {t : TypeId} {cs : Array Value} (hb : Blk X g t cs) (ht : t ∉ S) : Blk X' g t cs :=
  h.others g _ hb fun cs' t' e => by injection e with _ e2; rw [← e2]; exact ht
theorem Kp.own (h : Kp S B X X') {base sz n : Nat} {e : TypeId} {v : Value} {xs : List Value} (ho : X.ownsRow base e sz v n xs) (ht : e ∉ S) : X'.ownsRow base e sz v n xs := by
  refine ⟨ho.1, ?_⟩
  rcases ho.2 with h2 | ⟨g, cap, cur, hv, hb, hh, q⟩
  · exact .inl h2
  · exact .inr ⟨g, cap, cur, hv, hb, h.blk (t := e) hh ht, q⟩
theorem Kp.ext (h : Kp S B X X') {w : World} (he : Ext w X) (hB : w.heap.size ≤ B) : Ext w X' :=
  ⟨h.os.trans he.os, h.tape.trans he.tape, h.output.trans he.output, Nat.le_trans he.size h.size, fun b hb => (h.low b (by omega) (Nat.lt_of_lt_of_le hb he.size)).trans (he.block b hb)⟩
theorem Kp.marks (h : Kp S B X X') {C : Nat} {Ds : List Nat} (hm : Marks C Ds X) : Marks C Ds X' := marks_keeps hm h.keeps
theorem Kp.set_ {g : Nat} {t : TypeId} {cs : Array Value} (hb : Blk X g t cs) (hB : B ≤ g) (ht : t ∈ S) (i : Nat) (u : Value) : Kp S B X (X.setCell ⟨g, i, none⟩ u) :=
  ⟨rfl, rfl, rfl, by simp [World.setCell], fun b h1 _ => Below.heap_setCell _ _ _ _ (by show b ≠ g; omega), fun k o hk ho => by
    refine (Below.heap_setCell _ _ _ _ ?_).trans hk
    intro e
    subst e
    unfold Blk at hb
    rw [hb] at hk
    injection hk with hk
    exact ho cs t hk.symm ht⟩
theorem Kp.grown {base sz n : Nat} {e : TypeId} {v : Value} {xs : List Value} (ho : X.ownsRow base e sz v n xs) (hB : B ≤ base) (ht : e ∈ S) (hg : X.grownBy X' v.ownBlock) : Kp S B X X' := by
  refine ⟨hg.os, hg.tape, hg.output, hg.size, fun b h1 h2 => hg.block b h2 fun e => ?_, fun k o hk hno => ?_⟩
  · have := (ho.lt b e.symm).1
    omega
  · refine (hg.block k (Array.getElem?_eq_some_iff.1 hk).1 fun e2 => ?_).trans hk
    rcases ho.2 with ⟨rfl, -⟩ | ⟨g, cap, cur, rfl, hb, hh, q⟩
    · cases e2
    · obtain rfl : k = g := by injection e2
      rw [hh] at hk
      injection hk with hk
      exact hno cur e hk.symm ht
/-- another block's writing -/
theorem own_set_blk {X : World} {base sz n : Nat} {e : TypeId} {v : Value} {xs : List Value} (ho : X.ownsRow base e sz v n xs) {g : Nat} {t : TypeId} {cs : Array Value} (hb : Blk X g t cs) (ht : t ≠ e) (i : Nat) (u : Value) : (X.setCell ⟨g, i, none⟩ u).ownsRow base e sz v n xs := by
  refine ownsRow_setCell_other ho ?_ u
  intro e2
  rcases ho.2 with ⟨rfl, -⟩ | ⟨k, cap, cur, rfl, -, hh, q⟩
  · cases e2
  · obtain rfl : k = g := by injection e2
    unfold Blk at hb
    rw [hb] at hh
    injection hh with hh
    injection hh with _ hh
    exact ht hh
end
theorem wpListIn_append_sl {F : Fence} {m : Nat} {P : Program} {o : Oper} {a : Act} {w : World} {Q : Exit → Act → World → Prop} {ops : Array Oper} {rest : List Oper} (hgd : o.guard = none) (base : Nat) (hb : base ≤ w.heap.size) {t e : TypeId} {size bytes : Nat} (hI : ElemInfo P t e size bytes) (s x : Operand)
    (ho : o.op = .call { callee := .builtin .append, args := #[s, x], argTypes := #[t, t] })
    (v : Value) (n : Nat) (xs : List Value) (hs : a.eval s = v) (hown : w.ownsRow base e size v n xs)
    (g c : Nat) (news : List Value) (hx : a.eval x = .slice (some ⟨g, 0, none⟩) 1 c) (hr : Blk w g e news.toArray) (hn : news.length = size) (h1 : ∀ u ∈ news, u.oneCell' = true)
    (hsmall : n + 1 ≤ 65536) (hby : bytes ≤ 65536)
    (h : ∀ A' c' w', w'.ownsRow base e size (.slice A' (n + 1) c') (n + 1) (xs ++ news) → w.grownBy w' v.ownBlock → wpListIn F m P ops Q rest (a.put o.dst (.slice A' (n + 1) c')) w') : wpListIn F m P ops Q (o :: rest) a w := by
  obtain ⟨ht, i, z, hi, hz, hsize, hbytes, hzs, hpos⟩ := hI
  refine wpListIn_append_own w hgd s x t ho base e i z size bytes ht hi hz hsize hbytes hzs hpos v n xs hs hown ⟨g, 0, none⟩ 1 c news hx (by rw [hn, Nat.one_mul]) (fun j u hj => ?_) h1 (by unfold maxLen; omega) ?_ hb fun v' w' h2 h3 _ => ?_
  · rw [addr_add, Nat.zero_add, hr.cell]
    simpa using hj
  · have := Nat.mul_le_mul hsmall hby
    omega
  · obtain ⟨A', c', rfl⟩ := own_slice h2
    exact h A' c' w' h2 h3
end Go.Proofs.Ytchplmenkdghcaa
