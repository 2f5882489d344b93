/- make: a new block of zero cells. -/
import Derived.Test.YthejomcibobieaaSlices
import Derived.OwnWalk
namespace Go.Proofs.Ythejomcibobieaa
open Go.RowKit

def ZInfo (P : Program) (t e : TypeId) (z : Value) : Prop := P.underlying t = some (.slice e) ∧ ∃ i, P.info? e = some i ∧ i.zero = some z ∧ i.size = 1 ∧ i.bytes ≤ 64 ∧ z.cells = #[z]
theorem zInfo {P : Program} {t e : TypeId} {z : Value} {bytes : Nat} (ht : P.underlying t = some (.slice e)) (h : (P.info? e).map (fun i => (i.zero, i.size, i.bytes)) = some (some z, 1, bytes)) (hb : bytes ≤ 64) (hz : z.cells = #[z]) : ZInfo P t e z := by
  obtain ⟨i, h1, h2, h3, h4⟩ := info_parts h
  exact ⟨ht, i, h1, h2, h3, by omega, hz⟩
theorem made_one (z : Value) (n : Nat) : madeCells #[z] n = Array.replicate n z := by
  unfold madeCells
  apply Array.ext
  · simp
  · intro i h1 h2
    simp [Nat.mod_one]
theorem wpList_make_blk {P : Program} (w : World) {ops : Array Oper} {rest : List Oper} {o : Oper} {a : Act} {Q : Exit → Act → World → Prop}
    (hg : o.guard = none) (l c : Operand) (t : TypeId) (hop : o.op = Op.makeSlice t l c) (e : TypeId) (z : Value) (hI : ZInfo P t e z) (n : Nat) (hn : n ≤ 65536) (hl : a.eval l = .int .i64 (n : Int)) (hc : a.eval c = .int .i64 (n : Int))
    (hK : ∀ x, Blk (ext w x) w.heap.size e (Array.replicate n z) → wpList P ops Q rest (a.put o.dst (.slice (some ⟨w.heap.size, 0, none⟩) n n)) (ext w x)) : wpList P ops Q (o :: rest) a w := by
  obtain ⟨h1, i, h2, h3, h4, h5, h6⟩ := hI
  refine wpList_make_full w hg l c t hop w.heap.size e i z 1 h1 h2 h3 h4 .i64 .i64 n n n hl hc rfl rfl ?_ (by unfold maxLen; omega) (Nat.le_refl _) ?_
  · have := Nat.mul_le_mul h5 hn; omega
  · intro w' hown hgr
    have hE : Ext w w' := (Ext.refl w).grown hgr (fun k h => by cases h)
    have := hK w'
    rw [ext_of hE] at this
    refine this ?_
    obtain ⟨_, ⟨h, _⟩ | ⟨g, cap, cur, hv, hb, hh, hn2, hm, hs, ht⟩⟩ := hown
    · injection h with h; cases h
    · injection hv with e1 e2 e3
      injection e1 with e1
      injection e1 with e1
      subst e1 e3
      have hcur : cur = Array.replicate n z := by
        have h7 : cur.toList.take (n * 1) = cur.toList := List.take_of_length_le (by simp; omega)
        rw [h7, h6, made_one, Nat.mul_one] at ht
        exact Array.toList_inj.1 ht
      rw [← hcur]; exact hh
end Go.Proofs.Ythejomcibobieaa
