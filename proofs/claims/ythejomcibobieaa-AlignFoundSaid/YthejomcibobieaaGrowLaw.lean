/- The full search; a greater class. -/
import Derived.Test.YthejomcibobieaaProm
namespace Go.Proofs.Ythejomcibobieaa
open Go.RowKit

/-- a class within a class -/
structure leC (c d : Cl) : Prop where
  turns : c.turns ≤ d.turns
  shift : c.shift ≤ d.shift
  elastic : c.elastic ≤ d.elastic
  reach : c.reach ≤ d.reach
  spread : c.spread ≤ d.spread
theorem leC.move {c d : Cl} (h : leC c d) {v : Mv} (hv : isMove c v = true) : isMove d v = true := by
  rw [isMove_iff] at hv ⊢
  have h1 := h.turns
  have h2 := h.shift
  omega
theorem leC.bend {c d : Cl} (h : leC c d) {b : Nat → Int} (hb : isBend c.elastic b = true) : isBend d.elastic b = true := by
  simp only [isBend, Bool.and_eq_true, allB, List.all_eq_true] at hb ⊢
  refine ⟨fun j hj => ?_, hb.2⟩
  have := hb.1 j hj
  rw [inB_iff] at this ⊢
  have h1 := h.elastic
  omega
theorem leC.scr {c d : Cl} (h : leC c d) (lp lq : List Mi) (v : Mv) (b : Nat → Int) : scrK c lp lq v b ≤ scrK d lp lq v b := by
  unfold scrK
  refine Int.ofNat_le.2 (mmk_mono fun i hi j hj hm => ?_)
  unfold mayL at hm ⊢
  rw [List.getElem?_eq_getElem hi, List.getElem?_eq_getElem hj] at hm ⊢
  dsimp only at hm ⊢
  unfold alikeB at hm ⊢
  simp only [Bool.and_eq_true, decide_eq_true_eq] at hm ⊢
  have h1 := h.reach
  have h2 := h.spread
  omega
theorem leC.tr {c d : Cl} (h : leC c d) (hc : c.ok) (hd : d.ok) (lp lq : List Mi) (v : Mv) : (trK c lp lq v).score ≤ (trK d lp lq v).score := by
  obtain ⟨-, l1, l2, -, h1, -⟩ := trK_best hc lp lq v
  rw [h1]
  exact Int.le_trans (h.scr lp lq v _) ((trK_best hd lp lq v).1 _ (h.bend (trK_bend hc lp lq v)))
/-- the full search finds the best -/
theorem full_law {c : Cl} (hc : c.ok) {lp lq : List Mi} (hp : ∀ m ∈ lp, m.ok) {s : St} (hs : s = runS (bndK c lp lq) (trK c lp lq) 2000 (startS (bndK c lp lq) c)) :
    boundS s = scoreS s ∧ (∀ v, isMove c v = true → (trK c lp lq v).score ≤ scoreS s) ∧ (scoreS s = 0 ∨ ∃ v, isMove c v = true ∧ scoreS s = (trK c lp lq v).score) := by
  have P := prom hc lp lq hp
  have I0 : Inv c (bndK c lp lq) (trK c lp lq) (startS (bndK c lp lq) c) := inv_start hc
  obtain ⟨h1, -, -, -, h2⟩ := run_inv P 2000 _ I0
  rw [← hs] at h1 h2
  have h3 := stop_eq (h2 (by have := meas_start (bnd := bndK c lp lq) hc; omega))
  refine ⟨h3, fun v hv => ?_, inv_score h1⟩
  rw [← h3]
  exact inv_le P h1 hv
theorem full_grows {c d : Cl} (h : leC c d) (hc : c.ok) (hd : d.ok) {lp lq : List Mi} (hp : ∀ m ∈ lp, m.ok) {s t : St} (hs : s = runS (bndK c lp lq) (trK c lp lq) 2000 (startS (bndK c lp lq) c)) (ht : t = runS (bndK d lp lq) (trK d lp lq) 2000 (startS (bndK d lp lq) d)) : scoreS s ≤ scoreS t := by
  obtain ⟨-, -, h3⟩ := full_law hc hp hs
  obtain ⟨-, h4, -⟩ := full_law hd hp ht
  rcases h3 with h3 | ⟨v, hv, h3⟩
  · rw [h3]; exact topA_nonneg _
  · rw [h3]
    exact Int.le_trans (h.tr hc hd lp lq v) (h4 v (h.move hv))
end Go.Proofs.Ythejomcibobieaa
