/- What bounds and attempts promise: an attempt has the greatest score of all bends, and the first bend that has it; a block's bound is not less than a score of a move of the block, nor than the bound of a block within it (plain). -/
import Derived.Test.YtchplmenkdghcaaSearch
import Derived.Test.YtchplmenkdghcaaTops
namespace Go.Proofs.Ytchplmenkdghcaa
theorem mem_nbF {n : Nat} {may : Nat → Nat → Bool} {i j : Nat} : j ∈ nbF n may i ↔ j < n ∧ may i j = true := by
  simp [nbF, restL, List.mem_filter, List.mem_range']
theorem mmk_mono {n k : Nat} {may may' : Nat → Nat → Bool} (h : ∀ i, i < k → ∀ j, j < n → may i j = true → may' i j = true) : mmk (nbF n may) k [] ≤ mmk (nbF n may') k [] :=
  isMax_mono (mmk_max _ _) (mmk_max _ _) fun i hi j hj => mem_nbF.2 ⟨(mem_nbF.1 hj).1, h i hi j (mem_nbF.1 hj).1 (mem_nbF.1 hj).2⟩
theorem stepT_mv (f : Bd → Int) (x : At) (b : Bd) : (stepT f x b).mv = x.mv := by
  unfold stepT; split <;> rfl
theorem foldT_mv (f : Bd → Int) : ∀ (l : List Bd) (x : At), (l.foldl (stepT f) x).mv = x.mv
  | [], _ => rfl
  | b :: r, x => (foldT_mv f r (stepT f x b)).trans (stepT_mv f x b)
theorem tryL_mv (f : Bd → Int) (v : Mv) (l : List Bd) : (tryL f v l).mv = v := foldT_mv f l _
/-- the greatest score, and the first bend that has it -/
theorem foldT_best (f : Bd → Int) : ∀ (l : List Bd) (x : At), x.score ≤ (l.foldl (stepT f) x).score ∧ (∀ b ∈ l, f b ≤ (l.foldl (stepT f) x).score) ∧
    (l.foldl (stepT f) x = x ∨ ∃ l1 b l2, l = l1 ++ b :: l2 ∧ (l.foldl (stepT f) x).bd = b ∧ (l.foldl (stepT f) x).score = f b ∧ x.score < f b ∧ ∀ b' ∈ l1, f b' < f b)
  | [], x => ⟨Int.le_refl _, fun b h => (by cases h), .inl rfl⟩
  | b :: r, x => by
    obtain ⟨h1, h2, h3⟩ := foldT_best f r (stepT f x b)
    rw [List.foldl_cons]
    by_cases hb : x.score < f b
    · have e : stepT f x b = ⟨x.mv, b, f b⟩ := by unfold stepT; rw [if_pos hb]
      rw [e] at h1 h2 h3 ⊢
      dsimp only at h1 h3
      refine ⟨by omega, fun y hy => ?_, .inr ?_⟩
      · rcases List.mem_cons.1 hy with rfl | hy
        · exact h1
        · exact h2 y hy
      · rcases h3 with h3 | ⟨l1, y, l2, q1, q2, q3, q4, q5⟩
        · rw [h3]
          exact ⟨[], b, r, rfl, rfl, rfl, hb, fun _ h => by cases h⟩
        · refine ⟨b :: l1, y, l2, by rw [q1]; rfl, q2, q3, by omega, fun z hz => ?_⟩
          rcases List.mem_cons.1 hz with rfl | hz
          · exact q4
          · exact q5 z hz
    · have e : stepT f x b = x := by unfold stepT; rw [if_neg hb]
      rw [e] at h1 h2 h3 ⊢
      refine ⟨h1, fun y hy => ?_, ?_⟩
      · rcases List.mem_cons.1 hy with rfl | hy
        · omega
        · exact h2 y hy
      · rcases h3 with h3 | ⟨l1, y, l2, q1, q2, q3, q4, q5⟩
        · exact .inl h3
        · refine .inr ⟨b :: l1, y, l2, by rw [q1]; rfl, q2, q3, q4, fun z hz => ?_⟩
          rcases List.mem_cons.1 hz with rfl | hz
          · omega
          · exact q5 z hz
theorem tryL_best {f : Bd → Int} {v : Mv} {l : List Bd} (hl : l ≠ []) (h0 : ∀ b ∈ l, 0 ≤ f b) : (∀ b ∈ l, f b ≤ (tryL f v l).score) ∧ ∃ l1 l2, l = l1 ++ (tryL f v l).bd :: l2 ∧ (tryL f v l).score = f (tryL f v l).bd ∧ ∀ b' ∈ l1, f b' < (tryL f v l).score := by
  obtain ⟨-, h2, h3⟩ := foldT_best f l ⟨v, bd0, -1⟩
  refine ⟨h2, ?_⟩
  rcases h3 with h3 | ⟨l1, b, l2, q1, q2, q3, -, q5⟩
  · exfalso
    rw [h3] at h2
    match l, hl with
    | b :: r, _ =>
      have := h2 b List.mem_cons_self
      have := h0 b List.mem_cons_self
      dsimp only at *
      omega
  · change (tryL f v l).bd = b at q2
    change (tryL f v l).score = f b at q3
    rw [q2, q3]
    exact ⟨l1, l2, q1, rfl, q5⟩
/-- the bends of a class -/
def bendsL (c : Cl) : List Bd := growL c.elastic.toNat 4 0 bd0
theorem isBend_f {e : Int} {b : Bd} (h : isBend e b.f = true) (j : Nat) : -e ≤ b.f j ∧ b.f j ≤ e := by
  simp only [isBend, Bool.and_eq_true, allB, List.all_eq_true] at h
  have key : ∀ j, j < 4 → -e ≤ b.f j ∧ b.f j ≤ e := fun j hj => inB_iff.1 (h.1 j (List.mem_range.2 hj))
  match j with
  | 0 => exact key 0 (by omega)
  | 1 => exact key 1 (by omega)
  | 2 => exact key 2 (by omega)
  | j + 3 => exact key 3 (by omega)
theorem bd_at {b : Bd} (ha : -1 ≤ b.a ∧ b.a ≤ 1) (hb : -1 ≤ b.b ∧ b.b ≤ 1) (hc : -1 ≤ b.c ∧ b.c ≤ 1) (hd : -1 ≤ b.d ∧ b.d ≤ 1) : ∃ k, k < 81 ∧ bdAt k = b := by
  refine ⟨(27 * (b.a + 1) + 9 * (b.b + 1) + 3 * (b.c + 1) + (b.d + 1)).toNat, by omega, ?_⟩
  unfold bdAt
  refine Bd.ext_ ?_ ?_ ?_ ?_ <;> dsimp only <;> omega
theorem mem_bends {c : Cl} (hc : c.ok) {b : Bd} : b ∈ bendsL c ↔ isBend c.elastic b.f = true := by
  have he := hc.elastic
  obtain ⟨E, hE⟩ : ∃ E : Nat, c.elastic = E := ⟨c.elastic.toNat, by omega⟩
  unfold bendsL
  rw [hE, Int.toNat_natCast, ← bends_eq E (by omega)]
  unfold bendsK
  rw [List.mem_filter]
  constructor
  · exact fun h => h.2
  · intro h
    refine ⟨?_, h⟩
    have h0 := isBend_f h 0
    have h1 := isBend_f h 1
    have h2 := isBend_f h 2
    have h3 := isBend_f h 3
    obtain ⟨k, hk, e⟩ := bd_at (b := b) (by have : b.f 0 = b.a := rfl; omega) (by have : b.f 1 = b.b := rfl; omega) (by have : b.f 2 = b.c := rfl; omega) (by have : b.f 3 = b.d := rfl; omega)
    exact List.mem_map.2 ⟨k, List.mem_range.2 hk, e⟩
theorem bends_ne {c : Cl} (hc : c.ok) : bendsL c ≠ [] := by
  have he := hc.elastic
  obtain ⟨E, hE⟩ : ∃ E : Nat, c.elastic = E := ⟨c.elastic.toNat, by omega⟩
  unfold bendsL
  rw [hE, Int.toNat_natCast, ← bends_eq E (by omega)]
  have := (bends_len E (by omega)).1
  intro h
  rw [h] at this
  simp at this
theorem scrK_nonneg (c : Cl) (lp lq : List Mi) (v : Mv) (b : Nat → Int) : 0 ≤ scrK c lp lq v b := by unfold scrK; omega
theorem trK_mv (c : Cl) (lp lq : List Mi) (v : Mv) : (trK c lp lq v).mv = v := tryL_mv _ _ _
theorem trK_best {c : Cl} (hc : c.ok) (lp lq : List Mi) (v : Mv) : (∀ b : Bd, isBend c.elastic b.f = true → scrK c lp lq v b.f ≤ (trK c lp lq v).score) ∧
    ∃ l1 l2, bendsL c = l1 ++ (trK c lp lq v).bd :: l2 ∧ (trK c lp lq v).score = scrK c lp lq v (trK c lp lq v).bd.f ∧ ∀ b' ∈ l1, scrK c lp lq v b'.f < (trK c lp lq v).score := by
  obtain ⟨h1, h2⟩ := tryL_best (f := fun b => scrK c lp lq v b.f) (v := v) (bends_ne hc) (fun b _ => scrK_nonneg c lp lq v b.f)
  exact ⟨fun b hb => h1 b ((mem_bends hc).2 hb), h2⟩
theorem trK_bend {c : Cl} (hc : c.ok) (lp lq : List Mi) (v : Mv) : isBend c.elastic (trK c lp lq v).bd.f = true := by
  obtain ⟨-, l1, l2, h, -⟩ := trK_best hc lp lq v
  exact (mem_bends hc).1 (by rw [h]; simp)
theorem alike_par {c : Cl} {m o : Mi} {v : Mv} {b : Nat → Int} {k : Bk} (hv : hasB k v = true) (hb : -c.elastic ≤ b (m.x / 16).toNat ∧ b (m.x / 16).toNat ≤ c.elastic) (h : alikeB c m o v b = true) : mayB c m o k = true := by
  rw [hasB_iff] at hv
  obtain ⟨v1, v2, v3⟩ := hv
  unfold mayB parB nearN
  unfold alikeB placeX placeY absD at h
  simp only [Bool.and_eq_true, decide_eq_true_eq] at h ⊢
  rw [v1]
  generalize b (m.x / 16).toNat = e at *
  generalize turnX m v.turn = x at *
  generalize turnY m v.turn = y at *
  obtain ⟨⟨⟨h1, h2⟩, h3⟩, h4⟩ := h
  exact ⟨⟨⟨h1, h4⟩, by omega, by omega⟩, by omega, by omega⟩
theorem may_mono {c : Cl} {m o : Mi} {k k' : Bk} (hk : inK k' k) (h : mayB c m o k' = true) : mayB c m o k = true := by
  obtain ⟨k1, k2, k3, k4, k5⟩ := hk
  unfold mayB parB nearN at h ⊢
  simp only [Bool.and_eq_true, decide_eq_true_eq] at h ⊢
  rw [k1] at h
  generalize turnX m k.turn = x at *
  generalize turnY m k.turn = y at *
  obtain ⟨⟨⟨h1, h2⟩, h3, h4⟩, h5, h6⟩ := h
  exact ⟨⟨⟨h1, h2⟩, by omega, by omega⟩, by omega, by omega⟩
theorem scr_le_bnd {c : Cl} (lp lq : List Mi) (hp : ∀ m ∈ lp, m.ok) {v : Mv} {b : Nat → Int} (hb : ∀ j, j < 4 → -c.elastic ≤ b j ∧ b j ≤ c.elastic) {k : Bk} (hv : hasB k v = true) : scrK c lp lq v b ≤ bndK c lp lq k := by
  unfold scrK bndK
  refine Int.ofNat_le.2 (mmk_mono fun i hi j hj h => ?_)
  unfold mayL at h
  unfold mayK parL
  rw [List.getElem?_eq_getElem hi, List.getElem?_eq_getElem hj] at h ⊢
  have := (hp _ (List.getElem_mem hi)).x
  exact alike_par hv (hb _ (by omega)) h
theorem prom {c : Cl} (hc : c.ok) (lp lq : List Mi) (hp : ∀ m ∈ lp, m.ok) : Prom c (bndK c lp lq) (trK c lp lq) where
  mv := trK_mv c lp lq
  within k k' _ _ hin := by
    unfold bndK
    refine Int.ofNat_le.2 (mmk_mono fun i hi j hj h => ?_)
    unfold mayK parL at h ⊢
    rw [List.getElem?_eq_getElem hi, List.getElem?_eq_getElem hj] at h ⊢
    exact may_mono hin h
  one k v _ hv := by
    obtain ⟨-, l1, l2, -, h, -⟩ := trK_best hc lp lq v
    rw [h]
    exact scr_le_bnd lp lq hp (fun j _ => isBend_f (trK_bend hc lp lq v) j) hv
end Go.Proofs.Ytchplmenkdghcaa

