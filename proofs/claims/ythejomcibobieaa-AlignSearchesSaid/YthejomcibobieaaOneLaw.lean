/- Taking one point out of a print: the scores' law. -/
import Derived.Test.YthejomcibobieaaScores
import Derived.Test.YthejomcibobieaaMm
namespace Go.Proofs.Ythejomcibobieaa
open Go.RowKit

/-- the places without a -/
def skip (a i : Nat) : Nat := if i < a then i else i + 1
theorem skip_inj (a : Nat) : ∀ i j, skip a i = skip a j → i = j := by
  intro i j h; unfold skip at h; split at h <;> split at h <;> omega
/-- the place that skips to i -/
def unskip (a i : Nat) : Nat := if i < a then i else i - 1
theorem skip_unskip {a i : Nat} (h : i ≠ a) : skip a (unskip a i) = i := by
  unfold skip unskip
  rcases Nat.lt_or_ge i a with h1 | h1
  · rw [if_pos h1, if_pos h1]
  · have h2 : ¬ i < a := by omega
    have h3 : ¬ i - 1 < a := by omega
    rw [if_neg h2, if_neg h3]; omega
theorem nodup_map_of {α β γ : Type} {f : α → β} {g : α → γ} : ∀ (l : List α), (l.map f).Nodup → (∀ x ∈ l, ∀ y ∈ l, g x = g y → f x = f y) → (l.map g).Nodup
  | [], _, _ => by simp
  | x :: l, h, hg => by
    simp only [List.map_cons, List.nodup_cons, List.mem_map, not_exists, not_and] at h ⊢
    refine ⟨fun y hy e => h.1 y hy (hg y (.tail _ hy) x (.head _) e), nodup_map_of l h.2 fun y hy z hz e => hg y (.tail _ hy) z (.tail _ hz) e⟩
theorem isMax_drop {nb nb' nb1 : Nat → List Nat} {k a m n kk : Nat} (h : IsMax nb (k + 1) n) (h' : IsMax nb' k m) (h1 : IsMax nb1 1 kk) (ha : a ≤ k) (e : ∀ i, i < k → nb' i = nb (skip a i)) (e1 : nb1 0 = nb a) : m ≤ n ∧ n ≤ m + kk := by
  constructor
  · obtain ⟨M, hM, hl⟩ := h'.is
    have := h.most (M.map fun p => (skip a p.1, p.2)) ⟨?_, ?_, ?_⟩
    · rw [List.length_map] at this; omega
    · rw [List.map_map]
      exact nodup_map_of M hM.left fun x _ y _ hxy => skip_inj a _ _ hxy
    · rw [List.map_map]; exact hM.right
    · intro p hp
      obtain ⟨q, hq, rfl⟩ := List.mem_map.1 hp
      obtain ⟨q1, q2⟩ := hM.ok q hq
      rw [e _ q1] at q2
      refine ⟨?_, q2⟩
      show skip a q.1 < k + 1
      unfold skip; split <;> omega
  · obtain ⟨M, hM, hl⟩ := h.is
    rw [len_split (fun p => decide (p.1 ≠ a)) M] at hl
    have hf := hM.filter fun p => decide (p.1 ≠ a)
    have hg := hM.filter fun p => !decide (p.1 ≠ a)
    have ne : ∀ p ∈ M.filter (fun p => decide (p.1 ≠ a)), p.1 ≠ a := fun p hp => by simpa using (List.mem_filter.1 hp).2
    have eq : ∀ p ∈ M.filter (fun p => !decide (p.1 ≠ a)), p.1 = a := fun p hp => by simpa using (List.mem_filter.1 hp).2
    have b1 := h'.most ((M.filter fun p => decide (p.1 ≠ a)).map fun p => (unskip a p.1, p.2)) ⟨by
        rw [List.map_map]
        exact nodup_map_of _ hf.left fun x hx y hy hxy => by
          have := congrArg (skip a) (show unskip a x.1 = unskip a y.1 from hxy)
          rwa [skip_unskip (ne x hx), skip_unskip (ne y hy)] at this, by
        rw [List.map_map]; exact hf.right, fun p hp => by
        obtain ⟨q, hq, rfl⟩ := List.mem_map.1 hp
        obtain ⟨q1, q2⟩ := hf.ok q hq
        have q3 := ne q hq
        have q4 : unskip a q.1 < k := by unfold unskip; split <;> omega
        refine ⟨q4, ?_⟩
        show q.2 ∈ nb' (unskip a q.1)
        rw [e _ q4, skip_unskip q3]; exact q2⟩
    have b2 := h1.most ((M.filter fun p => !decide (p.1 ≠ a)).map fun p => (0, p.2)) ⟨by
        rw [List.map_map]
        exact nodup_map_of _ hg.left fun x hx y hy _ => by rw [eq x hx, eq y hy], by
        rw [List.map_map]; exact hg.right, fun p hp => by
        obtain ⟨q, hq, rfl⟩ := List.mem_map.1 hp
        obtain ⟨q1, q2⟩ := hg.ok q hq
        rw [eq q hq] at q2
        exact ⟨Nat.zero_lt_one, by show q.2 ∈ nb1 0; rw [e1]; exact q2⟩⟩
    rw [List.length_map] at b1 b2
    omega
theorem lists_skip (l : List Mi) (a i : Nat) : (l.take a ++ l.drop (a + 1))[i]? = if a ≤ l.length then l[skip a i]? else l[i]? := by
  by_cases ha : a ≤ l.length
  · rw [if_pos ha, List.getElem?_append, List.length_take, Nat.min_eq_left ha]
    unfold skip
    split
    · rw [List.getElem?_take, if_pos (by assumption)]
    · rw [List.getElem?_drop, show a + 1 + (i - a) = i + 1 by omega]
  · rw [if_neg ha, List.take_of_length_le (by omega), List.drop_eq_nil_of_le (by omega), List.append_nil]
theorem nbF_of {n : Nat} {f g : Nat → Nat → Bool} {i j : Nat} (h : ∀ k, f i k = g j k) : nbF n f i = nbF n g j := by
  unfold nbF restL
  congr 1
  funext k
  exact h k
theorem one_law (c : Cl) (lp lq : List Mi) (v : Mv) (b : Nat → Int) {a : Nat} {x : Mi} (hx : lp[a]? = some x) :
    scrK c (lp.take a ++ lp.drop (a + 1)) lq v b ≤ scrK c lp lq v b ∧ scrK c lp lq v b ≤ scrK c (lp.take a ++ lp.drop (a + 1)) lq v b + scrK c [x] lq v b ∧ scrK c [x] lq v b ≤ 1 := by
  have hl : a < lp.length := by
    rcases Nat.lt_or_ge a lp.length with h | h
    · exact h
    · rw [List.getElem?_eq_none h] at hx; cases hx
  obtain ⟨k, hk⟩ : ∃ k, lp.length = k + 1 := ⟨lp.length - 1, by omega⟩
  have hlen : (lp.take a ++ lp.drop (a + 1)).length = k := by simp; omega
  have h0 := mmk_max (nbF lq.length (mayL c lp lq v b)) lp.length
  have h1 := mmk_max (nbF lq.length (mayL c (lp.take a ++ lp.drop (a + 1)) lq v b)) (lp.take a ++ lp.drop (a + 1)).length
  have h2 := mmk_max (nbF lq.length (mayL c [x] lq v b)) [x].length
  have h3 := isMax_left h2
  unfold scrK
  rw [hlen] at h1 ⊢
  rw [hk] at h0 ⊢
  have := isMax_drop h0 h1 h2 (a := a) (by omega) (fun i _ => nbF_of fun j => by
    unfold mayL
    rw [lists_skip, if_pos (by omega)]) (nbF_of fun j => by
    unfold mayL
    rw [hx]; rfl)
  simp only [List.length_singleton] at h3 this ⊢
  omega
theorem chP_mono : ∀ (l : List Mi) (x y : Int), y ≤ x → chP x l = true → chP y l = true
  | [], _, _, _, _ => rfl
  | m :: r, x, y, h, hc => by
    simp only [chP, Bool.and_eq_true, decide_eq_true_eq] at hc ⊢
    exact ⟨⟨hc.1.1, by omega⟩, hc.2⟩
theorem chP_drop : ∀ (a : Nat) (l : List Mi) (x : Int), chP x l = true → chP x (l.take a ++ l.drop (a + 1)) = true
  | _, [], _, _ => by simp [chP]
  | 0, m :: r, x, h => by
    simp only [chP, Bool.and_eq_true, decide_eq_true_eq] at h
    simp only [List.take_zero, List.nil_append, List.drop_succ_cons, List.drop_zero]
    exact chP_mono r _ _ (by omega) h.2
  | a + 1, m :: r, x, h => by
    simp only [chP, Bool.and_eq_true, List.take_succ_cons, List.drop_succ_cons, List.cons_append] at h ⊢
    exact ⟨h.1, chP_drop a r _ h.2⟩
theorem okP_drop {l : List Mi} (a : Nat) (h : okP l = true) : okP (l.take a ++ l.drop (a + 1)) = true := by
  simp only [okP, Bool.and_eq_true, decide_eq_true_eq] at h ⊢
  refine ⟨?_, chP_drop a l _ h.2⟩
  have h1 := h.1
  simp only [List.length_append, List.length_take, List.length_drop]
  omega
theorem ask_less {c : Cl} {lp lq l : List Mi} (h : askE c lp lq = 0) (hl : okP lp = true → okP l = true) : askE c l lq = 0 := by
  unfold askE at h ⊢
  cases h1 : okP lp
  · rw [h1] at h; simp at h
  · rw [hl h1]
    rw [h1] at h
    exact h
end Go.Proofs.Ythejomcibobieaa
