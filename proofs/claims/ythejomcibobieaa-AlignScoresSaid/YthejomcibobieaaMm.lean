/- Plain: the greatest number of pairs, reckoned. -/
import Derived.Test.YthejomcibobieaaKuhn
namespace Go.Proofs.Ythejomcibobieaa

/-- the greatest number of pairs of the first k points, without some second ones -/
def mmk (nb : Nat → List Nat) : Nat → List Nat → Nat
  | 0, _ => 0
  | k + 1, used => ((nb k).filter fun j => !used.contains j).foldl (fun m j => max m (1 + mmk nb k (j :: used))) (mmk nb k used)
theorem foldl_max (f : Nat → Nat) : ∀ (l : List Nat) (a : Nat), a ≤ l.foldl (fun m j => max m (f j)) a ∧ (∀ j ∈ l, f j ≤ l.foldl (fun m j => max m (f j)) a) ∧ (l.foldl (fun m j => max m (f j)) a = a ∨ ∃ j ∈ l, l.foldl (fun m j => max m (f j)) a = f j) := by
  intro l
  induction l with
  | nil => intro a; exact ⟨Nat.le_refl _, fun _ h => (by cases h), .inl rfl⟩
  | cons x l ih =>
    intro a
    obtain ⟨h1, h2, h3⟩ := ih (max a (f x))
    rw [List.foldl_cons]
    refine ⟨by omega, fun j hj => ?_, ?_⟩
    · rcases List.mem_cons.1 hj with rfl | hj
      · omega
      · exact h2 j hj
    · rcases h3 with h3 | ⟨j, hj, h3⟩
      · by_cases h : f x ≤ a
        · exact .inl (by omega)
        · exact .inr ⟨x, List.mem_cons_self .., by omega⟩
      · exact .inr ⟨j, List.mem_cons_of_mem _ hj, h3⟩
theorem Mat.more {nb : Nat → List Nat} {k : Nat} {M : List (Nat × Nat)} (h : Mat nb k M) : Mat nb (k + 1) M := ⟨h.left, h.right, fun p hp => ⟨by have := (h.ok p hp).1; omega, (h.ok p hp).2⟩⟩
theorem mmk_is (nb : Nat → List Nat) : ∀ (k : Nat) (used : List Nat), (∃ M, Mat nb k M ∧ (∀ p ∈ M, p.2 ∉ used) ∧ M.length = mmk nb k used) ∧ (∀ M, Mat nb k M → (∀ p ∈ M, p.2 ∉ used) → M.length ≤ mmk nb k used) := by
  intro k
  induction k with
  | zero =>
    intro used
    refine ⟨⟨[], ⟨List.nodup_nil, List.nodup_nil, fun _ h => (by cases h)⟩, fun _ h => (by cases h), rfl⟩, fun M hM _ => ?_⟩
    match M, hM with
    | [], _ => exact Nat.le_refl _
    | p :: r, hM => exact absurd (hM.ok p (List.mem_cons_self ..)).1 (Nat.not_lt_zero _)
  | succ k ih =>
    intro used
    obtain ⟨f1, f2, f3⟩ := foldl_max (fun j => 1 + mmk nb k (j :: used)) ((nb k).filter fun j => !used.contains j) (mmk nb k used)
    have e : mmk nb (k + 1) used = ((nb k).filter fun j => !used.contains j).foldl (fun m j => max m (1 + mmk nb k (j :: used))) (mmk nb k used) := rfl
    rw [← e] at f1 f2 f3
    constructor
    · rcases f3 with h | ⟨j, hj, h⟩
      · obtain ⟨⟨M, h1, h2, h3⟩, -⟩ := ih used
        exact ⟨M, h1.more, h2, by omega⟩
      · obtain ⟨⟨M, h1, h2, h3⟩, -⟩ := ih (j :: used)
        obtain ⟨hj1, hj2⟩ := List.mem_filter.1 hj
        have hj3 : j ∉ used := by simpa using hj2
        refine ⟨(k, j) :: M, ⟨?_, ?_, ?_⟩, ?_, ?_⟩
        · refine List.nodup_cons.2 ⟨fun hh => ?_, h1.left⟩
          obtain ⟨p, hp, hpe⟩ := List.mem_map.1 hh
          have := (h1.ok p hp).1
          simp only at hpe
          omega
        · refine List.nodup_cons.2 ⟨fun hh => ?_, h1.right⟩
          obtain ⟨p, hp, hpe⟩ := List.mem_map.1 hh
          exact h2 p hp (by rw [hpe]; exact List.mem_cons_self ..)
        · intro p hp
          rcases List.mem_cons.1 hp with rfl | hp
          · exact ⟨Nat.lt_succ_self _, hj1⟩
          · exact h1.more.ok p hp
        · intro p hp
          rcases List.mem_cons.1 hp with rfl | hp
          · exact hj3
          · exact fun hh => h2 p hp (List.mem_cons_of_mem _ hh)
        · rw [List.length_cons, h3, h]; omega
    · intro M hM hu
      by_cases h : ∃ p ∈ M, p.1 = k
      · obtain ⟨p, hp, hpk⟩ := h
        have hpu := hu p hp
        have hpn := (hM.ok p hp).2
        rw [hpk] at hpn
        obtain ⟨hl, hle⟩ := hM.less
        have h1 := (ih (p.2 :: used)).2 _ hl (fun q hq => by
          obtain ⟨q1, q2⟩ := List.mem_filter.1 hq
          have q3 : q.1 < k := by simpa using q2
          intro hh
          rcases List.mem_cons.1 hh with hh | hh
          · have : q = p := by
              have hr := hM.right
              obtain ⟨a, ha, hqa⟩ := List.getElem_of_mem q1
              obtain ⟨b, hb, hpb⟩ := List.getElem_of_mem hp
              have hab : (M.map (·.2))[a]'(by simpa using ha) = (M.map (·.2))[b]'(by simpa using hb) := by simp [hqa, hpb, hh]
              have := (List.getElem_inj hr).1 hab
              subst this
              rw [← hqa, ← hpb]
            subst this
            omega
          · exact hu q q1 hh)
        have h2 := f2 p.2 (List.mem_filter.2 ⟨hpn, by simpa using hpu⟩)
        omega
      · have h1 := (ih used).2 M ⟨hM.left, hM.right, fun p hp => ⟨by
          have := (hM.ok p hp).1
          have : p.1 ≠ k := fun e => h ⟨p, hp, e⟩
          omega, (hM.ok p hp).2⟩⟩ hu
        omega
theorem mmk_max (nb : Nat → List Nat) (k : Nat) : IsMax nb k (mmk nb k []) := by
  obtain ⟨⟨M, h1, -, h3⟩, h4⟩ := mmk_is nb k []
  exact ⟨⟨M, h1, h3⟩, fun M hM => h4 M hM fun _ _ h => by cases h⟩
theorem isMax_eq {nb : Nat → List Nat} {k m : Nat} (h : IsMax nb k m) : m = mmk nb k [] := isMax_unique h (mmk_max nb k)
theorem Mat.swap {nb nb' : Nat → List Nat} {k n : Nat} {M : List (Nat × Nat)} (h : Mat nb k M) (hs : ∀ i j, i < k → j ∈ nb i → j < n ∧ i ∈ nb' j) : Mat nb' n (M.map fun p => (p.2, p.1)) := by
  refine ⟨?_, ?_, ?_⟩
  · rw [List.map_map]; exact h.right
  · rw [List.map_map]; exact h.left
  · intro p hp
    obtain ⟨q, hq, rfl⟩ := List.mem_map.1 hp
    exact hs _ _ (h.ok q hq).1 (h.ok q hq).2
/-- both directions -/
theorem isMax_swap {nb nb' : Nat → List Nat} {k n m m' : Nat} (h : IsMax nb k m) (h' : IsMax nb' n m') (hs : ∀ i j, i < k → j ∈ nb i → j < n ∧ i ∈ nb' j) (hs' : ∀ i j, i < n → j ∈ nb' i → j < k ∧ i ∈ nb j) : m = m' := by
  obtain ⟨M, hM, rfl⟩ := h.is
  obtain ⟨M', hM', rfl⟩ := h'.is
  have a := h'.most _ (hM.swap hs)
  have b := h.most _ (hM'.swap hs')
  simp only [List.length_map] at a b
  omega
end Go.Proofs.Ythejomcibobieaa
