/- Plain laws: matchings, and the search for augmenting ways. -/
namespace Go.Proofs.Ytchplmenkdghcaa
def upd {α : Type} (f : Nat → α) (j : Nat) (v : α) : Nat → α := fun x => if x = j then v else f x
theorem upd_at {α : Type} (f : Nat → α) (j : Nat) (v : α) : upd f j v j = v := by simp [upd]
theorem upd_ne {α : Type} (f : Nat → α) (j : Nat) (v : α) (x : Nat) (h : x ≠ j) : upd f j v x = f x := by simp [upd, h]
/-- the search for a way from i, over the partners js that are left: seen, owners, whether one was found -/
inductive Aug (nb : Nat → List Nat) : Nat → List Nat → (Nat → Bool) → (Nat → Int) → Bool → (Nat → Bool) → (Nat → Int) → Prop
  | nil {i s o} : Aug nb i [] s o false s o
  | skip {i j js s o r s' o'} : s j = true → Aug nb i js s o r s' o' → Aug nb i (j :: js) s o r s' o'
  | free {i j js s o} : s j = false → o j < 0 → Aug nb i (j :: js) s o true (upd s j true) (upd o j (i : Int))
  | take {i j js s o s' o'} : s j = false → 0 ≤ o j → Aug nb (o j).toNat (nb (o j).toNat) (upd s j true) o true s' o' → Aug nb i (j :: js) s o true s' (upd o' j (i : Int))
  | pass {i j js s o s1 o1 r s' o'} : s j = false → 0 ≤ o j → Aug nb (o j).toNat (nb (o j).toNat) (upd s j true) o false s1 o1 → Aug nb i js s1 o1 r s' o' → Aug nb i (j :: js) s o r s' o'
inductive Run (nb : Nat → List Nat) : Nat → Nat → (Nat → Int) → Prop
  | zero : Run nb 0 0 (fun _ => -1)
  | hit {k m o s' o'} : Run nb k m o → Aug nb k (nb k) (fun _ => false) o true s' o' → Run nb (k + 1) (m + 1) o'
  | miss {k m o s' o'} : Run nb k m o → Aug nb k (nb k) (fun _ => false) o false s' o' → Run nb (k + 1) m o'
structure Mat (nb : Nat → List Nat) (k : Nat) (M : List (Nat × Nat)) : Prop where
  left : (M.map (·.1)).Nodup
  right : (M.map (·.2)).Nodup
  ok : ∀ p ∈ M, p.1 < k ∧ p.2 ∈ nb p.1
structure IsMax (nb : Nat → List Nat) (k m : Nat) : Prop where
  is : ∃ M, Mat nb k M ∧ M.length = m
  most : ∀ M, Mat nb k M → M.length ≤ m
theorem aug_seen {nb : Nat → List Nat} {i : Nat} {js : List Nat} {s : Nat → Bool} {o : Nat → Int} {r : Bool} {s' : Nat → Bool} {o' : Nat → Int} (h : Aug nb i js s o r s' o') : ∀ j, s j = true → s' j = true := by
  induction h with
  | nil => exact fun _ h => h
  | skip _ _ ih => exact ih
  | free _ _ => intro j hj; unfold upd; split; rfl; exact hj
  | take _ _ _ ih => intro j hj; apply ih; unfold upd; split; rfl; exact hj
  | pass _ _ _ _ ih1 ih2 => intro j hj; apply ih2; apply ih1; unfold upd; split; rfl; exact hj
theorem aug_fail {nb : Nat → List Nat} {i : Nat} {js : List Nat} {s : Nat → Bool} {o : Nat → Int} {r : Bool} {s' : Nat → Bool} {o' : Nat → Int} (h : Aug nb i js s o r s' o') : r = false → o' = o ∧ (∀ j ∈ js, s' j = true) ∧ ∀ j, s j = false → s' j = true → 0 ≤ o j ∧ ∀ y ∈ nb (o j).toNat, s' y = true := by
  induction h with
  | nil => exact fun _ => ⟨rfl, fun j h => (by cases h), fun j h1 h2 => by rw [h1] at h2; cases h2⟩
  | skip hs ha ih =>
    intro hr
    obtain ⟨h1, h2, h3⟩ := ih hr
    exact ⟨h1, fun j hj => by rcases List.mem_cons.1 hj with rfl | hj; exact aug_seen ha _ hs; exact h2 j hj, h3⟩
  | free _ _ => intro h; cases h
  | take _ _ _ _ => intro h; cases h
  | @pass i j js s o s1 o1 r s' o' hs ho ha hb ih1 ih2 =>
    intro hr
    obtain ⟨h1, h2, h3⟩ := ih1 rfl
    obtain ⟨k1, k2, k3⟩ := ih2 hr
    subst h1
    have hj : s' j = true := aug_seen hb _ (aug_seen ha j (upd_at _ _ _))
    refine ⟨k1, fun y hy => ?_, fun y h4 h5 => ?_⟩
    · rcases List.mem_cons.1 hy with rfl | hy
      · exact hj
      · exact k2 y hy
    · by_cases hyj : y = j
      · subst hyj
        exact ⟨ho, fun z hz => aug_seen hb _ (h2 z hz)⟩
      · cases h6 : s1 y with
        | false => exact k3 y h6 h5
        | true =>
          obtain ⟨h7, h8⟩ := h3 y (by rw [upd_ne _ _ _ _ hyj]; exact h4) h6
          exact ⟨h7, fun z hz => aug_seen hb _ (h8 z hz)⟩
def cnt (n : Nat) (o : Nat → Int) : Nat := (List.range n).countP fun j => decide (0 ≤ o j)
theorem cnt_succ (n : Nat) (o : Nat → Int) : cnt (n + 1) o = cnt n o + if 0 ≤ o n then 1 else 0 := by
  unfold cnt; rw [List.range_succ, List.countP_append, List.countP_singleton]; simp
theorem cnt_upd : ∀ (n : Nat) (o : Nat → Int) (j i : Nat), cnt n (upd o j (i : Int)) = if j < n ∧ o j < 0 then cnt n o + 1 else cnt n o := by
  intro n
  induction n with
  | zero => intro o j i; simp [cnt]
  | succ n ih =>
    intro o j i
    rw [cnt_succ, cnt_succ, ih]
    by_cases h : n = j
    · subst h
      rw [upd_at]
      rw [if_neg (by omega), if_pos (by omega)]
      split <;> split <;> omega
    · rw [upd_ne _ _ _ _ h]
      have e : (j < n + 1 ∧ o j < 0) ↔ (j < n ∧ o j < 0) := by omega
      simp only [e]
      by_cases h1 : j < n ∧ o j < 0
      · rw [if_pos h1, if_pos h1]; omega
      · rw [if_neg h1, if_neg h1]
/-- owners of what is not seen are different ones -/
def Inj (s : Nat → Bool) (o : Nat → Int) : Prop := ∀ j j', s j = false → s j' = false → 0 ≤ o j → o j = o j' → j = j'
theorem aug_hit {nb : Nat → List Nat} {n : Nat} {i : Nat} {js : List Nat} {s : Nat → Bool} {o : Nat → Int} {r : Bool} {s' : Nat → Bool} {o' : Nat → Int} (h : Aug nb i js s o r s' o') (hnb : ∀ i j, j ∈ nb i → j < n) :
    r = true → Inj s o → (∀ j, s j = false → o j ≠ i) → (∀ j ∈ js, j ∈ nb i) → (∀ j, s j = false → 0 ≤ o j → j ∈ nb (o j).toNat) →
    (∀ j, s j = true → o' j = o j) ∧ Inj s o' ∧ (∀ x : Nat, (∃ j, s j = false ∧ o' j = x) ↔ x = i ∨ ∃ j, s j = false ∧ o j = x) ∧ (∀ j, s j = false → 0 ≤ o' j → j ∈ nb (o' j).toNat) ∧ cnt n o' = cnt n o + 1 := by
  induction h with
  | nil => intro h; cases h
  | skip hs ha ih => exact fun hr hi hn hj hv => ih hr hi hn (fun j h => hj j (List.mem_cons_of_mem _ h)) hv
  | @free i j js s o hs ho =>
    intro _ hi hn hj hv
    have hjn := hj j (List.mem_cons_self ..)
    refine ⟨fun y hy => upd_ne _ _ _ _ (fun e => by subst e; rw [hs] at hy; cases hy), ?_, ?_, ?_, ?_⟩
    · intro a b ha hb h0 he
      unfold upd at h0 he
      split at he
      · split at he
        · simp_all
        · exact absurd he.symm (hn b hb)
      · rename_i h1
        rw [if_neg h1] at h0
        split at he
        · exact absurd he (hn a ha)
        · exact hi a b ha hb h0 he
    · intro x
      constructor
      · rintro ⟨y, hy, he⟩
        unfold upd at he
        split at he
        · left; omega
        · exact .inr ⟨y, hy, he⟩
      · rintro (rfl | ⟨y, hy, he⟩)
        · exact ⟨j, hs, upd_at _ _ _⟩
        · exact ⟨y, hy, by rw [upd_ne _ _ _ _ (fun e => by subst e; omega)]; exact he⟩
    · intro y hy h0
      unfold upd at h0 ⊢
      split
      · rename_i e; subst e; simpa using hjn
      · rename_i e; rw [if_neg e] at h0; exact hv y hy h0
    · rw [cnt_upd, if_pos ⟨hnb _ _ hjn, ho⟩]
  | @take i j js s o s' o' hs ho ha ih =>
    intro _ hi hn hj hv
    have hjn := hj j (List.mem_cons_self ..)
    have un : ∀ y, upd s j true y = false → s y = false ∧ y ≠ j := by
      intro y hy; unfold upd at hy; split at hy
      · cases hy
      · rename_i e; exact ⟨hy, e⟩
    have un' : ∀ y, s y = false → y ≠ j → upd s j true y = false := fun y hy e => by rw [upd_ne _ _ _ _ e]; exact hy
    have hoj : ((o j).toNat : Int) = o j := by omega
    obtain ⟨i1, i2, i3, i4, i5⟩ := ih rfl (fun a b ha hb => hi a b (un a ha).1 (un b hb).1)
      (fun y hy e => (un y hy).2 (hi y j (un y hy).1 hs (by omega) (by omega)))
      (fun y hy => hy) (fun y hy => hv y (un y hy).1)
    have i3' : ∀ x : Nat, (∃ y, s y = false ∧ y ≠ j ∧ o' y = x) ↔ ∃ y, s y = false ∧ o y = x := by
      intro x
      constructor
      · rintro ⟨y, hy, hyj, he⟩
        rcases (i3 x).1 ⟨y, un' y hy hyj, he⟩ with rfl | ⟨z, hz, hez⟩
        · exact ⟨j, hs, by omega⟩
        · exact ⟨z, (un z hz).1, hez⟩
      · rintro ⟨y, hy, he⟩
        obtain ⟨z, hz, hez⟩ := (i3 x).2 (by
          by_cases hyj : y = j
          · subst hyj; left; omega
          · exact .inr ⟨y, un' y hy hyj, he⟩)
        exact ⟨z, (un z hz).1, (un z hz).2, hez⟩
    have nei : ∀ y, s y = false → y ≠ j → o' y ≠ i := by
      intro y hy hyj he
      obtain ⟨z, hz, hez⟩ := (i3' i).1 ⟨y, hy, hyj, he⟩
      exact hn z hz hez
    refine ⟨fun y hy => ?_, ?_, ?_, ?_, ?_⟩
    · have hyj : y ≠ j := fun e => by subst e; rw [hs] at hy; cases hy
      rw [upd_ne _ _ _ _ hyj]
      exact i1 y (by rw [upd_ne _ _ _ _ hyj]; exact hy)
    · intro a b ha hb h0 he
      unfold upd at h0 he
      split at he
      · split at he
        · simp_all
        · rename_i e; exact absurd he.symm (nei b hb e)
      · rename_i h1
        rw [if_neg h1] at h0
        split at he
        · exact absurd he (nei a ha h1)
        · rename_i h2; exact i2 a b (un' a ha h1) (un' b hb h2) h0 he
    · intro x
      constructor
      · rintro ⟨y, hy, he⟩
        unfold upd at he
        split at he
        · left; omega
        · rename_i e; exact .inr ((i3' x).1 ⟨y, hy, e, he⟩)
      · rintro (rfl | h)
        · exact ⟨j, hs, upd_at _ _ _⟩
        · obtain ⟨y, hy, hyj, he⟩ := (i3' x).2 h
          exact ⟨y, hy, by rw [upd_ne _ _ _ _ hyj]; exact he⟩
    · intro y hy h0
      unfold upd at h0 ⊢
      split
      · rename_i e; subst e; simpa using hjn
      · rename_i e; rw [if_neg e] at h0; exact i4 y (un' y hy e) h0
    · rw [cnt_upd, if_neg, i5]
      rw [i1 j (upd_at _ _ _)]; omega
  | @pass i j js s o s1 o1 r s' o' hs ho ha hb ih1 ih2 =>
    intro hr hi hn hj hv
    obtain ⟨f1, f2, f3⟩ := aug_fail ha rfl
    subst f1
    have hsee : ∀ y, s y = true → s1 y = true := fun y hy => aug_seen ha y (by unfold upd; split; rfl; exact hy)
    have hle : ∀ y, s1 y = false → s y = false := fun y hy => by
      cases h : s y with
      | false => rfl
      | true => rw [hsee y h] at hy; cases hy
    obtain ⟨i1, i2, i3, i4, i5⟩ := ih2 hr (fun a b ha hb => hi a b (hle a ha) (hle b hb)) (fun y hy => hn y (hle y hy)) (fun y hy => hj y (List.mem_cons_of_mem _ hy)) (fun y hy => hv y (hle y hy))
    have cross : ∀ a b, s a = false → s1 a = true → s1 b = false → 0 ≤ o1 a → o1 a = o' b → False := by
      intro a b ha0 ha hb h0 he
      have hoa : ((o1 a).toNat : Int) = o1 a := by omega
      rcases (i3 (o1 a).toNat).1 ⟨b, hb, by omega⟩ with h | ⟨z, hz, hez⟩
      · exact hn a ha0 (by omega)
      · have := hi a z ha0 (hle z hz) h0 (by omega)
        subst this; rw [ha] at hz; cases hz
    refine ⟨fun y hy => i1 y (hsee y hy), ?_, ?_, ?_, i5⟩
    · intro a b ha hb h0 he
      cases h1 : s1 a with
      | false =>
        cases h2 : s1 b with
        | false => exact i2 a b h1 h2 h0 he
        | true => rw [i1 b h2] at he; exact (cross b a hb h2 h1 (by omega) he.symm).elim
      | true =>
        rw [i1 a h1] at h0 he
        cases h2 : s1 b with
        | false => exact (cross a b ha h1 h2 h0 he).elim
        | true => rw [i1 b h2] at he; exact hi a b ha hb h0 he
    · intro x
      constructor
      · rintro ⟨y, hy, he⟩
        cases h1 : s1 y with
        | false =>
          rcases (i3 x).1 ⟨y, h1, he⟩ with h | ⟨z, hz, hez⟩
          · exact .inl h
          · exact .inr ⟨z, hle z hz, hez⟩
        | true => exact .inr ⟨y, hy, by rw [← i1 y h1]; exact he⟩
      · rintro (h | ⟨y, hy, he⟩)
        · obtain ⟨z, hz, hez⟩ := (i3 x).2 (.inl h)
          exact ⟨z, hle z hz, hez⟩
        · cases h1 : s1 y with
          | false =>
            obtain ⟨z, hz, hez⟩ := (i3 x).2 (.inr ⟨y, h1, he⟩)
            exact ⟨z, hle z hz, hez⟩
          | true => exact ⟨y, hy, by rw [i1 y h1]; exact he⟩
    · intro y hy h0
      cases h1 : s1 y with
      | false => exact i4 y h1 h0
      | true => rw [i1 y h1] at h0 ⊢; exact hv y hy h0
theorem len_sub {α : Type} [BEq α] [LawfulBEq α] : ∀ (l l' : List α), l.Nodup → (∀ a ∈ l, a ∈ l') → l.length ≤ l'.length := by
  intro l
  induction l with
  | nil => intro _ _ _; exact Nat.zero_le _
  | cons a l ih =>
    intro l' hd hs
    obtain ⟨hna, hd'⟩ := List.nodup_cons.1 hd
    have ha := hs a (List.mem_cons_self ..)
    have h := ih (l'.erase a) hd' (fun b hb => by
      have hba : b ≠ a := fun e => by subst e; exact hna hb
      exact (List.mem_erase_of_ne hba).2 (hs b (List.mem_cons_of_mem _ hb)))
    rw [List.length_erase_of_mem ha] at h
    have := List.length_pos_of_mem ha
    simp only [List.length_cons]; omega
theorem len_split {α : Type} (p : α → Bool) (l : List α) : l.length = (l.filter p).length + (l.filter fun a => !p a).length := by
  induction l with
  | nil => rfl
  | cons a l ih =>
    simp only [List.filter_cons]
    cases p a <;> simp <;> omega
theorem Mat.filter {nb : Nat → List Nat} {k : Nat} {M : List (Nat × Nat)} (h : Mat nb k M) (p : Nat × Nat → Bool) : Mat nb k (M.filter p) :=
  ⟨h.left.sublist ((List.filter_sublist (p := p)).map _), h.right.sublist ((List.filter_sublist (p := p)).map _), fun q hq => h.ok q (List.mem_filter.1 hq).1⟩
theorem Mat.less {nb : Nat → List Nat} {k : Nat} {M : List (Nat × Nat)} (h : Mat nb (k + 1) M) : Mat nb k (M.filter fun p => decide (p.1 < k)) ∧ M.length ≤ (M.filter fun p => decide (p.1 < k)).length + 1 := by
  have hf := h.filter fun p => decide (p.1 < k)
  refine ⟨⟨hf.left, hf.right, fun p hp => ⟨by simpa using (List.mem_filter.1 hp).2, (hf.ok p hp).2⟩⟩, ?_⟩
  rw [len_split (fun p => decide (p.1 < k)) M]
  have h2 := h.filter fun p => !decide (p.1 < k)
  have h3 := len_sub _ [k] h2.left (fun a ha => by
    obtain ⟨p, hp, rfl⟩ := List.mem_map.1 ha
    have h4 := (h2.ok p hp).1
    have h5 := (List.mem_filter.1 hp).2
    simp at h5
    simp; omega)
  simp only [List.length_map, List.length_singleton] at h3
  omega
/-- the pairs of the owners -/
def ownM (n : Nat) (o : Nat → Int) : List (Nat × Nat) := (List.range n).filterMap fun j => if 0 ≤ o j then some ((o j).toNat, j) else none
theorem mem_ownM (n : Nat) (o : Nat → Int) (p : Nat × Nat) : p ∈ ownM n o ↔ p.2 < n ∧ o p.2 = p.1 := by
  unfold ownM
  rw [List.mem_filterMap]
  constructor
  · rintro ⟨j, hj, h⟩
    split at h
    · injection h with h; subst h; exact ⟨List.mem_range.1 hj, by simp; omega⟩
    · cases h
  · rintro ⟨h1, h2⟩
    exact ⟨p.2, List.mem_range.2 h1, by rw [if_pos (by omega)]; congr 1; exact Prod.ext (by simp; omega) rfl⟩
theorem len_ownM : ∀ (n : Nat) (o : Nat → Int), (ownM n o).length = cnt n o := by
  intro n o
  unfold ownM cnt
  induction n with
  | zero => rfl
  | succ n ih =>
    rw [List.range_succ, List.filterMap_append, List.countP_append, List.length_append, ih]
    congr 1
    simp only [List.filterMap_cons, List.filterMap_nil, List.countP_singleton, decide_eq_true_eq]
    by_cases h : 0 ≤ o n
    · simp [h]
    · simp [h]
theorem mat_ownM {nb : Nat → List Nat} {n k : Nat} {o : Nat → Int} (hi : Inj (fun _ => false) o) (hv : ∀ j, 0 ≤ o j → (o j).toNat < k ∧ j ∈ nb (o j).toNat) : Mat nb k (ownM n o) := by
  have hd : (ownM n o).Pairwise fun p q => p.2 ≠ q.2 := by
    unfold ownM
    rw [List.pairwise_filterMap]
    refine List.Pairwise.imp ?_ (List.nodup_range (n := n))
    intro a b hab p hp q hq
    split at hp
    · split at hq
      · injection hp with hp; injection hq with hq; subst hp hq; exact hab
      · cases hq
    · cases hp
  refine ⟨?_, List.pairwise_map.2 hd, ?_⟩
  · refine List.pairwise_map.2 (hd.imp_of_mem ?_)
    intro p q hp hq hpq he
    have h1 := ((mem_ownM n o p).1 hp).2
    have h2 := ((mem_ownM n o q).1 hq).2
    exact hpq (hi p.2 q.2 rfl rfl (by omega) (by omega))
  · intro p hp
    have h1 := ((mem_ownM n o p).1 hp).2
    have h2 := hv p.2 (by omega)
    rw [h1] at h2
    simpa using h2
theorem run_max {nb : Nat → List Nat} {n k m : Nat} {o : Nat → Int} (hnb : ∀ i j, j ∈ nb i → j < n) (h : Run nb k m o) : IsMax nb k m ∧ Inj (fun _ => false) o ∧ (∀ j, 0 ≤ o j → (o j).toNat < k ∧ j ∈ nb (o j).toNat) ∧ cnt n o = m := by
  induction h with
  | zero =>
    refine ⟨⟨⟨[], ⟨List.nodup_nil, List.nodup_nil, fun _ h => by cases h⟩, rfl⟩, fun M hM => ?_⟩, fun a b _ _ h => by simp at h, fun j h => by simp at h, ?_⟩
    · match M, hM with
      | [], _ => exact Nat.le_refl _
      | p :: r, hM => exact absurd (hM.ok p (List.mem_cons_self ..)).1 (Nat.not_lt_zero _)
    · unfold cnt; rw [List.countP_eq_zero]; intro a _; simp
  | @hit k m o s' o' hr ha ih =>
    obtain ⟨⟨hm1, hm2⟩, hi, hv, hc⟩ := ih
    obtain ⟨-, i2, i3, i4, i5⟩ := aug_hit ha hnb rfl hi (fun j _ e => by have := (hv j (by omega)).1; omega) (fun _ h => h) (fun j _ h => (hv j h).2)
    have hv' : ∀ j, 0 ≤ o' j → (o' j).toNat < k + 1 ∧ j ∈ nb (o' j).toNat := by
      intro j h0
      refine ⟨?_, i4 j rfl h0⟩
      rcases (i3 (o' j).toNat).1 ⟨j, rfl, by omega⟩ with h | ⟨z, _, hz⟩
      · omega
      · have := (hv z (by omega)).1; omega
    refine ⟨⟨⟨ownM n o', mat_ownM i2 hv', by rw [len_ownM, i5, hc]⟩, fun M hM => ?_⟩, i2, hv', by rw [i5, hc]⟩
    obtain ⟨h1, h2⟩ := hM.less
    have := hm2 _ h1
    omega
  | @miss k m o s' o' hr ha ih =>
    obtain ⟨⟨hm1, hm2⟩, hi, hv, hc⟩ := ih
    obtain ⟨rfl, f2, f3⟩ := aug_fail ha rfl
    have hv' : ∀ j, 0 ≤ o' j → (o' j).toNat < k + 1 ∧ j ∈ nb (o' j).toNat := fun j h => ⟨by have := (hv j h).1; omega, (hv j h).2⟩
    refine ⟨⟨⟨ownM n o', mat_ownM hi hv', by rw [len_ownM, hc]⟩, fun M hM => ?_⟩, hi, hv', hc⟩
    rw [len_split (fun p => s' p.2) M]
    have hA := hM.filter fun p => s' p.2
    have hB := hM.filter fun p => !s' p.2
    have hT := (mat_ownM (n := n) hi hv).filter fun p => s' p.2
    have hAT : (M.filter fun p => s' p.2).length ≤ ((ownM n o').filter fun p => s' p.2).length := by
      have := len_sub _ (((ownM n o').filter fun p => s' p.2).map (·.2)) hA.right (fun j hj => by
        obtain ⟨p, hp, rfl⟩ := List.mem_map.1 hj
        have h1 := (List.mem_filter.1 hp).2
        obtain ⟨h2, -⟩ := f3 p.2 rfl h1
        have h3 := hnb _ _ (hM.ok p (List.mem_filter.1 hp).1).2
        exact List.mem_map.2 ⟨((o' p.2).toNat, p.2), List.mem_filter.2 ⟨(mem_ownM _ _ _).2 ⟨h3, by simp; omega⟩, h1⟩, rfl⟩)
      simpa using this
    have hBT : Mat nb k ((M.filter fun p => !s' p.2) ++ (ownM n o').filter fun p => s' p.2) := by
      refine ⟨?_, ?_, ?_⟩
      · rw [List.map_append, List.nodup_append]
        refine ⟨hB.left, hT.left, ?_⟩
        intro a ha b hb e
        subst e
        obtain ⟨p, hp, rfl⟩ := List.mem_map.1 ha
        obtain ⟨q, hq, hqp⟩ := List.mem_map.1 hb
        have h1 := (List.mem_filter.1 hp).2
        have h2 := (List.mem_filter.1 hq).2
        have h3 := ((mem_ownM _ _ _).1 (List.mem_filter.1 hq).1).2
        obtain ⟨h4, h5⟩ := f3 q.2 rfl h2
        have h6 := (hM.ok p (List.mem_filter.1 hp).1).2
        rw [← hqp] at h6
        have h7 := h5 p.2 (by rw [h3]; simpa using h6)
        simp [h7] at h1
      · rw [List.map_append, List.nodup_append]
        refine ⟨hB.right, hT.right, ?_⟩
        intro a ha b hb e
        subst e
        obtain ⟨p, hp, rfl⟩ := List.mem_map.1 ha
        obtain ⟨q, hq, hqp⟩ := List.mem_map.1 hb
        have h1 := (List.mem_filter.1 hp).2
        have h2 := (List.mem_filter.1 hq).2
        rw [hqp] at h2
        simp [h2] at h1
      · intro p hp
        rcases List.mem_append.1 hp with h | h
        · have h0 := hM.ok p (List.mem_filter.1 h).1
          refine ⟨?_, h0.2⟩
          have h1 := (List.mem_filter.1 h).2
          rcases Nat.lt_or_ge p.1 k with h2 | h2
          · exact h2
          · have h3 : p.1 = k := by omega
            rw [h3] at h0
            have := f2 p.2 h0.2
            simp [this] at h1
        · exact hT.ok p h
    have := hm2 _ hBT
    rw [List.length_append] at this
    omega
theorem isMax_unique {nb : Nat → List Nat} {k m m' : Nat} (h : IsMax nb k m) (h' : IsMax nb k m') : m = m' := by
  obtain ⟨M, hM, rfl⟩ := h.is
  obtain ⟨M', hM', rfl⟩ := h'.is
  have := h.most _ hM'
  have := h'.most _ hM
  omega
theorem Mat.mono {nb nb' : Nat → List Nat} {k : Nat} {M : List (Nat × Nat)} (h : Mat nb k M) (hs : ∀ i, i < k → ∀ j ∈ nb i, j ∈ nb' i) : Mat nb' k M :=
  ⟨h.left, h.right, fun p hp => ⟨(h.ok p hp).1, hs _ (h.ok p hp).1 _ (h.ok p hp).2⟩⟩
theorem isMax_mono {nb nb' : Nat → List Nat} {k m m' : Nat} (h : IsMax nb k m) (h' : IsMax nb' k m') (hs : ∀ i, i < k → ∀ j ∈ nb i, j ∈ nb' i) : m ≤ m' := by
  obtain ⟨M, hM, rfl⟩ := h.is
  exact h'.most _ (hM.mono hs)
theorem isMax_left {nb : Nat → List Nat} {k m : Nat} (h : IsMax nb k m) : m ≤ k := by
  obtain ⟨M, hM, rfl⟩ := h.is
  have := len_sub _ (List.range k) hM.left (fun a ha => by
    obtain ⟨p, hp, rfl⟩ := List.mem_map.1 ha
    exact List.mem_range.2 (hM.ok p hp).1)
  simpa using this
theorem isMax_right {nb : Nat → List Nat} {n k m : Nat} (hnb : ∀ i j, i < k → j ∈ nb i → j < n) (h : IsMax nb k m) : m ≤ n := by
  obtain ⟨M, hM, rfl⟩ := h.is
  have := len_sub _ (List.range n) hM.right (fun a ha => by
    obtain ⟨p, hp, rfl⟩ := List.mem_map.1 ha
    exact List.mem_range.2 (hnb _ _ (hM.ok p hp).1 (hM.ok p hp).2))
  simpa using this
end Go.Proofs.Ytchplmenkdghcaa
namespace Go.Proofs.Ytchplmenkdghcaa
/-- the greatest number of pairs of the first k points, without some second ones -/
def mmk (nb : Nat → List Nat) : Nat → List Nat → Nat
  | 0, _ => 0
  | k + 1, used => ((nb k).filter fun j => !used.contains j).foldl (fun m j => max m (1 + mmk nb k (j :: used))) (mmk nb k used)
theorem foldl_max (f : Nat → Nat) : ∀ (l : List Nat) (a : Nat), a ≤ l.foldl (fun m j => max m (f j)) a ∧ (∀ j ∈ l, f j ≤ l.foldl (fun m j => max m (f j)) a) ∧ (l.foldl (fun m j => max m (f j)) a = a ∨ ∃ j ∈ l, l.foldl (fun m j => max m (f j)) a = f j) := by
  intro l
  induction l with
  | nil => intro a; exact ⟨Nat.le_refl _, fun _ h => (by cases h), .inl rfl⟩
  | cons x l ih =>
    intro a
    obtain ⟨h1, h2, h3⟩ := ih (max a (f x))
    rw [List.foldl_cons]
    refine ⟨by omega, fun j hj => ?_, ?_⟩
    · rcases List.mem_cons.1 hj with rfl | hj
      · omega
      · exact h2 j hj
    · rcases h3 with h3 | ⟨j, hj, h3⟩
      · by_cases h : f x ≤ a
        · exact .inl (by omega)
        · exact .inr ⟨x, List.mem_cons_self .., by omega⟩
      · exact .inr ⟨j, List.mem_cons_of_mem _ hj, h3⟩
theorem Mat.more {nb : Nat → List Nat} {k : Nat} {M : List (Nat × Nat)} (h : Mat nb k M) : Mat nb (k + 1) M := ⟨h.left, h.right, fun p hp => ⟨by have := (h.ok p hp).1; omega, (h.ok p hp).2⟩⟩
theorem mmk_is (nb : Nat → List Nat) : ∀ (k : Nat) (used : List Nat), (∃ M, Mat nb k M ∧ (∀ p ∈ M, p.2 ∉ used) ∧ M.length = mmk nb k used) ∧ (∀ M, Mat nb k M → (∀ p ∈ M, p.2 ∉ used) → M.length ≤ mmk nb k used) := by
  intro k
  induction k with
  | zero =>
    intro used
    refine ⟨⟨[], ⟨List.nodup_nil, List.nodup_nil, fun _ h => (by cases h)⟩, fun _ h => (by cases h), rfl⟩, fun M hM _ => ?_⟩
    match M, hM with
    | [], _ => exact Nat.le_refl _
    | p :: r, hM => exact absurd (hM.ok p (List.mem_cons_self ..)).1 (Nat.not_lt_zero _)
  | succ k ih =>
    intro used
    obtain ⟨f1, f2, f3⟩ := foldl_max (fun j => 1 + mmk nb k (j :: used)) ((nb k).filter fun j => !used.contains j) (mmk nb k used)
    have e : mmk nb (k + 1) used = ((nb k).filter fun j => !used.contains j).foldl (fun m j => max m (1 + mmk nb k (j :: used))) (mmk nb k used) := rfl
    rw [← e] at f1 f2 f3
    constructor
    · rcases f3 with h | ⟨j, hj, h⟩
      · obtain ⟨⟨M, h1, h2, h3⟩, -⟩ := ih used
        exact ⟨M, h1.more, h2, by omega⟩
      · obtain ⟨⟨M, h1, h2, h3⟩, -⟩ := ih (j :: used)
        obtain ⟨hj1, hj2⟩ := List.mem_filter.1 hj
        have hj3 : j ∉ used := by simpa using hj2
        refine ⟨(k, j) :: M, ⟨?_, ?_, ?_⟩, ?_, ?_⟩
        · refine List.nodup_cons.2 ⟨fun hh => ?_, h1.left⟩
          obtain ⟨p, hp, hpe⟩ := List.mem_map.1 hh
          have := (h1.ok p hp).1
          simp only at hpe
          omega
        · refine List.nodup_cons.2 ⟨fun hh => ?_, h1.right⟩
          obtain ⟨p, hp, hpe⟩ := List.mem_map.1 hh
          exact h2 p hp (by rw [hpe]; exact List.mem_cons_self ..)
        · intro p hp
          rcases List.mem_cons.1 hp with rfl | hp
          · exact ⟨Nat.lt_succ_self _, hj1⟩
          · exact h1.more.ok p hp
        · intro p hp
          rcases List.mem_cons.1 hp with rfl | hp
          · exact hj3
          · exact fun hh => h2 p hp (List.mem_cons_of_mem _ hh)
        · rw [List.length_cons, h3, h]; omega
    · intro M hM hu
      by_cases h : ∃ p ∈ M, p.1 = k
      · obtain ⟨p, hp, hpk⟩ := h
        have hpu := hu p hp
        have hpn := (hM.ok p hp).2
        rw [hpk] at hpn
        obtain ⟨hl, hle⟩ := hM.less
        have h1 := (ih (p.2 :: used)).2 _ hl (fun q hq => by
          obtain ⟨q1, q2⟩ := List.mem_filter.1 hq
          have q3 : q.1 < k := by simpa using q2
          intro hh
          rcases List.mem_cons.1 hh with hh | hh
          · have : q = p := by
              have hr := hM.right
              obtain ⟨a, ha, hqa⟩ := List.getElem_of_mem q1
              obtain ⟨b, hb, hpb⟩ := List.getElem_of_mem hp
              have hab : (M.map (·.2))[a]'(by simpa using ha) = (M.map (·.2))[b]'(by simpa using hb) := by simp [hqa, hpb, hh]
              have := (List.getElem_inj hr).1 hab
              subst this
              rw [← hqa, ← hpb]
            subst this
            omega
          · exact hu q q1 hh)
        have h2 := f2 p.2 (List.mem_filter.2 ⟨hpn, by simpa using hpu⟩)
        omega
      · have h1 := (ih used).2 M ⟨hM.left, hM.right, fun p hp => ⟨by
          have := (hM.ok p hp).1
          have : p.1 ≠ k := fun e => h ⟨p, hp, e⟩
          omega, (hM.ok p hp).2⟩⟩ hu
        omega
theorem mmk_max (nb : Nat → List Nat) (k : Nat) : IsMax nb k (mmk nb k []) := by
  obtain ⟨⟨M, h1, -, h3⟩, h4⟩ := mmk_is nb k []
  exact ⟨⟨M, h1, h3⟩, fun M hM => h4 M hM fun _ _ h => by cases h⟩
theorem isMax_eq {nb : Nat → List Nat} {k m : Nat} (h : IsMax nb k m) : m = mmk nb k [] := isMax_unique h (mmk_max nb k)
theorem Mat.swap {nb nb' : Nat → List Nat} {k n : Nat} {M : List (Nat × Nat)} (h : Mat nb k M) (hs : ∀ i j, i < k → j ∈ nb i → j < n ∧ i ∈ nb' j) : Mat nb' n (M.map fun p => (p.2, p.1)) := by
  refine ⟨?_, ?_, ?_⟩
  · rw [List.map_map]; exact h.right
  · rw [List.map_map]; exact h.left
  · intro p hp
    obtain ⟨q, hq, rfl⟩ := List.mem_map.1 hp
    exact hs _ _ (h.ok q hq).1 (h.ok q hq).2
end Go.Proofs.Ytchplmenkdghcaa

