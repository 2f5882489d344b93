/- Plain laws: orders and their numbers. -/
import Derived.Test.YtfdcapblgdlkaaaCommon
namespace Go.Proofs.Ytfdcapblgdlkaaa

def factN : Nat → Nat
  | 0 => 1
  | n + 1 => factN n * (n + 1)
/-- the order with a number, from what is left -/
def dec : Nat → List Nat → Nat → List Nat
  | 0, _, _ => []
  | f + 1, left, p => left.getD (p / factN f) 0 :: dec f (left.eraseIdx (p / factN f)) (p % factN f)
/-- the number of an order -/
def num : List Nat → Nat
  | [] => 0
  | n :: r => (r.countP (· < n)) * factN r.length + num r
theorem fact_pos (n : Nat) : 0 < factN n := by
  induction n with
  | zero => decide
  | succ n ih => exact Nat.mul_pos ih (Nat.succ_pos n)
theorem dec_len : ∀ (f : Nat) (left : List Nat) (p : Nat), (dec f left p).length = f := by
  intro f
  induction f with
  | zero => intro _ _; rfl
  | succ f ih => intro left p; simp [dec, ih]
theorem div_lt (f p : Nat) (h : p < factN (f + 1)) : p / factN f < f + 1 := by
  rw [Nat.div_lt_iff_lt_mul (fact_pos f)]
  rw [factN, Nat.mul_comm] at h
  exact h
theorem cons_erase : ∀ (l : List Nat) (k : Nat) (hk : k < l.length), (l[k] :: l.eraseIdx k).Perm l := by
  intro l
  induction l with
  | nil => intro k hk; exact absurd hk (Nat.not_lt_zero _)
  | cons a r ih =>
    intro k hk
    cases k with
    | zero => exact List.Perm.refl _
    | succ k =>
      simp only [List.eraseIdx_cons_succ, List.getElem_cons_succ]
      exact (List.Perm.swap _ _ _).trans (List.Perm.cons _ (ih k (by simpa using hk)))
theorem dec_perm : ∀ (f : Nat) (left : List Nat) (p : Nat), left.length = f → p < factN f → (dec f left p).Perm left := by
  intro f
  induction f with
  | zero => intro left p hl _; rw [List.length_eq_zero_iff.1 hl]; exact List.Perm.refl _
  | succ f ih =>
    intro left p hl hp
    have hd := div_lt f p hp
    have hlt : p / factN f < left.length := by omega
    have e : left.getD (p / factN f) 0 = left[p / factN f] := by rw [List.getD_eq_getElem?_getD, List.getElem?_eq_getElem hlt]; rfl
    have h1 := ih (left.eraseIdx (p / factN f)) (p % factN f) (by rw [List.length_eraseIdx, if_pos hlt]; omega) (Nat.mod_lt _ (fact_pos f))
    rw [dec, e]
    exact (List.Perm.cons _ h1).trans (cons_erase left _ hlt)
theorem num_lt : ∀ l : List Nat, num l < factN l.length := by
  intro l
  induction l with
  | nil => decide
  | cons n r ih =>
    have h := List.countP_le_length (p := (· < n)) (l := r)
    rw [num, List.length_cons, factN]
    have h1 : (r.countP (· < n)) * factN r.length ≤ r.length * factN r.length := Nat.mul_le_mul_right _ h
    have h2 : factN r.length * (r.length + 1) = r.length * factN r.length + factN r.length := by rw [Nat.mul_add, Nat.mul_one, Nat.mul_comm]
    omega
/-- in what is left, as many are less as stand ahead -/
theorem count_at : ∀ (left : List Nat) (k : Nat) (hk : k < left.length), left.Pairwise (· < ·) → (left.eraseIdx k).countP (· < left[k]) = k := by
  intro left
  induction left with
  | nil => intro k hk; exact absurd hk (Nat.not_lt_zero _)
  | cons a r ih =>
    intro k hk hs
    obtain ⟨ha, hr⟩ := List.pairwise_cons.1 hs
    cases k with
    | zero =>
      simp only [List.eraseIdx_cons_zero, List.getElem_cons_zero]
      rw [List.countP_eq_zero]
      intro x hx
      have := ha x hx
      simp; omega
    | succ k =>
      have hk' : k < r.length := by simpa using hk
      simp only [List.eraseIdx_cons_succ, List.getElem_cons_succ]
      rw [List.countP_cons, ih k hk' hr]
      have := ha r[k] (List.getElem_mem hk')
      simp [this]
theorem num_dec : ∀ (f : Nat) (left : List Nat) (p : Nat), left.length = f → left.Pairwise (· < ·) → p < factN f → num (dec f left p) = p := by
  intro f
  induction f with
  | zero => intro left p _ _ hp; simp [factN] at hp; subst hp; rfl
  | succ f ih =>
    intro left p hl hs hp
    have hd := div_lt f p hp
    have hlt : p / factN f < left.length := by omega
    have e : left.getD (p / factN f) 0 = left[p / factN f] := by rw [List.getD_eq_getElem?_getD, List.getElem?_eq_getElem hlt]; rfl
    have hel : (left.eraseIdx (p / factN f)).length = f := by rw [List.length_eraseIdx, if_pos hlt]; omega
    have hes : (left.eraseIdx (p / factN f)).Pairwise (· < ·) := hs.sublist (List.eraseIdx_sublist _ _)
    have h1 := ih (left.eraseIdx (p / factN f)) (p % factN f) hel hes (Nat.mod_lt _ (fact_pos f))
    have h2 := dec_perm f (left.eraseIdx (p / factN f)) (p % factN f) hel (Nat.mod_lt _ (fact_pos f))
    rw [dec, num, h1, h2.countP_eq, dec_len, e, count_at left _ hlt hs]
    rw [Nat.mul_comm]
    exact Nat.div_add_mod p (factN f)
theorem dec_num : ∀ (f : Nat) (left l : List Nat), l.length = f → l.Perm left → left.Pairwise (· < ·) → dec f left (num l) = l := by
  intro f
  induction f with
  | zero => intro left l hl _ _; rw [List.length_eq_zero_iff.1 hl]; rfl
  | succ f ih =>
    intro left l hl hp hs
    match l, hl with
    | n :: r, hl =>
      have hrl : r.length = f := by simpa using hl
      obtain ⟨k, hk, hkn⟩ := List.getElem_of_mem (hp.subset (List.mem_cons_self ..))
      have hpe : r.Perm (left.eraseIdx k) := by
        have h1 : (n :: r).Perm (left[k] :: left.eraseIdx k) := hp.trans (cons_erase left _ hk).symm
        rw [hkn] at h1
        exact h1.cons_inv
      have hc : r.countP (· < n) = k := by rw [hpe.countP_eq, ← hkn, count_at left k hk hs]
      have hnl := num_lt r
      rw [hrl] at hnl
      have hdiv : num (n :: r) / factN f = k := by
        rw [num, hc, hrl, Nat.mul_comm, Nat.mul_add_div (fact_pos f), Nat.div_eq_of_lt hnl]; rfl
      have hmod : num (n :: r) % factN f = num r := by
        rw [num, hc, hrl, Nat.mul_comm, Nat.mul_add_mod, Nat.mod_eq_of_lt hnl]
      rw [dec, hdiv, hmod, ih (left.eraseIdx k) r hrl hpe (hs.sublist (List.eraseIdx_sublist _ _))]
      rw [List.getD_eq_getElem?_getD, List.getElem?_eq_getElem hk, ← hkn]
      rfl
end Go.Proofs.Ytfdcapblgdlkaaa
