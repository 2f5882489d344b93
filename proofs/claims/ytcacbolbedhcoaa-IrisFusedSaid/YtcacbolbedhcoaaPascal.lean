/- The triangle of numbers of choices, row by row. -/
import Derived.WalkKit
namespace Go.Proofs.Ytcacbolbedhcoaa

/-- sums of neighbours -/
def nbr : List Nat → List Nat
  | a :: b :: r => (a + b) :: nbr (b :: r)
  | _ => []
def nextRow (l : List Nat) : List Nat := 1 :: nbr l ++ [1]
def rowN : Nat → List Nat
  | 0 => [1]
  | n + 1 => nextRow (rowN n)
def chN (n k : Nat) : Nat := (rowN n).getD k 0
def sumN (n k : Nat) : Nat := ((rowN n).take (k + 1)).sum

/-- what is asked of a row: the next number of choices out of one; the sums fit -/
def goodRow (n : Nat) (l : List Nat) : Bool :=
  decide (l.length = n + 1) && decide (l.getD 0 0 = 1) && decide (l.sum = 2 ^ n) &&
  (List.range n).all fun i => decide (l.getD i 0 * (n - i) = l.getD (i + 1) 0 * (i + 1)) && (decide (l.getD i 0 * (n - i) < 18446744073709551616) || (n == 63 && decide (28 ≤ i) && decide (i ≤ 34)))
def goodFrom : Nat → Nat → List Nat → Bool
  | 0, _, _ => true
  | f + 1, n, l => goodRow n l && goodFrom f (n + 1) (nextRow l)
theorem good_of (f : Nat) : ∀ n, goodFrom f n (rowN n) = true → ∀ m, n ≤ m → m < n + f → goodRow m (rowN m) = true := by
  induction f with
  | zero => intro n _ m h1 h2; omega
  | succ f ih =>
    intro n h m h1 h2
    simp only [goodFrom, Bool.and_eq_true] at h
    rcases Nat.eq_or_lt_of_le h1 with rfl | h1
    · exact h.1
    · exact ih (n + 1) h.2 m (by omega) (by omega)
theorem good_all (n : Nat) (h : n ≤ 63) : goodRow n (rowN n) = true :=
  good_of 64 0 (by decide +kernel) n (Nat.zero_le _) (by omega)
theorem row_len (n : Nat) (h : n ≤ 63) : (rowN n).length = n + 1 := by
  have := good_all n h
  simp only [goodRow, Bool.and_eq_true, decide_eq_true_eq] at this
  exact this.1.1.1
theorem ch_zero (n : Nat) (h : n ≤ 63) : chN n 0 = 1 := by
  have := good_all n h
  simp only [goodRow, Bool.and_eq_true, decide_eq_true_eq] at this
  exact this.1.1.2
theorem row_sum (n : Nat) (h : n ≤ 63) : (rowN n).sum = 2 ^ n := by
  have := good_all n h
  simp only [goodRow, Bool.and_eq_true, decide_eq_true_eq] at this
  exact this.1.2
theorem ch_next (n i : Nat) (h : n ≤ 63) (hi : i < n) : chN n i * (n - i) = chN n (i + 1) * (i + 1) ∧ (chN n i * (n - i) < 18446744073709551616 ∨ n = 63 ∧ 28 ≤ i ∧ i ≤ 34) := by
  have := good_all n h
  simp only [goodRow, Bool.and_eq_true, List.all_eq_true, List.mem_range, Bool.or_eq_true, decide_eq_true_eq, beq_iff_eq] at this
  have := this.2 i hi
  exact ⟨this.1, this.2.imp id fun h => ⟨h.1.1, h.1.2, h.2⟩⟩
theorem sum_le_take : ∀ (l : List Nat) (k : Nat), (l.take k).sum ≤ l.sum
  | [], k => by simp
  | a :: r, 0 => by simp
  | a :: r, k + 1 => by simp only [List.take_succ_cons, List.sum_cons]; have := sum_le_take r k; omega
theorem sum_lt (n k : Nat) (h : n ≤ 63) : sumN n k < 18446744073709551616 := by
  have h1 := sum_le_take (rowN n) (k + 1)
  rw [row_sum n h] at h1
  have : 2 ^ n ≤ 2 ^ 63 := Nat.pow_le_pow_right (by omega) h
  unfold sumN
  omega
theorem sum_succ (n k : Nat) (h : n ≤ 63) (hk : k < n) : sumN n (k + 1) = sumN n k + chN n (k + 1) := by
  have hl := row_len n h
  unfold sumN chN
  rw [List.take_succ_eq_append_getElem (by omega), List.sum_append]
  simp [List.getElem?_eq_getElem (show k + 1 < (rowN n).length by omega)]
theorem sum_zero (n : Nat) (h : n ≤ 63) : sumN n 0 = 1 := by
  have hl := row_len n h
  have h0 := ch_zero n h
  unfold sumN chN at *
  match hr : rowN n, hl with
  | a :: r, _ => rw [hr] at h0; simp at h0; simp [h0]
theorem ch_lt (n k : Nat) (h : n ≤ 63) : chN n k < 18446744073709551616 := by
  have h1 := row_sum n h
  have : 2 ^ n ≤ 2 ^ 63 := Nat.pow_le_pow_right (by omega) h
  have h2 : ∀ (l : List Nat) (k : Nat), l.getD k 0 ≤ l.sum := by
    intro l
    induction l with
    | nil => intro k; simp
    | cons a r ih => intro k; cases k with
      | zero => simp
      | succ k => simp only [List.getD_cons_succ, List.sum_cons]; have := ih k; omega
  have := h2 (rowN n) k
  unfold chN
  omega
end Go.Proofs.Ytcacbolbedhcoaa
