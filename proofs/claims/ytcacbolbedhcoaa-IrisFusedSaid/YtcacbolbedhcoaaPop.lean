/- Counting the bits of a word: the sums of the fields of 2, 4, 8 .. bits. -/
import Derived.WalkKit
namespace Go.Proofs.Ytcacbolbedhcoaa

/-- the number with the digits ds, the least one first -/
def val (B : Nat) : List Nat → Nat
  | [] => 0
  | d :: r => d + B * val B r
def evens : List Nat → List Nat
  | [] => []
  | [a] => [a]
  | a :: _ :: r => a :: evens r
def pairSum : List Nat → List Nat
  | [] => []
  | [a] => [a]
  | a :: b :: r => (a + b) :: pairSum r
def adj : List Nat → List Nat
  | [] => []
  | [a] => [a]
  | a :: b :: r => (a + b) :: adj (b :: r)
def mask (k : Nat) : Nat → Nat
  | 0 => 0
  | n + 1 => (2 ^ k - 1) + 2 ^ (2 * k) * mask k n

theorem and_split (k a b c d : Nat) (ha : a < 2 ^ k) (hc : c < 2 ^ k) : (a + 2 ^ k * b) &&& (c + 2 ^ k * d) = (a &&& c) + 2 ^ k * (b &&& d) := by
  apply Nat.eq_of_testBit_eq
  intro i
  have hac : a &&& c < 2 ^ k := Nat.lt_of_le_of_lt Nat.and_le_left ha
  rw [Nat.testBit_and, Nat.add_comm a, Nat.add_comm c, Nat.add_comm (a &&& c), Nat.testBit_two_pow_mul_add _ ha, Nat.testBit_two_pow_mul_add _ hc, Nat.testBit_two_pow_mul_add _ hac]
  split <;> simp [Nat.testBit_and]
theorem and_ones (k a : Nat) (ha : a < 2 ^ k) : a &&& (2 ^ k - 1) = a := by
  rw [Nat.and_two_pow_sub_one_eq_mod, Nat.mod_eq_of_lt ha]
theorem and_evens (k : Nat) : ∀ (ds : List Nat) (n : Nat), (∀ d ∈ ds, d < 2 ^ k) → ds.length ≤ 2 * n → val (2 ^ k) ds &&& mask k n = val (2 ^ (2 * k)) (evens ds)
  | [], n, _, _ => by simp [val, evens]
  | [a], 0, _, hl => by simp at hl
  | [a], n + 1, h, _ => by
    have ha := h a (by simp)
    simp only [val, evens, mask, Nat.mul_zero, Nat.add_zero]
    have h1 := and_split k a 0 (2 ^ k - 1) (2 ^ k * mask k n) ha (by have := Nat.two_pow_pos k; omega)
    rw [Nat.mul_zero, Nat.add_zero, Nat.zero_and, Nat.mul_zero, Nat.add_zero, and_ones k a ha] at h1
    rw [Nat.two_mul, Nat.pow_add, Nat.mul_assoc]
    exact h1
  | a :: b :: r, 0, _, hl => by simp at hl
  | a :: b :: r, n + 1, h, hl => by
    have ha := h a (by simp)
    have hb := h b (by simp)
    have ih := and_evens k r n (fun d hd => h d (by simp [hd])) (by simp at hl; omega)
    have hp := Nat.two_pow_pos k
    have h1 := and_split k a (b + 2 ^ k * val (2 ^ k) r) (2 ^ k - 1) (0 + 2 ^ k * mask k n) ha (by omega)
    have h2 := and_split k b (val (2 ^ k) r) 0 (mask k n) hb hp
    rw [h2, ih, and_ones k a ha, Nat.and_zero, Nat.zero_add, Nat.zero_add] at h1
    simp only [val, evens, mask]
    have e : 2 ^ (2 * k) = 2 ^ k * 2 ^ k := by rw [Nat.two_mul, Nat.pow_add]
    rw [e, Nat.mul_assoc, Nat.mul_assoc]
    rw [e] at h1
    exact h1
theorem pair_val (B : Nat) : ∀ (ds : List Nat), val B (evens ds) + val B (evens ds.tail) = val B (pairSum ds)
  | [] => rfl
  | [a] => by simp [val, evens, pairSum]
  | [a, b] => by simp [val, evens, pairSum]
  | a :: b :: c :: r => by
    have ih := pair_val B (c :: r)
    simp only [val, evens, pairSum, List.tail_cons] at ih ⊢
    rw [← ih, Nat.mul_add]
    omega
theorem adj_val (B : Nat) : ∀ (ds : List Nat), val B ds + val B ds.tail = val B (adj ds)
  | [] => rfl
  | [a] => by simp [val, adj]
  | a :: b :: r => by
    have ih := adj_val B (b :: r)
    rw [List.tail_cons] at ih ⊢
    show a + B * val B (b :: r) + val B (b :: r) = (a + b) + B * val B (adj (b :: r))
    rw [← ih, Nat.mul_add]
    have : val B (b :: r) = b + B * val B r := rfl
    omega
theorem evens_adj : ∀ (ds : List Nat), evens (adj ds) = pairSum ds
  | [] => rfl
  | [a] => rfl
  | [a, b] => rfl
  | a :: b :: c :: r => by
    have ih := evens_adj (c :: r)
    simp only [adj, evens, pairSum] at ih ⊢
    rw [← ih]
theorem val_div (B a : Nat) (r : List Nat) (h : a < B) : val B (a :: r) / B = val B r := by
  rw [val, Nat.add_mul_div_left _ _ (by omega), Nat.div_eq_of_lt h, Nat.zero_add]
theorem pair_le (m : Nat) : ∀ (ds : List Nat), (∀ d ∈ ds, d ≤ m) → ∀ d ∈ pairSum ds, d ≤ 2 * m
  | [], _ => by simp [pairSum]
  | [a], h => by intro d hd; simp [pairSum] at hd; subst hd; have := h d (by simp); omega
  | a :: b :: r, h => by
    intro d hd
    simp only [pairSum, List.mem_cons] at hd
    rcases hd with rfl | hd
    · have := h a (by simp); have := h b (by simp); omega
    · exact pair_le m r (fun x hx => h x (by simp [hx])) d hd
theorem adj_le (m : Nat) : ∀ (ds : List Nat), (∀ d ∈ ds, d ≤ m) → ∀ d ∈ adj ds, d ≤ 2 * m
  | [], _ => by simp [adj]
  | [a], h => by intro d hd; simp [adj] at hd; subst hd; have := h d (by simp); omega
  | a :: b :: r, h => by
    intro d hd
    simp only [adj, List.mem_cons] at hd
    rcases hd with rfl | hd
    · have := h a (by simp); have := h b (by simp); omega
    · exact adj_le m (b :: r) (fun x hx => h x (by simp at hx ⊢; exact .inr hx)) d hd
theorem pair_len : ∀ (ds : List Nat) (n : Nat), ds.length = 2 * n → (pairSum ds).length = n
  | [], n, h => by simp at h; simp [pairSum]; omega
  | [a], n, h => by simp at h; omega
  | a :: b :: r, n, h => by
    obtain ⟨m, rfl⟩ : ∃ m, n = m + 1 := ⟨n - 1, by simp at h; omega⟩
    simp only [pairSum, List.length_cons]
    rw [pair_len r m (by simp at h; omega)]
theorem adj_len : ∀ (ds : List Nat), (adj ds).length = ds.length
  | [] => rfl
  | [_] => rfl
  | _ :: b :: r => by simp only [adj, List.length_cons]; rw [adj_len (b :: r)]; simp
theorem pair_sum : ∀ (ds : List Nat), (pairSum ds).sum = ds.sum
  | [] => rfl
  | [_] => rfl
  | a :: b :: r => by simp only [pairSum, List.sum_cons]; rw [pair_sum r]; omega

/-- the first three steps, at once -/
theorem step_pair (k n : Nat) (ds : List Nat) (hl : ds.length = 2 * n) (hn : 0 < n) (h : ∀ d ∈ ds, d < 2 ^ k) (x : Nat) (hx : x = val (2 ^ k) ds) :
    (x / 2 ^ k &&& mask k n) + (x &&& mask k n) = val (2 ^ (2 * k)) (pairSum ds) := by
  rcases ds with _ | ⟨a, r⟩
  · simp at hl; omega
  have h1 : x / 2 ^ k = val (2 ^ k) r := by rw [hx, val_div _ _ _ (h a (by simp))]
  rw [h1, hx, and_evens k r n (fun d hd => h d (by simp [hd])) (by simp at hl; omega), and_evens k (a :: r) n h (by omega), ← pair_val, Nat.add_comm]
  rfl
theorem step_adj (k n m : Nat) (ds : List Nat) (hl : ds.length = 2 * n) (hn : 0 < n) (hm : 2 * m < 2 ^ k) (h : ∀ d ∈ ds, d ≤ m) (x : Nat) (hx : x = val (2 ^ k) ds) :
    (x / 2 ^ k + x) &&& mask k n = val (2 ^ (2 * k)) (pairSum ds) := by
  rcases ds with _ | ⟨a, r⟩
  · simp at hl; omega
  have h1 : x / 2 ^ k = val (2 ^ k) r := by rw [hx, val_div _ _ _ (by have := h a (by simp); omega)]
  have h2 := adj_val (2 ^ k) (a :: r)
  rw [List.tail_cons] at h2
  rw [h1, hx, Nat.add_comm, h2, and_evens k _ n (fun d hd => by have := adj_le m _ h d hd; omega) (by rw [adj_len]; omega), evens_adj]

theorem val_lt (k : Nat) (ds : List Nat) (h : ∀ d ∈ ds, d < 2 ^ k) : val (2 ^ k) ds < 2 ^ (k * ds.length) := by
  induction ds with
  | nil => simp [val]
  | cons a r ih =>
    have h1 := ih (fun d hd => h d (by simp [hd]))
    have h2 := h a (by simp)
    have h3 : 2 ^ (k * (a :: r).length) = 2 ^ k * 2 ^ (k * r.length) := by rw [List.length_cons, Nat.mul_succ, Nat.add_comm, Nat.pow_add]
    rw [val, h3]
    have h4 : 2 ^ k * val (2 ^ k) r + 2 ^ k ≤ 2 ^ k * 2 ^ (k * r.length) := by
      have : 2 ^ k * (val (2 ^ k) r + 1) ≤ 2 ^ k * 2 ^ (k * r.length) := Nat.mul_le_mul_left _ h1
      rw [Nat.mul_add, Nat.mul_one] at this; exact this
    omega

/-- the number of bits of a word -/
def cpop (x : BitVec 64) : Nat := ((List.range 64).map fun i => (x.getLsbD i).toNat).sum
def bitsOf (x n : Nat) : List Nat := (List.range n).map fun i => (x.testBit i).toNat
theorem bits_succ (x n : Nat) : bitsOf x (n + 1) = (x.testBit 0).toNat :: bitsOf (x / 2) n := by
  unfold bitsOf
  rw [List.range_succ_eq_map, List.map_cons, List.map_map]
  congr 1
  apply List.map_congr_left
  intro i _
  simp [Nat.testBit_succ]
theorem bits_val (n : Nat) : ∀ x, x < 2 ^ n → val 2 (bitsOf x n) = x := by
  induction n with
  | zero => intro x h; simp at h; subst h; rfl
  | succ n ih =>
    intro x h
    rw [bits_succ, val, ih (x / 2) (by rw [Nat.pow_succ] at h; omega)]
    have : (x.testBit 0).toNat = x % 2 := by
      rw [Nat.testBit_zero]; rcases Nat.mod_two_eq_zero_or_one x with h | h <;> simp [h]
    omega
theorem bits_lt (x n : Nat) : ∀ d ∈ bitsOf x n, d < 2 := by
  intro d hd
  obtain ⟨i, _, rfl⟩ := List.mem_map.1 hd
  exact Bool.toNat_lt _

theorem div_at (b q r x : Nat) (h : x = r + b * q) (hr : r < b) : x / b = q := by
  rw [h, Nat.add_mul_div_left _ _ (by omega), Nat.div_eq_of_lt hr, Nat.zero_add]
theorem fin8 (c0 c1 c2 c3 c4 c5 c6 c7 : Nat) (h0 : c0 ≤ 8) (h1 : c1 ≤ 8) (h2 : c2 ≤ 8) (h3 : c3 ≤ 8) (h4 : c4 ≤ 8) (h5 : c5 ≤ 8) (h6 : c6 ≤ 8) (h7 : c7 ≤ 8) (x3 : Nat)
    (e3 : x3 = c0 + 256 * c1 + 65536 * c2 + 16777216 * c3 + 4294967296 * c4 + 1099511627776 * c5 + 281474976710656 * c6 + 72057594037927936 * c7) :
    x3 + x3 / 256 < 18446744073709551616 ∧ x3 + x3 / 256 + (x3 + x3 / 256) / 65536 < 18446744073709551616 ∧
    x3 + x3 / 256 + (x3 + x3 / 256) / 65536 + (x3 + x3 / 256 + (x3 + x3 / 256) / 65536) / 4294967296 < 18446744073709551616 ∧
    (x3 + x3 / 256 + (x3 + x3 / 256) / 65536 + (x3 + x3 / 256 + (x3 + x3 / 256) / 65536) / 4294967296) % 128 = c0 + (c1 + (c2 + (c3 + (c4 + (c5 + (c6 + c7)))))) := by
  have q1 : x3 / 256 = c1 + 256 * c2 + 65536 * c3 + 16777216 * c4 + 4294967296 * c5 + 1099511627776 * c6 + 281474976710656 * c7 := div_at 256 _ c0 _ (by omega) (by omega)
  have x4 : x3 + x3 / 256 = (c0 + c1) + 256 * (c1 + c2) + 65536 * (c2 + c3) + 16777216 * (c3 + c4) + 4294967296 * (c4 + c5) + 1099511627776 * (c5 + c6) + 281474976710656 * (c6 + c7) + 72057594037927936 * c7 := by rw [q1, e3]; omega
  rw [x4]
  have q2 : ((c0 + c1) + 256 * (c1 + c2) + 65536 * (c2 + c3) + 16777216 * (c3 + c4) + 4294967296 * (c4 + c5) + 1099511627776 * (c5 + c6) + 281474976710656 * (c6 + c7) + 72057594037927936 * c7) / 65536 = (c2 + c3) + 256 * (c3 + c4) + 65536 * (c4 + c5) + 16777216 * (c5 + c6) + 4294967296 * (c6 + c7) + 1099511627776 * c7 := div_at 65536 _ (c0 + c1 + 256 * (c1 + c2)) _ (by omega) (by omega)
  rw [q2]
  have x5 : (c0 + c1) + 256 * (c1 + c2) + 65536 * (c2 + c3) + 16777216 * (c3 + c4) + 4294967296 * (c4 + c5) + 1099511627776 * (c5 + c6) + 281474976710656 * (c6 + c7) + 72057594037927936 * c7 + ((c2 + c3) + 256 * (c3 + c4) + 65536 * (c4 + c5) + 16777216 * (c5 + c6) + 4294967296 * (c6 + c7) + 1099511627776 * c7)
      = (c0 + c1 + c2 + c3) + 256 * (c1 + c2 + c3 + c4) + 65536 * (c2 + c3 + c4 + c5) + 16777216 * (c3 + c4 + c5 + c6) + 4294967296 * (c4 + c5 + c6 + c7) + 1099511627776 * (c5 + c6 + c7) + 281474976710656 * (c6 + c7) + 72057594037927936 * c7 := by omega
  rw [x5]
  have q3 : ((c0 + c1 + c2 + c3) + 256 * (c1 + c2 + c3 + c4) + 65536 * (c2 + c3 + c4 + c5) + 16777216 * (c3 + c4 + c5 + c6) + 4294967296 * (c4 + c5 + c6 + c7) + 1099511627776 * (c5 + c6 + c7) + 281474976710656 * (c6 + c7) + 72057594037927936 * c7) / 4294967296 = (c4 + c5 + c6 + c7) + 256 * (c5 + c6 + c7) + 65536 * (c6 + c7) + 16777216 * c7 :=
    div_at 4294967296 _ ((c0 + c1 + c2 + c3) + 256 * (c1 + c2 + c3 + c4) + 65536 * (c2 + c3 + c4 + c5) + 16777216 * (c3 + c4 + c5 + c6)) _ (by omega) (by omega)
  rw [q3]
  clear q1 q2 q3 x4 x5 e3
  refine ⟨by omega, by omega, by omega, by omega⟩

/-- what the library computes, in numbers -/
theorem pop_nat (x : Nat) (hx : x < 2 ^ 64) :
    let x1 := (x / 2 &&& 6148914691236517205) + (x &&& 6148914691236517205)
    let x2 := (x1 / 4 &&& 3689348814741910323) + (x1 &&& 3689348814741910323)
    let x3 := (x2 / 16 + x2) &&& 1085102592571150095
    let x4 := x3 + x3 / 256
    let x5 := x4 + x4 / 65536
    let x6 := x5 + x5 / 4294967296
    x1 < 2 ^ 64 ∧ x2 < 2 ^ 64 ∧ x2 / 16 + x2 < 2 ^ 64 ∧ x3 < 2 ^ 64 ∧ x4 < 2 ^ 64 ∧ x5 < 2 ^ 64 ∧ x6 < 2 ^ 64 ∧ x6 % 128 = (bitsOf x 64).sum := by
  intro x1 x2 x3 x4 x5 x6
  have l0 : (bitsOf x 64).length = 2 * 32 := by simp [bitsOf]
  have b0 := bits_lt x 64
  have m0 : mask 1 32 = 6148914691236517205 := by decide
  have m1 : mask 2 16 = 3689348814741910323 := by decide
  have m2 : mask 4 8 = 1085102592571150095 := by decide
  have e1 : x1 = val (2 ^ 2) (pairSum (bitsOf x 64)) := by
    have := step_pair 1 32 _ l0 (by omega) b0 x (bits_val 64 x hx).symm
    rw [m0] at this; exact this
  have l1 := pair_len _ 32 l0
  have b1 := pair_le 1 (bitsOf x 64) (fun d hd => by have := b0 d hd; omega)
  have e2 : x2 = val (2 ^ 4) (pairSum (pairSum (bitsOf x 64))) := by
    have := step_pair 2 16 (pairSum (bitsOf x 64)) l1 (by omega) (fun d hd => by have := b1 d hd; omega) x1 e1
    rw [m1] at this; exact this
  have l2 := pair_len (pairSum (bitsOf x 64)) 16 l1
  have b2 := pair_le 2 (pairSum (bitsOf x 64)) b1
  have e3 : x3 = val (2 ^ 8) (pairSum (pairSum (pairSum (bitsOf x 64)))) := by
    have := step_adj 4 8 4 (pairSum (pairSum (bitsOf x 64))) l2 (by omega) (by omega) b2 x2 e2
    rw [m2] at this; exact this
  have l3 := pair_len (pairSum (pairSum (bitsOf x 64))) 8 l2
  have b3 := pair_le 4 (pairSum (pairSum (bitsOf x 64))) b2
  have hs : (pairSum (pairSum (pairSum (bitsOf x 64)))).sum = (bitsOf x 64).sum := by rw [pair_sum, pair_sum, pair_sum]
  have v1 := val_lt 2 (pairSum (bitsOf x 64)) (fun d hd => by have := b1 d hd; omega)
  have v2 := val_lt 4 (pairSum (pairSum (bitsOf x 64))) (fun d hd => by have := b2 d hd; omega)
  have v2' : x2 / 16 + x2 < 2 ^ 64 := by
    have hq := adj_val (2 ^ 4) (pairSum (pairSum (bitsOf x 64)))
    have hlt := val_lt 4 (adj (pairSum (pairSum (bitsOf x 64)))) (fun d hd => by have := adj_le 4 _ b2 d hd; omega)
    rw [adj_len, l2] at hlt
    have hd : x2 / 16 = val (2 ^ 4) (pairSum (pairSum (bitsOf x 64))).tail := by
      rw [e2]
      rcases h : pairSum (pairSum (bitsOf x 64)) with _ | ⟨a, r⟩
      · rfl
      · exact val_div 16 a r (by have := b2 a (by rw [h]; simp); omega)
    rw [hd, e2, Nat.add_comm, hq]
    exact hlt
  have v3 := val_lt 8 (pairSum (pairSum (pairSum (bitsOf x 64)))) (fun d hd => by have := b3 d hd; omega)
  rw [l1, ← e1] at v1
  rw [l2, ← e2] at v2
  rw [l3, ← e3] at v3
  rw [← hs]
  generalize pairSum (pairSum (pairSum (bitsOf x 64))) = l at e3 l3 b3
  match l, l3 with
  | [c0, c1, c2, c3, c4, c5, c6, c7], _ =>
    have h0 := b3 c0 (by simp)
    have h1 := b3 c1 (by simp)
    have h2 := b3 c2 (by simp)
    have h3 := b3 c3 (by simp)
    have h4 := b3 c4 (by simp)
    have h5 := b3 c5 (by simp)
    have h6 := b3 c6 (by simp)
    have h7 := b3 c7 (by simp)
    simp only [val, Nat.reducePow, Nat.mul_zero, Nat.add_zero] at e3
    simp only [List.sum_cons, List.sum_nil, Nat.add_zero, Nat.reducePow] at v1 v2 v2' v3 ⊢
    obtain ⟨g4, g5, g6, g7⟩ := fin8 c0 c1 c2 c3 c4 c5 c6 c7 h0 h1 h2 h3 h4 h5 h6 h7 x3 (by rw [e3]; omega)
    exact ⟨v1, v2, v2', v3, g4, g5, g6, g7⟩
end Go.Proofs.Ytcacbolbedhcoaa
