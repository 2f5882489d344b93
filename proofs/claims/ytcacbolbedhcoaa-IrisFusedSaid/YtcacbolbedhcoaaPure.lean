/- Plain laws: turned words, counts of bits, the best turn. -/
import Derived.Test.YtcacbolbedhcoaaRefMatch
namespace Go.Proofs.Ytcacbolbedhcoaa
open Go.RowKit

theorem turn_zero (x : BitVec 64) : turnW x 0 = x := by
  apply BitVec.eq_of_getLsbD_eq
  intro i hi
  rw [turn_get _ _ _ hi]
  congr 1
  unfold posT; omega
theorem turn_turn (x : BitVec 64) (t u : Int) : turnW (turnW x t) u = turnW x (t + u) := by
  apply BitVec.eq_of_getLsbD_eq
  intro i hi
  rw [turn_get _ _ _ hi, turn_get _ _ _ (posT_lt _ _ hi), turn_get _ _ _ hi, posT_add]
  congr 2
  omega
theorem turn_back (x : BitVec 64) (t : Int) : turnW (turnW x t) (-t) = x := by rw [turn_turn, Int.add_right_neg, turn_zero]
theorem turn_xor (x y : BitVec 64) (t : Int) : turnW (x ^^^ y) t = turnW x t ^^^ turnW y t := by
  apply BitVec.eq_of_getLsbD_eq
  intro i hi
  simp only [turn_get _ _ _ hi, BitVec.getLsbD_xor]
theorem turn_and (x y : BitVec 64) (t : Int) : turnW (x &&& y) t = turnW x t &&& turnW y t := by
  apply BitVec.eq_of_getLsbD_eq
  intro i hi
  simp only [turn_get _ _ _ hi, BitVec.getLsbD_and]
theorem turn_not (x : BitVec 64) (t : Int) : turnW (~~~x) t = ~~~(turnW x t) := by
  apply BitVec.eq_of_getLsbD_eq
  intro i hi
  simp only [turn_get _ _ _ hi, BitVec.getLsbD_not, hi, posT_lt _ _ hi]
theorem turn_ones (t : Int) : turnW 18446744073709551615#64 t = 18446744073709551615#64 := by
  have h : ∀ i, i < 64 → (18446744073709551615#64).getLsbD i = true := by decide
  apply BitVec.eq_of_getLsbD_eq
  intro i hi
  rw [turn_get _ _ _ hi, h _ hi, h _ (posT_lt _ _ hi)]
theorem turn_none (t : Int) : turnW 0#64 t = 0#64 := by
  apply BitVec.eq_of_getLsbD_eq
  intro i hi
  rw [turn_get _ _ _ hi]
  simp
def permB (t : Int) : Bool := ((List.range 64).map fun i => posT i (-t)).isPerm (List.range 64)
theorem perm_mod (i : Nat) (t : Int) : posT i t = posT i (t % 16) := by unfold posT; omega
theorem perm_all : ∀ t : Fin 16, permB (t.1 : Nat) = true := by decide +kernel
theorem cpop_turn (x : BitVec 64) (t : Int) : cpop (turnW x t) = cpop x := by
  have h0 : ((List.range 64).map fun i => posT i (-(((t % 16).toNat : Nat) : Int))).Perm (List.range 64) := List.isPerm_iff.1 (perm_all ⟨(t % 16).toNat, by omega⟩)
  have h1 := (h0.map fun i => (x.getLsbD i).toNat).sum_nat
  clear h0
  rw [List.map_map] at h1
  refine Eq.trans (congrArg List.sum (List.map_congr_left fun i hi => ?_)) h1
  rw [turn_get _ _ _ (List.mem_range.1 hi)]
  have e : posT i (-t) = posT i (-(((t % 16).toNat : Nat) : Int)) := by unfold posT; omega
  simp only [Function.comp_apply, e]
theorem okI_and (a : Ir) : okI a = true ↔ a.code &&& ~~~a.mask = 0#64 := by unfold okI; simp
theorem okI_turn (a : Ir) (t : Int) (h : okI a = true) : okI (turnI' a t) = true := by
  rw [okI_and] at h ⊢
  simp only [turnI']
  rw [← turn_not, ← turn_and, h, turn_none]
theorem turnI_back (a : Ir) (t : Int) : turnI' (turnI' a t) (-t) = a := by simp [turnI', turn_back]
theorem turnI_zero (a : Ir) : turnI' a 0 = a := by simp [turnI', turn_zero]
theorem turnI_turn (a : Ir) (t u : Int) : turnI' (turnI' a t) u = turnI' a (t + u) := by simp [turnI', turn_turn]
/-- the other direction -/
theorem ctr_comm (a b : Ir) : ctr a b = ctr b a := by
  unfold ctr
  rw [BitVec.xor_comm, BitVec.and_comm a.mask]
theorem cdn_comm (a b : Ir) : cdn a b = cdn b a := by
  unfold cdn
  rw [BitVec.and_comm a.mask]
theorem ctr_turn (a b : Ir) (t : Int) : ctr (turnI' a t) (turnI' b t) = ctr a b := by
  unfold ctr
  simp only [turnI']
  rw [← turn_xor, ← turn_and, ← turn_and, cpop_turn]
theorem cdn_turn (a b : Ir) (t : Int) : cdn (turnI' a t) (turnI' b t) = cdn a b := by
  unfold cdn
  simp only [turnI']
  rw [← turn_and, cpop_turn]
theorem ctr_back (a b : Ir) (t : Int) : ctr (turnI' a t) b = ctr (turnI' b (-t)) a := by
  rw [← ctr_turn (turnI' a t) b (-t), turnI_back, ctr_comm]
theorem cdn_back (a b : Ir) (t : Int) : cdn (turnI' a t) b = cdn (turnI' b (-t)) a := by
  rw [← cdn_turn (turnI' a t) b (-t), turnI_back, cdn_comm]

theorem sum_map_le {l : List Nat} {f g : Nat → Nat} (h : ∀ i ∈ l, f i ≤ g i) : (l.map f).sum ≤ (l.map g).sum := by
  induction l with
  | nil => simp
  | cons a r ih =>
    simp only [List.map_cons, List.sum_cons]
    have h1 := h a (by simp)
    have h2 := ih fun i hi => h i (by simp [hi])
    omega
theorem cpop_mono {x y : BitVec 64} (h : ∀ i, i < 64 → x.getLsbD i = true → y.getLsbD i = true) : cpop x ≤ cpop y := by
  unfold cpop
  apply sum_map_le
  intro i hi
  have := h i (List.mem_range.1 hi)
  cases hx : x.getLsbD i <;> cases hy : y.getLsbD i <;> simp_all
theorem ctr_le (a b : Ir) : 0 ≤ ctr a b ∧ ctr a b ≤ cdn a b ∧ cdn a b ≤ 64 := by
  unfold ctr cdn
  have h1 := cpop_mono (x := (a.code ^^^ b.code) &&& (a.mask &&& b.mask)) (y := a.mask &&& b.mask) (by
    intro i _ h; rw [BitVec.getLsbD_and] at h; simp only [Bool.and_eq_true] at h; exact h.2)
  have h2 := cpop_le (a.mask &&& b.mask)
  omega
theorem sum_add {l : List Nat} {f g : Nat → Nat} : (l.map fun i => f i + g i).sum = (l.map f).sum + (l.map g).sum := by
  induction l with
  | nil => simp
  | cons a r ih => simp only [List.map_cons, List.sum_cons, ih]; omega
theorem cpop_tri (x y z : BitVec 64) : cpop (x ^^^ z) ≤ cpop (x ^^^ y) + cpop (y ^^^ z) := by
  unfold cpop
  rw [← sum_add]
  apply sum_map_le
  intro i _
  simp only [BitVec.getLsbD_xor]
  cases x.getLsbD i <;> cases y.getLsbD i <;> cases z.getLsbD i <;> simp
theorem sum_zero' {l : List Nat} {f : Nat → Nat} (h : (l.map f).sum = 0) : ∀ i ∈ l, f i = 0 := by
  induction l with
  | nil => simp
  | cons a r ih =>
    simp only [List.map_cons, List.sum_cons] at h
    intro i hi
    rcases List.mem_cons.1 hi with rfl | hi
    · omega
    · exact ih (by omega) i hi
theorem cpop_zero (x : BitVec 64) : cpop x = 0 ↔ x = 0#64 := by
  constructor
  · intro h
    apply BitVec.eq_of_getLsbD_eq
    intro i hi
    have := sum_zero' h i (List.mem_range.2 hi)
    cases hx : x.getLsbD i <;> simp_all
  · rintro rfl; rfl
theorem cpop_none : cpop 0#64 = 0 := rfl

/-! the best turn -/
def nmr (a b : Ir) (j : Nat) : Int := ctr (turnI' a (turnAt j)) b
def dnr (a b : Ir) (j : Nat) : Int := cdn (turnI' a (turnAt j)) b
theorem nmr_le (a b : Ir) (j : Nat) : 0 ≤ nmr a b j ∧ nmr a b j ≤ dnr a b j ∧ dnr a b j ≤ 64 := ctr_le _ _
theorem lt_through {n d p q x y : Int} (hd : 0 < q) (hy : 0 < y) (hx : 0 < d) (h1 : n * q < p * d) (h2 : p * y ≤ x * q) : n * y < x * d := by
  have a1 : n * q * y < p * d * y := Int.mul_lt_mul_of_pos_right h1 hy
  have a2 : p * y * d ≤ x * q * d := Int.mul_le_mul_of_nonneg_right h2 (Int.le_of_lt hx)
  have e1 : p * d * y = p * y * d := by rw [Int.mul_assoc, Int.mul_comm d y, ← Int.mul_assoc]
  have e2 : n * q * y = (n * y) * q := by rw [Int.mul_assoc, Int.mul_comm q y, ← Int.mul_assoc]
  have e3 : x * q * d = (x * d) * q := by rw [Int.mul_assoc, Int.mul_comm q d, ← Int.mul_assoc]
  have : (n * y) * q < (x * d) * q := by omega
  exact Int.lt_of_mul_lt_mul_right this (Int.le_of_lt hd)
theorem le_through {n d p q x y : Int} (hd : 0 < q) (hy : 0 < y) (hx : 0 < d) (h1 : n * q ≤ p * d) (h2 : p * y ≤ x * q) : n * y ≤ x * d := by
  have a1 : n * q * y ≤ p * d * y := Int.mul_le_mul_of_nonneg_right h1 (Int.le_of_lt hy)
  have a2 : p * y * d ≤ x * q * d := Int.mul_le_mul_of_nonneg_right h2 (Int.le_of_lt hx)
  have e1 : p * d * y = p * y * d := by rw [Int.mul_assoc, Int.mul_comm d y, ← Int.mul_assoc]
  have e2 : n * q * y = (n * y) * q := by rw [Int.mul_assoc, Int.mul_comm q y, ← Int.mul_assoc]
  have e3 : x * q * d = (x * d) * q := by rw [Int.mul_assoc, Int.mul_comm q d, ← Int.mul_assoc]
  have : (n * y) * q ≤ (x * d) * q := by omega
  exact Int.le_of_mul_le_mul_right this hd
theorem best_is (a b : Ir) (m : Nat) (hm : m < 8) : ∀ k, k ≤ 2 * m + 1 →
    (bestK a b m k = ⟨0, 0, 0⟩ ∧ ∀ j, j < k → dnr a b j < 16) ∨
    ∃ i, i < k ∧ bestK a b m k = ⟨nmr a b i, dnr a b i, turnAt i⟩ ∧ 16 ≤ dnr a b i ∧ (∀ j, j < i → 16 ≤ dnr a b j → nmr a b i * dnr a b j < nmr a b j * dnr a b i) ∧ (∀ j, j < k → 16 ≤ dnr a b j → nmr a b i * dnr a b j ≤ nmr a b j * dnr a b i) := by
  intro k
  induction k with
  | zero => intro _; exact .inl ⟨rfl, fun j h => absurd h (Nat.not_lt_zero _)⟩
  | succ k ih =>
    intro hk
    have ht : (t7 (turnAt k)).1 = turnAt k := t7_val _ (turnAt_in k (by omega))
    rw [bestK_succ a b m k hm (by omega)]
    have hp : partP a b (t7 (turnAt k)).1 = ⟨nmr a b k, dnr a b k, turnAt k⟩ := by rw [ht]; rfl
    unfold stepP
    rw [hp]
    rcases ih (by omega) with ⟨h0, h1⟩ | ⟨i, hi, h0, h16, hlt, hle⟩
    · rw [h0]
      by_cases h : 16 ≤ dnr a b k
      · have hc : (decide (16 ≤ (⟨nmr a b k, dnr a b k, turnAt k⟩ : Pt).den) && lessP ⟨nmr a b k, dnr a b k, turnAt k⟩ ⟨0, 0, 0⟩) = true := by
          simp [lessP]; omega
        rw [if_pos hc]
        refine .inr ⟨k, by omega, rfl, h, fun j hj h' => absurd (h1 j hj) (by omega), fun j hj h' => ?_⟩
        by_cases hjk : j = k
        · subst hjk; exact Int.le_refl _
        · exact absurd (h1 j (by omega)) (by omega)
      · have hc : (decide (16 ≤ (⟨nmr a b k, dnr a b k, turnAt k⟩ : Pt).den) && lessP ⟨nmr a b k, dnr a b k, turnAt k⟩ ⟨0, 0, 0⟩) = false := by
          simp [h]
        rw [hc]
        refine .inl ⟨rfl, fun j hj => ?_⟩
        by_cases hjk : j = k
        · subst hjk; omega
        · exact h1 j (by omega)
    · rw [h0]
      by_cases h : 16 ≤ dnr a b k ∧ nmr a b k * dnr a b i < nmr a b i * dnr a b k
      · have hc : (decide (16 ≤ (⟨nmr a b k, dnr a b k, turnAt k⟩ : Pt).den) && lessP ⟨nmr a b k, dnr a b k, turnAt k⟩ ⟨nmr a b i, dnr a b i, turnAt i⟩) = true := by
          simp [lessP, h.1, h.2]; omega
        rw [if_pos hc]
        refine .inr ⟨k, by omega, rfl, h.1, fun j hj h' => lt_through (by omega) (by omega) (by omega) h.2 (hle j hj h'), fun j hj h' => ?_⟩
        by_cases hjk : j = k
        · subst hjk; exact Int.le_refl _
        · exact Int.le_of_lt (lt_through (by omega) (by omega) (by omega) h.2 (hle j (by omega) h'))
      · have hc : (decide (16 ≤ (⟨nmr a b k, dnr a b k, turnAt k⟩ : Pt).den) && lessP ⟨nmr a b k, dnr a b k, turnAt k⟩ ⟨nmr a b i, dnr a b i, turnAt i⟩) = false := by
          have h' : dnr a b i ≠ 0 := by omega
          by_cases h2 : 16 ≤ dnr a b k
          · have h3 : ¬ nmr a b k * dnr a b i < nmr a b i * dnr a b k := fun h4 => h ⟨h2, h4⟩
            simp [lessP, h', h3]
          · simp [h2]
        rw [hc]
        refine .inr ⟨i, by omega, rfl, h16, hlt, fun j hj h' => ?_⟩
        by_cases hjk : j = k
        · subst hjk
          have h3 : ¬ nmr a b j * dnr a b i < nmr a b i * dnr a b j := fun h4 => h ⟨h', h4⟩
          omega
        · exact hle j (by omega) h'
/-- what is known of the best turn -/
theorem best7_is (a b : Ir) (t : Int) (ht : 0 ≤ t ∧ t ≤ 7) :
    (best7 a b t = ⟨0, 0, 0⟩ ∧ ∀ j, j ≤ 2 * t.toNat → dnr a b j < 16) ∨
    ∃ i, i ≤ 2 * t.toNat ∧ best7 a b t = ⟨nmr a b i, dnr a b i, turnAt i⟩ ∧ 16 ≤ dnr a b i ∧ (∀ j, j < i → 16 ≤ dnr a b j → nmr a b i * dnr a b j < nmr a b j * dnr a b i) ∧ (∀ j, j ≤ 2 * t.toNat → 16 ≤ dnr a b j → nmr a b i * dnr a b j ≤ nmr a b j * dnr a b i) := by
  have h := best_is a b t.toNat (by omega) (2 * t.toNat + 1) (Nat.le_refl _)
  rw [bestK_all] at h
  rcases h with ⟨h0, h1⟩ | ⟨i, hi, h0, h16, hlt, hle⟩
  · exact .inl ⟨h0, fun j hj => h1 j (by omega)⟩
  · exact .inr ⟨i, by omega, h0, h16, hlt, fun j hj => hle j (by omega)⟩
/-- the place of a turn in the order -/
def placeT (t : Int) : Nat := if 0 < t then (2 * t - 1).toNat else (-2 * t).toNat
theorem place_at (t : Int) : turnAt (placeT t) = t := by
  unfold placeT turnAt
  split
  · have h : (2 * t - 1).toNat % 2 = 1 := by omega
    rw [if_pos h]; omega
  · have h : ¬ (-2 * t).toNat % 2 = 1 := by omega
    rw [if_neg h]; omega
theorem at_place (i : Nat) : placeT (turnAt i) = i := by
  unfold turnAt
  split
  · unfold placeT; split <;> omega
  · unfold placeT; split <;> omega
theorem place_le (t : Int) (m : Int) (h : -m ≤ t ∧ t ≤ m) : placeT t ≤ 2 * m.toNat := by unfold placeT; split <;> omega
theorem place_in (i : Nat) (m : Int) (hm : 0 ≤ m) (h : i ≤ 2 * m.toNat) : -m ≤ turnAt i ∧ turnAt i ≤ m := by unfold turnAt; split <;> omega
theorem nmr_place (a b : Ir) (t : Int) : nmr a b (placeT t) = ctr (turnI' a t) b := by unfold nmr; rw [place_at]
theorem dnr_place (a b : Ir) (t : Int) : dnr a b (placeT t) = cdn (turnI' a t) b := by unfold dnr; rw [place_at]
end Go.Proofs.Ytcacbolbedhcoaa
