/- Turned words, bit by bit; shifts by numbers that are not constants. -/
import Derived.Test.YtcacbolbedhcoaaWords
namespace Go.Proofs.Ytcacbolbedhcoaa
open Go.RowKit

/-- where a turn by t brings a place -/
def posT (i : Nat) (t : Int) : Nat := 16 * (i / 16) + ((((i % 16 : Nat) : Int) + t) % 16).toNat
theorem posT_lt (i : Nat) (t : Int) (h : i < 64) : posT i t < 64 := by unfold posT; omega
theorem posT_back (i : Nat) (t : Int) : posT (posT i t) (-t) = i := by
  unfold posT
  have h1 : (16 * (i / 16) + ((((i % 16 : Nat) : Int) + t) % 16).toNat) / 16 = i / 16 := by omega
  have h2 : (16 * (i / 16) + ((((i % 16 : Nat) : Int) + t) % 16).toNat) % 16 = ((((i % 16 : Nat) : Int) + t) % 16).toNat := by omega
  rw [h1, h2]; omega
theorem posT_add (i : Nat) (t u : Int) : posT (posT i t) u = posT i (t + u) := by
  unfold posT
  have h1 : (16 * (i / 16) + ((((i % 16 : Nat) : Int) + t) % 16).toNat) / 16 = i / 16 := by omega
  have h2 : (16 * (i / 16) + ((((i % 16 : Nat) : Int) + t) % 16).toNat) % 16 = ((((i % 16 : Nat) : Int) + t) % 16).toNat := by omega
  rw [h1, h2]; omega
theorem posT_row (i : Nat) (t : Int) : posT i t / 16 = i / 16 := by unfold posT; omega

theorem row_get (x : BitVec 64) (r j : Nat) (h : j < 16) : (rowW x r).getLsbD j = x.getLsbD (16 * r + j) := by
  unfold rowW
  simp [h]
theorem rot_get (y : BitVec 16) (t : Int) (j : Nat) (h : j < 16) : (y.rotateLeft (turnS t)).getLsbD j = y.getLsbD ((((j : Nat) : Int) - t) % 16).toNat := by
  have hs := turnS_lt t
  rw [BitVec.getLsbD_rotateLeft]
  unfold turnS at *
  by_cases h1 : j < (t % 16).toNat % 16
  · have e : 16 - (t % 16).toNat % 16 + j = (((j : Nat) : Int) - t).toNat % 16 ∨ True := .inr trivial
    simp only [h1, decide_true, cond_true]
    congr 1
    omega
  · simp only [h1, decide_false, cond_false]
    have : decide (j < 16) = true := by simpa using h
    simp only [this, Bool.true_and]
    congr 1
    omega
theorem turn_get (x : BitVec 64) (t : Int) (i : Nat) (h : i < 64) : (turnW x t).getLsbD i = x.getLsbD (posT i (-t)) := by
  have hrow : ∀ r, r < 4 → i / 16 = r → x.getLsbD (posT i (-t)) = ((rowW x r).rotateLeft (turnS t)).getLsbD (i - 16 * r) := by
    intro r _ hr
    have hj : i - 16 * r < 16 := by omega
    rw [rot_get _ _ _ hj, row_get _ _ _ (by omega)]
    congr 1
    unfold posT
    omega
  unfold turnW
  simp only [BitVec.getLsbD_or, BitVec.getLsbD_shiftLeft, BitVec.getLsbD_setWidth, h, decide_true, Bool.true_and]
  have big : ∀ (y : BitVec 16) (k : Nat), 16 ≤ k → y.getLsbD k = false := fun y k hk => BitVec.getLsbD_of_ge y k hk
  have : i / 16 = 0 ∨ i / 16 = 1 ∨ i / 16 = 2 ∨ i / 16 = 3 := by omega
  rcases this with hr | hr | hr | hr
  · rw [hrow 0 (by omega) hr]
    have h1 : decide (i < 16) = true := by simp; omega
    have h2 : decide (i < 32) = true := by simp; omega
    have h3 : decide (i < 48) = true := by simp; omega
    simp [h1, h2, h3]
  · rw [hrow 1 (by omega) hr, big _ i (by omega)]
    have h1 : decide (i < 16) = false := by simp; omega
    have h2 : decide (i < 32) = true := by simp; omega
    have h3 : decide (i < 48) = true := by simp; omega
    have h4 : decide (i - 16 < 64) = true := by simp; omega
    simp [h1, h2, h3, h4]
  · rw [hrow 2 (by omega) hr, big _ i (by omega), big _ (i - 16) (by omega)]
    have h1 : decide (i < 16) = false := by simp; omega
    have h2 : decide (i < 32) = false := by simp; omega
    have h3 : decide (i < 48) = true := by simp; omega
    have h4 : decide (i - 32 < 64) = true := by simp; omega
    simp [h1, h2, h3, h4]
  · rw [hrow 3 (by omega) hr, big _ i (by omega), big _ (i - 16) (by omega), big _ (i - 32) (by omega)]
    have h1 : decide (i < 16) = false := by simp; omega
    have h2 : decide (i < 32) = false := by simp; omega
    have h3 : decide (i < 48) = false := by simp; omega
    have h4 : decide (i - 48 < 64) = true := by simp; omega
    simp [h1, h2, h3, h4]

/-- the first k bits, each brought to its place -/
def movK (x : BitVec 64) (t : Int) : Nat → BitVec 64
  | 0 => 0#64
  | k + 1 => if x.getLsbD k then movK x t k ||| (1#64 <<< posT k t) else movK x t k
theorem one_get (n j : Nat) (hj : j < 64) : ((1#64 : BitVec 64) <<< n).getLsbD j = decide (n = j) := by
  rw [BitVec.getLsbD_shiftLeft]
  by_cases h : n = j
  · subst h; simp [hj]
  · by_cases h2 : j < n
    · simp [h2, h]
    · have : j - n ≠ 0 := by omega
      simp [h, h2, BitVec.getLsbD_one, this]
theorem mov_get (x : BitVec 64) (t : Int) (j : Nat) (hj : j < 64) : ∀ k, k ≤ 64 → (movK x t k).getLsbD j = (decide (posT j (-t) < k) && x.getLsbD (posT j (-t))) := by
  intro k
  induction k with
  | zero => intro _; simp [movK]
  | succ k ih =>
    intro hk
    have ih' := ih (by omega)
    have hiff : posT k t = j ↔ posT j (-t) = k := by
      constructor
      · intro h; rw [← h]; exact posT_back k t
      · intro h; rw [← h]; have := posT_back j (-t); rwa [Int.neg_neg] at this
    rw [movK]
    by_cases hb : x.getLsbD k = true
    · rw [if_pos hb, BitVec.getLsbD_or, ih', one_get _ _ hj]
      by_cases hp : posT j (-t) = k
      · rw [hp]; simp [hiff.2 hp, hb]
      · have h1 : ¬ posT k t = j := fun h => hp (hiff.1 h)
        have h2 : decide (posT j (-t) < k + 1) = decide (posT j (-t) < k) := by simp; omega
        simp [h1, h2]
    · rw [if_neg hb, ih']
      by_cases hp : posT j (-t) = k
      · rw [hp]; simp [hb]
      · have h2 : decide (posT j (-t) < k + 1) = decide (posT j (-t) < k) := by simp; omega
        rw [h2]
theorem mov_turn (x : BitVec 64) (t : Int) : movK x t 64 = turnW x t := by
  apply BitVec.eq_of_getLsbD_eq
  intro j hj
  rw [mov_get x t j hj 64 (Nat.le_refl _), turn_get x t j hj]
  simp [posT_lt j (-t) hj]

/-! shifts -/
theorem run_shr {P : Program} {w : World} (x : BitVec 64) (kk : IntKind) (k : Nat) : (Op.shift .shr .u64 (uw x) kk (k : Int)).run P w = .ok (.int .u64 (uw (x >>> k))) w := by
  have hn : ¬ ((k : Int) < 0) := by omega
  unfold Op.shift
  rw [if_neg hn]
  show Result.ok (Value.int .u64 ((uw x).fdiv (2 ^ min (k : Int).toNat 64))) w = _
  have : (uw x).fdiv (2 ^ min (k : Int).toNat 64) = uw (x >>> k) := by
    rw [Int.fdiv_eq_ediv_of_nonneg _ (Int.le_of_lt (Int.pow_pos (by omega))), uw_shr]
    congr 1
    rw [Int.toNat_natCast]
    by_cases h : k ≤ 64
    · rw [Nat.min_eq_left h]
    · rw [Nat.min_eq_right (by omega)]
      rw [BitVec.ushiftRight_eq_zero (by omega), BitVec.ushiftRight_eq_zero (by omega)]
  rw [this]
theorem run_shl1 {P : Program} {w : World} (kk : IntKind) (n : Int) (h : 0 ≤ n) (h64 : n < 64) : (Op.shift .shl .u64 1 kk n).run P w = .ok (.int .u64 (uw (1#64 <<< n.toNat))) w := by
  have hn : ¬ (n < 0) := by omega
  unfold Op.shift
  rw [if_neg hn]
  show Result.ok (Value.int .u64 (IntKind.u64.wrap (1 * 2 ^ min n.toNat 64))) w = _
  have e : min n.toNat 64 = n.toNat := by omega
  have := uw_shl 1#64 n.toNat
  have h1 : uw 1#64 = 1 := rfl
  rw [h1] at this
  rw [e, this]
theorem bit_eq (y : BitVec 64) : (bits .and .u64 (uw y) 1 == 1) = y.getLsbD 0 := by
  have h1 : uw 1#64 = 1 := rfl
  rw [← h1, uw_and, uw_eq, Bool.eq_iff_iff]
  simp only [beq_iff_eq]
  constructor
  · intro h
    have := congrArg (fun z : BitVec 64 => z.getLsbD 0) h
    simpa using this
  · intro h
    apply BitVec.eq_of_getLsbD_eq
    intro i hi
    by_cases h0 : i = 0
    · subst h0; simp [h]
    · simp [BitVec.getLsbD_one, h0]
theorem bit_at (x : BitVec 64) (k : Nat) : (x >>> k).getLsbD 0 = x.getLsbD k := by simp

/-- how many of the first k bits a word has -/
def popK (x : BitVec 64) (k : Nat) : Nat := ((List.range k).map fun i => (x.getLsbD i).toNat).sum
theorem popK_succ (x : BitVec 64) (k : Nat) : popK x (k + 1) = popK x k + (x.getLsbD k).toNat := by
  unfold popK; rw [List.range_succ, List.map_append, List.sum_append]; simp
theorem popK_le (x : BitVec 64) (k : Nat) : popK x k ≤ k := by
  induction k with
  | zero => simp [popK]
  | succ k ih => rw [popK_succ]; have := Bool.toNat_le (x.getLsbD k); omega
theorem popK_all (x : BitVec 64) : popK x 64 = cpop x := rfl
end Go.Proofs.Ytcacbolbedhcoaa
