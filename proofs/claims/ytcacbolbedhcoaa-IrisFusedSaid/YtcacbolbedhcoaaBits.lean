/- Plain facts on bits of 64-bit words. -/
import Derived.WalkKit
namespace Go.Proofs.Ytcacbolbedhcoaa
open Go.RowKit

/-- 'or' of two numbers that have no common place. -/
theorem or_join (i : Nat) (a b : Int) (h0 : 0 ≤ a) (h1 : a < 2 ^ i) (h2 : 0 ≤ b) (h3 : b % 2 ^ i = 0) (h4 : b < 18446744073709551616) (hi : i ≤ 64) : bits .or .u64 a b = a + b := by
  have hp : (2 : Int) ^ i ≤ 2 ^ 64 := by
    have : (2 : Nat) ^ i ≤ 2 ^ 64 := Nat.pow_le_pow_right (by omega) hi
    exact_mod_cast this
  have h64 : (2 : Int) ^ 64 = 18446744073709551616 := by decide
  rw [u64_or a b h0 (by omega) h2 h4, Nat.or_comm, nat_join i b.toNat a.toNat]
  · omega
  · have : ((b.toNat % 2 ^ i : Nat) : Int) = 0 := by rw [Int.natCast_emod, Int.toNat_of_nonneg h2]; simpa using h3
    omega
  · have : ((a.toNat : Nat) : Int) < ((2 ^ i : Nat) : Int) := by rw [Int.toNat_of_nonneg h0]; simpa using h1
    omega

theorem and_mask (i : Nat) (a : Int) (h0 : 0 ≤ a) (h1 : a < 18446744073709551616) (hi : i < 64) : bits .and .u64 a (2 ^ i - 1) = a % 2 ^ i := by
  have hp : (2 : Int) ^ i ≤ 2 ^ 64 := by
    have : (2 : Nat) ^ i ≤ 2 ^ 64 := Nat.pow_le_pow_right (by omega) (by omega)
    exact_mod_cast this
  have hq : (1 : Int) ≤ 2 ^ i := by
    have : (1 : Nat) ≤ 2 ^ i := Nat.one_le_two_pow
    exact_mod_cast this
  have h64 : (2 : Int) ^ 64 = 18446744073709551616 := by decide
  rw [u64_and a _ h0 h1 (by omega) (by omega)]
  have e : ((2 : Int) ^ i - 1).toNat = 2 ^ i - 1 := by
    have : ((2 ^ i : Nat) : Int) = (2 : Int) ^ i := by simp
    omega
  rw [e, Nat.and_two_pow_sub_one_eq_mod]
  rw [Int.natCast_emod, Int.toNat_of_nonneg h0]; simp
end Go.Proofs.Ytcacbolbedhcoaa
