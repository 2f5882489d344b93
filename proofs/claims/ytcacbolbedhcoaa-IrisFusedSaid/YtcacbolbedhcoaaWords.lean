/- Words of 64 bits as numbers; turned words; counted bits. -/
import Derived.Test.YtcacbolbedhcoaaPop
namespace Go.Proofs.Ytcacbolbedhcoaa
open Go.RowKit

/-- a word as a number -/
def uw (x : BitVec 64) : Int := (x.toNat : Int)
theorem uw_lt (x : BitVec 64) : 0 ≤ uw x ∧ uw x < 18446744073709551616 := ⟨by unfold uw; omega, by unfold uw; have := x.isLt; omega⟩
theorem ofInt_uw (x : BitVec 64) : BitVec.ofInt 64 (uw x) = x := by
  apply BitVec.eq_of_toNat_eq
  unfold uw
  rw [BitVec.toNat_ofInt]
  have := x.isLt
  omega
theorem wrap_uw (x : BitVec 64) : IntKind.u64.wrap (x.toNat : Int) = uw x := by
  have := x.isLt
  rw [IntKind.wrap_u64]; unfold uw; omega
theorem wrap_uw' (x : BitVec 64) : IntKind.u64.wrap (uw x) = uw x := wrap_uw x
theorem uw_and (x y : BitVec 64) : bits .and .u64 (uw x) (uw y) = uw (x &&& y) := by
  show IntKind.u64.wrap ((BitVec.ofInt 64 (uw x) &&& BitVec.ofInt 64 (uw y)).toNat : Int) = _
  rw [ofInt_uw, ofInt_uw, wrap_uw]
theorem uw_or (x y : BitVec 64) : bits .or .u64 (uw x) (uw y) = uw (x ||| y) := by
  show IntKind.u64.wrap ((BitVec.ofInt 64 (uw x) ||| BitVec.ofInt 64 (uw y)).toNat : Int) = _
  rw [ofInt_uw, ofInt_uw, wrap_uw]
theorem uw_xor (x y : BitVec 64) : bits .xor .u64 (uw x) (uw y) = uw (x ^^^ y) := by
  show IntKind.u64.wrap ((BitVec.ofInt 64 (uw x) ^^^ BitVec.ofInt 64 (uw y)).toNat : Int) = _
  rw [ofInt_uw, ofInt_uw, wrap_uw]
theorem uw_andNot (x y : BitVec 64) : bits .andNot .u64 (uw x) (uw y) = uw (x &&& ~~~y) := by
  show IntKind.u64.wrap ((BitVec.ofInt 64 (uw x) &&& ~~~(BitVec.ofInt 64 (uw y))).toNat : Int) = _
  rw [ofInt_uw, ofInt_uw, wrap_uw]
attribute [go_sem] uw_and uw_or uw_xor uw_andNot
theorem uw_inj {x y : BitVec 64} (h : uw x = uw y) : x = y := BitVec.eq_of_toNat_eq (by unfold uw at h; omega)
@[go_sem] theorem uw_eq (x y : BitVec 64) : (uw x == uw y) = (x == y) := by
  rw [Bool.eq_iff_iff]; simp only [beq_iff_eq]; exact ⟨uw_inj, fun h => by rw [h]⟩
theorem uw_zero : uw 0#64 = 0 := rfl
@[go_sem] theorem uw_eq0 (x : BitVec 64) : (uw x == 0) = (x == 0#64) := by rw [← uw_zero, uw_eq]
@[go_sem] theorem uw_ne0 (x : BitVec 64) : (uw x != 0) = !(x == 0#64) := by rw [← uw_eq0]; rfl
@[go_sem] theorem uw_neq (x y : BitVec 64) : (uw x != uw y) = !(x == y) := by rw [← uw_eq]; rfl
theorem uw_shr (x : BitVec 64) (n : Nat) : uw x / 2 ^ n = uw (x >>> n) := by
  unfold uw
  rw [BitVec.toNat_ushiftRight, Nat.shiftRight_eq_div_pow, Int.natCast_ediv]
  simp
theorem uw_shl (x : BitVec 64) (n : Nat) : IntKind.u64.wrap (uw x * 2 ^ n) = uw (x <<< n) := by
  unfold uw
  rw [IntKind.wrap_u64, BitVec.toNat_shiftLeft, Nat.shiftLeft_eq]
  have : ((x.toNat : Int) * 2 ^ n) = ((x.toNat * 2 ^ n : Nat) : Int) := by simp
  rw [this, show (18446744073709551616 : Int) = ((2 ^ 64 : Nat) : Int) by rfl, ← Int.natCast_emod]

/-- what OnesCount64 computes -/
def onesI (x : Int) : Int :=
  let x1 := IntKind.u64.wrap (bits .and .u64 (x / 2) 6148914691236517205 + bits .and .u64 x 6148914691236517205)
  let x2 := IntKind.u64.wrap (bits .and .u64 (x1 / 4) 3689348814741910323 + bits .and .u64 x1 3689348814741910323)
  let x3 := bits .and .u64 (IntKind.u64.wrap (x2 / 16 + x2)) 1085102592571150095
  let x4 := IntKind.u64.wrap (x3 + x3 / 256)
  let x5 := IntKind.u64.wrap (x4 + x4 / 65536)
  let x6 := IntKind.u64.wrap (x5 + x5 / 4294967296)
  bits .and .i64 (wrap64 x6) 127
theorem and_nat (a b : Nat) (ha : a < 2 ^ 64) (hb : b < 2 ^ 64) : bits .and .u64 (a : Int) (b : Int) = ((a &&& b : Nat) : Int) := by
  rw [u64_and _ _ (by omega) (by omega) (by omega) (by omega)]; simp
theorem wrap_nat (a : Nat) (ha : a < 2 ^ 64) : IntKind.u64.wrap (a : Int) = (a : Int) := by rw [IntKind.wrap_u64]; omega
theorem cpop_eq (x : BitVec 64) : cpop x = (bitsOf x.toNat 64).sum := by
  unfold cpop bitsOf; rfl
theorem and127 (n : Nat) (h : n < 2 ^ 64) : bits .and .i64 (IntKind.i64.wrap (n : Int)) 127 = ((n % 128 : Nat) : Int) := by
  show IntKind.i64.wrap ((BitVec.ofInt 64 (IntKind.i64.wrap (n : Int)) &&& BitVec.ofInt 64 127).toNat : Int) = _
  have e1 : BitVec.ofInt 64 (IntKind.i64.wrap (n : Int)) = BitVec.ofNat 64 n := by
    apply BitVec.eq_of_toNat_eq
    rw [BitVec.toNat_ofInt, BitVec.toNat_ofNat, IntKind.wrap_i64]
    omega
  have e2 : (BitVec.ofInt 64 127) = BitVec.ofNat 64 127 := by decide
  rw [e1, e2]
  have e3 : (BitVec.ofNat 64 n &&& BitVec.ofNat 64 127).toNat = n % 128 := by
    rw [BitVec.toNat_and, BitVec.toNat_ofNat, BitVec.toNat_ofNat, Nat.mod_eq_of_lt h]
    have := Nat.and_two_pow_sub_one_eq_mod n 7
    simpa using this
  rw [e3, IntKind.wrap_i64]
  omega
theorem ones_eq (x : BitVec 64) : onesI (uw x) = (cpop x : Int) := by
  obtain ⟨h1, h2, h2', h3, h4, h5, h6, h7⟩ := pop_nat x.toNat x.isLt
  have hx : x.toNat < 2 ^ 64 := x.isLt
  have c1 : x.toNat / 2 < 2 ^ 64 := by omega
  unfold onesI uw
  simp only
  have d1 : (x.toNat : Int) / 2 = ((x.toNat / 2 : Nat) : Int) := by simp
  rw [d1, show (6148914691236517205 : Int) = ((6148914691236517205 : Nat) : Int) by rfl, and_nat _ _ c1 (by decide), and_nat _ _ hx (by decide), ← Int.natCast_add, wrap_nat _ h1]
  generalize (x.toNat / 2 &&& 6148914691236517205) + (x.toNat &&& 6148914691236517205) = x1 at *
  have d2 : (x1 : Int) / 4 = ((x1 / 4 : Nat) : Int) := by simp
  rw [d2, show (3689348814741910323 : Int) = ((3689348814741910323 : Nat) : Int) by rfl, and_nat _ _ (by omega) (by decide), and_nat _ _ h1 (by decide), ← Int.natCast_add, wrap_nat _ h2]
  generalize (x1 / 4 &&& 3689348814741910323) + (x1 &&& 3689348814741910323) = x2 at *
  have d3 : (x2 : Int) / 16 = ((x2 / 16 : Nat) : Int) := by simp
  rw [d3, ← Int.natCast_add, wrap_nat _ h2', show (1085102592571150095 : Int) = ((1085102592571150095 : Nat) : Int) by rfl, and_nat _ _ h2' (by decide)]
  generalize (x2 / 16 + x2) &&& 1085102592571150095 = x3 at *
  have d4 : (x3 : Int) / 256 = ((x3 / 256 : Nat) : Int) := by simp
  rw [d4, ← Int.natCast_add, wrap_nat _ h4]
  generalize x3 + x3 / 256 = x4 at *
  have d5 : (x4 : Int) / 65536 = ((x4 / 65536 : Nat) : Int) := by simp
  rw [d5, ← Int.natCast_add, wrap_nat _ h5]
  generalize x4 + x4 / 65536 = x5 at *
  have d6 : (x5 : Int) / 4294967296 = ((x5 / 4294967296 : Nat) : Int) := by simp
  rw [d6, ← Int.natCast_add, wrap_nat _ h6, ← IntWalk.i64_left, and127 _ h6, h7, cpop_eq]

/-- how far a row is turned to the left -/
def turnS (t : Int) : Nat := (t % 16).toNat
theorem turnS_lt (t : Int) : turnS t < 16 := by unfold turnS; omega
/-- what RotateLeft16 computes -/
def rotI (x t : Int) : Int := bits .or .u16 (IntKind.u16.wrap (x * 2 ^ turnS t)) (x / 2 ^ (16 - turnS t))
theorem rot_eq (y : BitVec 16) (t : Int) : rotI (y.toNat : Int) t = ((y.rotateLeft (turnS t)).toNat : Int) := by
  have hs := turnS_lt t
  have hy := y.isLt
  unfold rotI
  show IntKind.u16.wrap ((BitVec.ofInt 16 (IntKind.u16.wrap ((y.toNat : Int) * 2 ^ turnS t)) ||| BitVec.ofInt 16 ((y.toNat : Int) / 2 ^ (16 - turnS t))).toNat : Int) = _
  generalize turnS t = s at *
  have e1 : BitVec.ofInt 16 (IntKind.u16.wrap ((y.toNat : Int) * 2 ^ s)) = y <<< s := by
    apply BitVec.eq_of_toNat_eq
    rw [BitVec.toNat_ofInt, IntKind.wrap_u16, BitVec.toNat_shiftLeft, Nat.shiftLeft_eq]
    have : ((y.toNat : Int) * 2 ^ s) = ((y.toNat * 2 ^ s : Nat) : Int) := by simp
    rw [this]
    generalize y.toNat * 2 ^ s = n
    omega
  have e2 : BitVec.ofInt 16 ((y.toNat : Int) / 2 ^ (16 - s)) = y >>> (16 - s) := by
    apply BitVec.eq_of_toNat_eq
    rw [BitVec.toNat_ofInt, BitVec.toNat_ushiftRight, Nat.shiftRight_eq_div_pow]
    have : ((y.toNat : Int) / 2 ^ (16 - s)) = ((y.toNat / 2 ^ (16 - s) : Nat) : Int) := by simp
    rw [this]
    have : y.toNat / 2 ^ (16 - s) ≤ y.toNat := Nat.div_le_self _ _
    generalize y.toNat / 2 ^ (16 - s) = n at *
    omega
  rw [e1, e2]
  have e3 : y.rotateLeft s = y <<< s ||| y >>> (16 - s) := by
    rw [BitVec.rotateLeft, BitVec.rotateLeftAux, Nat.mod_eq_of_lt hs]
  rw [e3, IntKind.wrap_u16]
  have := (y <<< s ||| y >>> (16 - s)).isLt
  omega

/-- a row of a word -/
def rowW (x : BitVec 64) (r : Nat) : BitVec 16 := (x >>> (16 * r)).setWidth 16
/-- a word whose rows are turned -/
def turnW (x : BitVec 64) (t : Int) : BitVec 64 :=
  (((rowW x 0).rotateLeft (turnS t)).setWidth 64 ||| ((rowW x 1).rotateLeft (turnS t)).setWidth 64 <<< 16) ||| (((rowW x 2).rotateLeft (turnS t)).setWidth 64 <<< 32) ||| (((rowW x 3).rotateLeft (turnS t)).setWidth 64 <<< 48)
def turnI (x t : Int) : Int :=
  bits .or .u64 (bits .or .u64 (bits .or .u64 (bits .or .u64 0 (IntKind.u64.wrap (IntKind.u64.wrap (rotI (IntKind.u16.wrap x) t)))) (IntKind.u64.wrap (IntKind.u64.wrap (rotI (IntKind.u16.wrap (x / 65536)) t) * 65536))) (IntKind.u64.wrap (IntKind.u64.wrap (rotI (IntKind.u16.wrap (x / 4294967296)) t) * 4294967296))) (IntKind.u64.wrap (IntKind.u64.wrap (rotI (IntKind.u16.wrap (x / 281474976710656)) t) * 281474976710656))
theorem row_eq (x : BitVec 64) (r : Nat) : IntKind.u16.wrap (uw x / 2 ^ (16 * r)) = ((rowW x r).toNat : Int) := by
  rw [uw_shr, IntKind.wrap_u16]
  unfold rowW uw
  rw [BitVec.toNat_setWidth]
  simp
theorem uw_of16 (y : BitVec 16) : (y.toNat : Int) = uw (y.setWidth 64) := by
  unfold uw
  rw [BitVec.toNat_setWidth, Nat.mod_eq_of_lt (by have := y.isLt; omega)]
theorem turn_eq (x : BitVec 64) (t : Int) : turnI (uw x) t = uw (turnW x t) := by
  unfold turnI turnW
  have r0 := row_eq x 0
  have r1 := row_eq x 1
  have r2 := row_eq x 2
  have r3 := row_eq x 3
  simp only [Nat.mul_zero, Int.pow_zero, Int.ediv_one, Nat.mul_one, Nat.reduceMul, Int.reducePow] at r0 r1 r2 r3
  rw [r0, r1, r2, r3, rot_eq, rot_eq, rot_eq, rot_eq, uw_of16, uw_of16, uw_of16, uw_of16]
  simp only [wrap_uw']
  have s1 := fun y : BitVec 64 => uw_shl y 16
  have s2 := fun y : BitVec 64 => uw_shl y 32
  have s3 := fun y : BitVec 64 => uw_shl y 48
  simp only [Int.reducePow] at s1 s2 s3
  rw [s1, s2, s3, ← uw_zero, uw_or, uw_or, uw_or, uw_or, BitVec.zero_or]
end Go.Proofs.Ytcacbolbedhcoaa
