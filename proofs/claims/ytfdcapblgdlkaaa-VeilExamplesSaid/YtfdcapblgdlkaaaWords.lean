/- Words of 16 bits. -/
import Derived.Test.YtfdcapblgdlkaaaRest
namespace Go.Proofs.Ytfdcapblgdlkaaa
open Go.RowKit

theorem ofInt_uv (x : BitVec 16) : BitVec.ofInt 16 (uv x) = x := by
  apply BitVec.eq_of_toNat_eq
  unfold uv
  rw [BitVec.toNat_ofInt]
  have := x.isLt
  omega
theorem wrap_uv (x : BitVec 16) : IntKind.u16.wrap (x.toNat : Int) = uv x := by
  have := x.isLt
  rw [IntKind.wrap_u16]; unfold uv; omega
theorem wrap_uv' (x : BitVec 16) : IntKind.u16.wrap (uv x) = uv x := wrap_uv x
theorem uv_and (x y : BitVec 16) : bits .and .u16 (uv x) (uv y) = uv (x &&& y) := by
  show IntKind.u16.wrap ((BitVec.ofInt 16 (uv x) &&& BitVec.ofInt 16 (uv y)).toNat : Int) = _
  rw [ofInt_uv, ofInt_uv, wrap_uv]
theorem uv_or (x y : BitVec 16) : bits .or .u16 (uv x) (uv y) = uv (x ||| y) := by
  show IntKind.u16.wrap ((BitVec.ofInt 16 (uv x) ||| BitVec.ofInt 16 (uv y)).toNat : Int) = _
  rw [ofInt_uv, ofInt_uv, wrap_uv]
theorem uv_xor (x y : BitVec 16) : bits .xor .u16 (uv x) (uv y) = uv (x ^^^ y) := by
  show IntKind.u16.wrap ((BitVec.ofInt 16 (uv x) ^^^ BitVec.ofInt 16 (uv y)).toNat : Int) = _
  rw [ofInt_uv, ofInt_uv, wrap_uv]
theorem uv_andNot (x y : BitVec 16) : bits .andNot .u16 (uv x) (uv y) = uv (x &&& ~~~y) := by
  show IntKind.u16.wrap ((BitVec.ofInt 16 (uv x) &&& ~~~(BitVec.ofInt 16 (uv y))).toNat : Int) = _
  rw [ofInt_uv, ofInt_uv, wrap_uv]
attribute [go_sem] uv_and uv_or uv_xor uv_andNot
theorem uv_inj {x y : BitVec 16} (h : uv x = uv y) : x = y := BitVec.eq_of_toNat_eq (by unfold uv at h; omega)
@[go_sem] theorem uv_eq (x y : BitVec 16) : (uv x == uv y) = (x == y) := by
  rw [Bool.eq_iff_iff]; simp only [beq_iff_eq]; exact ⟨uv_inj, fun h => by rw [h]⟩
theorem uv_zero : uv 0#16 = 0 := rfl
@[go_sem] theorem uv_eq0 (x : BitVec 16) : (uv x == 0) = (x == 0#16) := by rw [← uv_zero, uv_eq]
@[go_sem] theorem uv_ne0 (x : BitVec 16) : (uv x != 0) = !(x == 0#16) := by rw [← uv_eq0]; rfl
@[go_sem] theorem uv_neq (x y : BitVec 16) : (uv x != uv y) = !(x == y) := by rw [← uv_eq]; rfl
theorem uv_shr (x : BitVec 16) (n : Nat) : uv x / 2 ^ n = uv (x >>> n) := by
  unfold uv
  rw [BitVec.toNat_ushiftRight, Nat.shiftRight_eq_div_pow, Int.natCast_ediv]
  simp
theorem bit_eq (y : BitVec 16) : (bits .and .u16 (uv y) 1 == 1) = y.getLsbD 0 := by
  have h1 : uv 1#16 = 1 := rfl
  rw [← h1, uv_and, uv_eq, Bool.eq_iff_iff]
  simp only [beq_iff_eq]
  constructor
  · intro h
    have := congrArg (fun z : BitVec 16 => z.getLsbD 0) h
    simpa using this
  · intro h
    apply BitVec.eq_of_getLsbD_eq
    intro i hi
    by_cases h0 : i = 0
    · subst h0; simp [h]
    · simp [BitVec.getLsbD_one, h0]
theorem bit_at (x : BitVec 16) (k : Nat) : (x >>> k).getLsbD 0 = x.getLsbD k := by simp

theorem bit_val (x : BitVec 16) (k : Nat) : bits .and .u16 (uv (x >>> k)) 1 = bitI x k := by
  have h := bit_eq (x >>> k)
  rw [bit_at] at h
  have h1 : uv 1#16 = 1 := rfl
  rw [← h1, uv_and] at h ⊢
  rw [uv_eq] at h
  unfold bitI
  cases hb : x.getLsbD k
  · have h0 : (x >>> k) &&& 1#16 = 0#16 := by
      apply BitVec.eq_of_getLsbD_eq
      intro i hi
      by_cases hi0 : i = 0
      · subst hi0; simp [hb]
      · simp [BitVec.getLsbD_one, hi0]
    rw [h0]; rfl
  · rw [hb] at h
    have h0 : (x >>> k) &&& 1#16 = 1#16 := by simpa using h
    rw [h0]; rfl
theorem bitI_in (x : BitVec 16) (k : Nat) : 0 ≤ bitI x k ∧ bitI x k ≤ 1 := by unfold bitI; split <;> omega
theorem bit_any (x : BitVec 16) (k : Nat) (hk : k ≤ 16) (w : World) : Calls Try.prog 67 #[.int .u16 (uv x), .int .i64 k] w fun e w' => e = .returned (.int .i64 (bitI x k)) ∧ w = w' := by
  have h1 := uv_shr x k
  have h2 := bit_val x k
  have h3 := bitI_in x k
  have hm1 : min k 16 = k := by omega
  have hm2 : min k 64 = k := by omega
  have w1 : IntKind.i64.wrap (bitI x k) = bitI x k := IntWalk.i64_in _ (by omega)
  have w2 : wrap64 (bitI x k) = bitI x k := by rwa [IntWalk.i64_left] at w1
  go_enter Try.func67, Try.ntmps67
  go_wp2_with fail
  go_ret
  exact ⟨rfl, rfl⟩
end Go.Proofs.Ytfdcapblgdlkaaa
