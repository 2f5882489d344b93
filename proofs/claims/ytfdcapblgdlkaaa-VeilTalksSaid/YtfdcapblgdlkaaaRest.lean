/- Numbers modulo 31; bits of words. -/
import Derived.Test.YtfdcapblgdlkaaaLeaf
namespace Go.Proofs.Ytfdcapblgdlkaaa
open Go.RowKit

theorem mod31 (n : Int) (h : -1000000 ≤ n ∧ n ≤ 1000000) : (n.tmod 31 + 31).tmod 31 = n % 31 ∧ -31 < n.tmod 31 ∧ n.tmod 31 < 31 := by
  have h1 : n.tmod 31 = n % 31 ∨ n.tmod 31 = n % 31 - 31 := by
    rcases Int.le_total 0 n with h0 | h0
    · exact .inl (Int.tmod_eq_emod_of_nonneg h0)
    · have e : n.tmod 31 = -((-n).tmod 31) := by rw [Int.neg_tmod, Int.neg_neg]
      rw [e, Int.tmod_eq_emod_of_nonneg (by omega)]
      omega
  have h2 : 0 ≤ n % 31 ∧ n % 31 < 31 := by omega
  have h3 : -31 < n.tmod 31 := by
    rcases Int.le_total 0 n with h0 | h0
    · rw [Int.tmod_eq_emod_of_nonneg h0]; omega
    · have e : n.tmod 31 = -((-n).tmod 31) := by rw [Int.neg_tmod, Int.neg_neg]
      rw [e, Int.tmod_eq_emod_of_nonneg (by omega)]
      omega
  refine ⟨?_, h3, by omega⟩
  rw [Int.tmod_eq_emod_of_nonneg (by omega)]
  omega
theorem of_any (n : Int) (h : -1000000 ≤ n ∧ n ≤ 1000000) (w : World) : Calls Try.prog 91 #[.int .i64 n] w fun e w' => e = .returned (.int .i64 (n % 31)) ∧ w = w' := by
  obtain ⟨h1, h2, h3⟩ := mod31 n h
  generalize hm : n % 31 = r at *
  have HM := Lib.hid hm
  clear hm
  generalize hq : n.tmod 31 = q at *
  have w1 : IntKind.i64.wrap q = q := IntWalk.i64_in _ (by omega)
  have w2 : IntKind.i64.wrap (q + 31) = q + 31 := IntWalk.i64_in _ (by omega)
  go_enter Try.func91, Try.ntmps91
  go_wp2_with fail
  go_ret
  simp_all
theorem rest_any (n : Int) (h : -1000000 ≤ n ∧ n ≤ 1000000) (w : World) : Calls Try.prog 66 #[.int .i64 n] w fun e w' => e = .returned (.int .i64 (n % 31)) ∧ w = w' := by
  obtain ⟨h1, h2, h3⟩ := mod31 n h
  generalize hm : n % 31 = r at *
  have HM := Lib.hid hm
  clear hm
  generalize hq : n.tmod 31 = q at *
  have w1 : IntKind.i64.wrap q = q := IntWalk.i64_in _ (by omega)
  have w2 : IntKind.i64.wrap (q + 31) = q + 31 := IntWalk.i64_in _ (by omega)
  go_enter Try.func66, Try.ntmps66
  go_wp2_with fail
  go_ret
  simp_all
theorem plus_any (a b : Int) (ha : -1000 ≤ a ∧ a ≤ 1000) (hb : -1000 ≤ b ∧ b ≤ 1000) (w : World) : Calls Try.prog 64 #[.int .i64 a, .int .i64 b] w fun e w' => e = .returned (.int .i64 ((a + b) % 31)) ∧ w = w' := by
  have C := Lib.hid (of_any (a + b) (by omega))
  go_enter Try.func64, Try.ntmps64
  go_wp2_with (go_at_call 91; refine Calls.same (C.out _) ?_)
  go_ret
  exact ⟨rfl, rfl⟩
theorem minus_any (a b : Int) (ha : -1000 ≤ a ∧ a ≤ 1000) (hb : -1000 ≤ b ∧ b ≤ 1000) (w : World) : Calls Try.prog 61 #[.int .i64 a, .int .i64 b] w fun e w' => e = .returned (.int .i64 ((a - b) % 31)) ∧ w = w' := by
  have C := Lib.hid (of_any (a - b) (by omega))
  go_enter Try.func61, Try.ntmps61
  go_wp2_with (go_at_call 91; refine Calls.same (C.out _) ?_)
  go_ret
  exact ⟨rfl, rfl⟩
theorem mul_in (a b : Int) (ha : 0 ≤ a ∧ a ≤ 255) (hb : 0 ≤ b ∧ b ≤ 255) : 0 ≤ a * b ∧ a * b ≤ 65025 := by
  constructor
  · exact Int.mul_nonneg ha.1 hb.1
  · have h1 : a * b ≤ 255 * b := Int.mul_le_mul_of_nonneg_right ha.2 hb.1
    omega
theorem times_any (a b : Int) (ha : 0 ≤ a ∧ a ≤ 255) (hb : 0 ≤ b ∧ b ≤ 255) (w : World) : Calls Try.prog 63 #[.int .i64 a, .int .i64 b] w fun e w' => e = .returned (.int .i64 ((a * b) % 31)) ∧ w = w' := by
  obtain ⟨h1, h2⟩ := mul_in a b ha hb
  have C := Lib.hid (of_any (a * b) (by omega))
  generalize hm : a * b = m at *
  have w1 : IntKind.i64.wrap m = m := IntWalk.i64_in _ (by omega)
  go_enter Try.func63, Try.ntmps63
  go_wp2_with (go_at_call 91; refine Calls.same (C.out _) ?_)
  go_ret
  exact ⟨rfl, rfl⟩
def bitI (x : BitVec 16) (i : Nat) : Int := if x.getLsbD i then 1 else 0
end Go.Proofs.Ytfdcapblgdlkaaa
/- Words of 16 bits. -/
namespace Go.Proofs.Ytfdcapblgdlkaaa
open Go.RowKit

theorem ofInt_uv (x : BitVec 16) : BitVec.ofInt 16 (uv x) = x := by
  apply BitVec.eq_of_toNat_eq
  unfold uv
  rw [BitVec.toNat_ofInt]
  have := x.isLt
  omega
theorem wrap_uv (x : BitVec 16) : IntKind.u16.wrap (x.toNat : Int) = uv x := by
  have := x.isLt
  rw [IntKind.wrap_u16]; unfold uv; omega
theorem wrap_uv' (x : BitVec 16) : IntKind.u16.wrap (uv x) = uv x := wrap_uv x
theorem uv_and (x y : BitVec 16) : bits .and .u16 (uv x) (uv y) = uv (x &&& y) := by
  show IntKind.u16.wrap ((BitVec.ofInt 16 (uv x) &&& BitVec.ofInt 16 (uv y)).toNat : Int) = _
  rw [ofInt_uv, ofInt_uv, wrap_uv]
theorem uv_or (x y : BitVec 16) : bits .or .u16 (uv x) (uv y) = uv (x ||| y) := by
  show IntKind.u16.wrap ((BitVec.ofInt 16 (uv x) ||| BitVec.ofInt 16 (uv y)).toNat : Int) = _
  rw [ofInt_uv, ofInt_uv, wrap_uv]
theorem uv_xor (x y : BitVec 16) : bits .xor .u16 (uv x) (uv y) = uv (x ^^^ y) := by
  show IntKind.u16.wrap ((BitVec.ofInt 16 (uv x) ^^^ BitVec.ofInt 16 (uv y)).toNat : Int) = _
  rw [ofInt_uv, ofInt_uv, wrap_uv]
theorem uv_andNot (x y : BitVec 16) : bits .andNot .u16 (uv x) (uv y) = uv (x &&& ~~~y) := by
  show IntKind.u16.wrap ((BitVec.ofInt 16 (uv x) &&& ~~~(BitVec.ofInt 16 (uv y))).toNat : Int) = _
  rw [ofInt_uv, ofInt_uv, wrap_uv]
attribute [go_sem] uv_and uv_or uv_xor uv_andNot
theorem uv_inj {x y : BitVec 16} (h : uv x = uv y) : x = y := BitVec.eq_of_toNat_eq (by unfold uv at h; omega)
@[go_sem] theorem uv_eq (x y : BitVec 16) : (uv x == uv y) = (x == y) := by
  rw [Bool.eq_iff_iff]; simp only [beq_iff_eq]; exact ⟨uv_inj, fun h => by rw [h]⟩
theorem uv_zero : uv 0#16 = 0 := rfl
@[go_sem] theorem uv_eq0 (x : BitVec 16) : (uv x == 0) = (x == 0#16) := by rw [← uv_zero, uv_eq]
@[go_sem] theorem uv_ne0 (x : BitVec 16) : (uv x != 0) = !(x == 0#16) := by rw [← uv_eq0]; rfl
@[go_sem] theorem uv_neq (x y : BitVec 16) : (uv x != uv y) = !(x == y) := by rw [← uv_eq]; rfl
theorem uv_shr (x : BitVec 16) (n : Nat) : uv x / 2 ^ n = uv (x >>> n) := by
  unfold uv
  rw [BitVec.toNat_ushiftRight, Nat.shiftRight_eq_div_pow, Int.natCast_ediv]
  simp
theorem bit_eq (y : BitVec 16) : (bits .and .u16 (uv y) 1 == 1) = y.getLsbD 0 := by
  have h1 : uv 1#16 = 1 := rfl
  rw [← h1, uv_and, uv_eq, Bool.eq_iff_iff]
  simp only [beq_iff_eq]
  constructor
  · intro h
    have := congrArg (fun z : BitVec 16 => z.getLsbD 0) h
    simpa using this
  · intro h
    apply BitVec.eq_of_getLsbD_eq
    intro i hi
    by_cases h0 : i = 0
    · subst h0; simp [h]
    · simp [BitVec.getLsbD_one, h0]
theorem bit_at (x : BitVec 16) (k : Nat) : (x >>> k).getLsbD 0 = x.getLsbD k := by simp

theorem bit_val (x : BitVec 16) (k : Nat) : bits .and .u16 (uv (x >>> k)) 1 = bitI x k := by
  have h := bit_eq (x >>> k)
  rw [bit_at] at h
  have h1 : uv 1#16 = 1 := rfl
  rw [← h1, uv_and] at h ⊢
  rw [uv_eq] at h
  unfold bitI
  cases hb : x.getLsbD k
  · have h0 : (x >>> k) &&& 1#16 = 0#16 := by
      apply BitVec.eq_of_getLsbD_eq
      intro i hi
      by_cases hi0 : i = 0
      · subst hi0; simp [hb]
      · simp [BitVec.getLsbD_one, hi0]
    rw [h0]; rfl
  · rw [hb] at h
    have h0 : (x >>> k) &&& 1#16 = 1#16 := by simpa using h
    rw [h0]; rfl
theorem bitI_in (x : BitVec 16) (k : Nat) : 0 ≤ bitI x k ∧ bitI x k ≤ 1 := by unfold bitI; split <;> omega
theorem bit_any (x : BitVec 16) (k : Nat) (hk : k ≤ 16) (w : World) : Calls Try.prog 67 #[.int .u16 (uv x), .int .i64 k] w fun e w' => e = .returned (.int .i64 (bitI x k)) ∧ w = w' := by
  have h1 := uv_shr x k
  have h2 := bit_val x k
  have h3 := bitI_in x k
  have hm1 : min k 16 = k := by omega
  have hm2 : min k 64 = k := by omega
  have w1 : IntKind.i64.wrap (bitI x k) = bitI x k := IntWalk.i64_in _ (by omega)
  have w2 : wrap64 (bitI x k) = bitI x k := by rwa [IntWalk.i64_left] at w1
  go_enter Try.func67, Try.ntmps67
  go_wp2_with fail
  go_ret
  exact ⟨rfl, rfl⟩
end Go.Proofs.Ytfdcapblgdlkaaa
