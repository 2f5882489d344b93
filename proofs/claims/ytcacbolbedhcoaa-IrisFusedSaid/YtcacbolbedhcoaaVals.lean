/- Values of contracts, case by case. -/
import Derived.Test.YtcacbolbedhcoaaPure
namespace Go.Proofs.Ytcacbolbedhcoaa
open Go.RowKit

theorem ctr_self (a : Ir) : ctr a a = 0 := by unfold ctr; rw [BitVec.xor_self]; simp [cpop_none]
theorem cdn_self (a : Ir) (t : Int) : cdn (turnI' a t) (turnI' a t) = cpop a.mask := by
  rw [cdn_turn]; unfold cdn; rw [BitVec.and_self]
theorem self_best (a : Ir) (t turns : Int) (h0 : -turns ≤ t ∧ t ≤ turns) (h7 : turns ≤ 7) (hm : 16 ≤ (cpop a.mask : Int)) : ∃ d k : Int, best7 a (turnI' a t) turns = ⟨0, d, k⟩ ∧ 0 < d := by
  have hd : dnr a (turnI' a t) (placeT t) = cpop a.mask := by rw [dnr_place, cdn_self]
  have hn : nmr a (turnI' a t) (placeT t) = 0 := by rw [nmr_place, ctr_self]
  have hp := place_le t turns h0
  rcases best7_is a (turnI' a t) turns (by omega) with ⟨_, h⟩ | ⟨i, hi, h, h16, _, hle⟩
  · have := h _ hp; omega
  · have h2 := hle _ hp (by omega)
    rw [hn, Int.zero_mul, hd] at h2
    have h3 := (nmr_le a (turnI' a t) i).1
    have h4 : nmr a (turnI' a t) i = 0 := by
      by_cases h5 : 0 < nmr a (turnI' a t) i
      · have := Int.mul_pos h5 (show (0 : Int) < cpop a.mask by omega); omega
      · omega
    exact ⟨_, _, by rw [h, h4], by omega⟩
theorem distV_is (a b : Ir) (t : Int) : ∃ x y z e : Int, distV a b t = .tuple #[.int .i64 x, .int .i64 y, .int .i64 z, .int .i64 e] := by
  unfold distV; split
  · split
    · split <;> exact ⟨_, _, _, _, rfl⟩
    · exact ⟨_, _, _, _, rfl⟩
  · exact ⟨_, _, _, _, rfl⟩
theorem dist_ok {a b : Ir} {t : Int} {p : Pt} (h : (okI a && okI b) = true) (ht : 0 ≤ t ∧ t ≤ 7) (hb : best7 a b t = p) (hd : 0 < p.den) : distV a b t = .tuple #[.int .i64 p.num, .int .i64 p.den, .int .i64 p.turn, .int .i64 0] := by
  unfold distV
  have h1 : inB t 0 7 = true := by simp [inB, ht]
  have h2 : (p.den == 0) = false := by simp; omega
  rw [if_pos h, if_pos h1, hb, h2]; rfl
theorem dist_none {a b : Ir} {t : Int} {p : Pt} (h : (okI a && okI b) = true) (ht : 0 ≤ t ∧ t ≤ 7) (hb : best7 a b t = p) (hd : p.den = 0) : distV a b t = .tuple #[.int .i64 0, .int .i64 0, .int .i64 0, .int .i64 6] := by
  unfold distV
  have h1 : inB t 0 7 = true := by simp [inB, ht]
  have h2 : (p.den == 0) = true := by simp; omega
  rw [if_pos h, if_pos h1, hb, h2]; rfl
theorem cmp_in {a b : Ir} {t : Int} (h : (okI a && okI b) = true) (ht : -7 ≤ t ∧ t ≤ 7) : cmpV a b t = .tuple #[.int .i64 (ctr (turnI' a t) b), .int .i64 (cdn (turnI' a t) b), .int .i64 0] := by
  unfold cmpV
  have h1 : inB t (-7) 7 = true := by simp [inB, ht]
  rw [if_pos h, if_pos h1]
theorem turn_in {a : Ir} {t : Int} (h : okI a = true) (ht : -7 ≤ t ∧ t ≤ 7) : turnV a t = .tuple #[(turnI' a t).val, .int .i64 0] := by
  unfold turnV
  have h1 : inB t (-7) 7 = true := by simp [inB, ht]
  rw [if_pos h, if_pos h1]
theorem turn_out {a : Ir} {t : Int} (h : ¬ (okI a = true ∧ -7 ≤ t ∧ t ≤ 7)) : ∃ e : Int, e ≠ 0 ∧ turnV a t = .tuple #[Ir.zero.val, .int .i64 e] := by
  unfold turnV
  cases ho : okI a
  · exact ⟨30, by decide, by simp⟩
  · cases hi : inB t (-7) 7
    · exact ⟨2, by decide, by simp⟩
    · rw [ho] at h
      simp [inB] at hi
      simp at h
      omega
theorem match_in {a b : Ir} {t n d : Int} (h : (okI a && okI b) = true) (ht : 0 ≤ t ∧ t ≤ 7) (hl : limB n d = true) : matchV a b t n d = .tuple #[.bool (matB (best7 a b t) n d), .int .i64 0] := by
  unfold matchV
  have h1 : inB t 0 7 = true := by simp [inB, ht]
  rw [if_pos h, h1, hl]; rfl

end Go.Proofs.Ytcacbolbedhcoaa
