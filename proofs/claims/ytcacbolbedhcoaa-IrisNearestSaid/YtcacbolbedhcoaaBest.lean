/- The best turn, in words; 'less'. -/
import Derived.Test.YtcacbolbedhcoaaVals
namespace Go.Proofs.Ytcacbolbedhcoaa
open Go.RowKit

theorem best_zero {a b : Ir} {t : Int} {p : Pt} (ht : 0 ≤ t ∧ t ≤ 7) (hp : best7 a b t = p) (hd : p.den = 0) (s : Int) (hs : -t ≤ s ∧ s ≤ t) : cdn (turnI' a s) b < 16 := by
  rcases best7_is a b t ht with ⟨_, h⟩ | ⟨i, hi, h, h16, _, _⟩
  · have := h _ (place_le s t hs)
    rwa [dnr_place] at this
  · rw [hp] at h; rw [h] at hd; simp only at hd; omega
theorem best_at {a b : Ir} {t : Int} {p : Pt} (ht : 0 ≤ t ∧ t ≤ 7) (hp : best7 a b t = p) (hd : 0 < p.den) : (-t ≤ p.turn ∧ p.turn ≤ t) ∧ p.num = ctr (turnI' a p.turn) b ∧ p.den = cdn (turnI' a p.turn) b ∧ 16 ≤ p.den := by
  rcases best7_is a b t ht with ⟨h, _⟩ | ⟨i, hi, h, h16, _, _⟩
  · rw [hp] at h; rw [h] at hd; simp at hd
  · rw [hp] at h; subst h
    exact ⟨place_in i t ht.1 hi, rfl, rfl, h16⟩
theorem best_le {a b : Ir} {t : Int} {p : Pt} (ht : 0 ≤ t ∧ t ≤ 7) (hp : best7 a b t = p) (s : Int) (hs : -t ≤ s ∧ s ≤ t) (h16 : 16 ≤ cdn (turnI' a s) b) : p.num * cdn (turnI' a s) b ≤ ctr (turnI' a s) b * p.den := by
  rcases best7_is a b t ht with ⟨_, h⟩ | ⟨i, hi, h, _, _, hle⟩
  · have := h _ (place_le s t hs)
    rw [dnr_place] at this
    omega
  · have := hle _ (place_le s t hs) (by rw [dnr_place]; exact h16)
    rw [dnr_place, nmr_place] at this
    rw [hp] at h; subst h
    exact this
theorem best_lt {a b : Ir} {t : Int} {p : Pt} (ht : 0 ≤ t ∧ t ≤ 7) (hp : best7 a b t = p) (s : Int) (hs : placeT s < placeT p.turn) (h16 : 16 ≤ cdn (turnI' a s) b) (hd : 0 < p.den) : p.num * cdn (turnI' a s) b < ctr (turnI' a s) b * p.den := by
  rcases best7_is a b t ht with ⟨h, _⟩ | ⟨i, hi, h, _, hlt, _⟩
  · rw [hp] at h; rw [h] at hd; simp at hd
  · rw [hp] at h; subst h
    simp only [at_place] at hs
    have := hlt _ hs (by rw [dnr_place]; exact h16)
    rwa [dnr_place, nmr_place] at this
theorem best_fits {a b : Ir} {t : Int} {p : Pt} (ht : 0 ≤ t ∧ t ≤ 7) (hp : best7 a b t = p) : 0 ≤ p.num ∧ p.num ≤ p.den ∧ p.den ≤ 64 ∧ -7 ≤ p.turn ∧ p.turn ≤ 7 := by
  rcases best7_is a b t ht with ⟨h, _⟩ | ⟨i, hi, h, _, _, _⟩
  · rw [hp] at h; subst h; decide
  · rw [hp] at h; subst h
    have h1 := nmr_le a b i
    have h2 := turnAt_in i (by omega)
    simp only
    omega
theorem best_sym0 {a b : Ir} {t : Int} {p q : Pt} (ht : 0 ≤ t ∧ t ≤ 7) (hp : best7 a b t = p) (hq : best7 b a t = q) (hd : p.den = 0) : q.den = 0 := by
  by_cases h : 0 < q.den
  · obtain ⟨h1, _, h3, h4⟩ := best_at ht hq h
    have := best_zero ht hp hd (-q.turn) (by omega)
    rw [cdn_back, Int.neg_neg] at this
    omega
  · have := best_fits ht hq; omega
theorem best_sym1 {a b : Ir} {t : Int} {p q : Pt} (ht : 0 ≤ t ∧ t ≤ 7) (hp : best7 a b t = p) (hq : best7 b a t = q) (hd : 0 < q.den) : p.num * q.den ≤ q.num * p.den := by
  obtain ⟨h1, h2, h3, h4⟩ := best_at ht hq hd
  have e1 : cdn (turnI' a (-q.turn)) b = q.den := by rw [cdn_back, Int.neg_neg]; exact h3.symm
  have e2 : ctr (turnI' a (-q.turn)) b = q.num := by rw [ctr_back, Int.neg_neg]; exact h2.symm
  have := best_le ht hp (-q.turn) (by omega) (by rw [e1]; exact h4)
  rwa [e1, e2] at this
theorem best_sym {a b : Ir} {t : Int} {p q : Pt} (ht : 0 ≤ t ∧ t ≤ 7) (hp : best7 a b t = p) (hq : best7 b a t = q) (hd : 0 < p.den) : 0 < q.den ∧ p.num * q.den = q.num * p.den := by
  have hq0 : 0 < q.den := by
    by_cases h : 0 < q.den
    · exact h
    · have h1 := best_fits ht hq
      have := best_sym0 ht hq hp (by omega)
      omega
  exact ⟨hq0, Int.le_antisymm (best_sym1 ht hp hq hq0) (best_sym1 ht hq hp hd)⟩
theorem best_more {a b : Ir} {t m : Int} {p r : Pt} (ht : 0 ≤ t ∧ t ≤ 7) (hm : t ≤ m ∧ m ≤ 7) (hp : best7 a b t = p) (hr : best7 a b m = r) (hd : 0 < p.den) : 0 < r.den ∧ r.num * p.den ≤ p.num * r.den := by
  obtain ⟨h1, h2, h3, h4⟩ := best_at ht hp hd
  have hm2 : 0 ≤ m ∧ m ≤ 7 := by omega
  constructor
  · by_cases h : 0 < r.den
    · exact h
    · have hf := best_fits hm2 hr
      have := best_zero hm2 hr (by omega) p.turn (by omega)
      omega
  · have := best_le hm2 hr p.turn (by omega) (by rw [← h3]; exact h4)
    rwa [← h2, ← h3] at this
def lessB (a b c d : Int) : Bool := decide (a * d < c * b)
theorem lessW_any (a b c d : Int) (w : World) (ha : 0 ≤ a ∧ a ≤ 1000) (hb : 0 ≤ b ∧ b ≤ 1000) (hc : 0 ≤ c ∧ c ≤ 1000) (hd : 0 ≤ d ∧ d ≤ 1000) : Calls Try.prog 40 #[.int .i64 a, .int .i64 b, .int .i64 c, .int .i64 d] w fun e w' => e = .returned (.bool (lessB a b c d)) ∧ w = w' := by
  have h1 := mul_le a d ha.1 ha.2 hd.1 hd.2
  have h2 := mul_le c b hc.1 hc.2 hb.1 hb.2
  have Hv := Lib.hid (show lessB a b c d = decide (a * d < c * b) from rfl)
  go_enter Try.func40, Try.ntmps40
  go_wp2_with fail
  go_ret
  exact ⟨ret_of (by rw [Hv.out]; rfl), rfl⟩
end Go.Proofs.Ytcacbolbedhcoaa
