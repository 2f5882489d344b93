/- Plain facts on logs: chains that are longer by one entry; erased entries; beginnings. -/
import Derived.Test.YtkhmjkhgmggjcaaOpening
namespace Go.Proofs.Ytkhmjkhgmggjcaa
open Go.RowKit

/-- the last entry of a log behind an entry q -/
def lastQ (q : E) (l : List E) : E := l.getLastD q
theorem lastQ_nil (q : E) : lastQ q [] = q := rfl
theorem lastQ_cons (q x : E) (l : List E) : lastQ q (x :: l) = lastQ x l := by
  simp only [lastQ, List.getLastD_cons]
theorem lastQ_zero (l : List E) : lastQ E.zero l = lastE l := rfl

/-- what is asked of one entry behind another one -/
def nextB (p x : E) : Bool := fitsB x && !decide (x.time < p.time) && (x.link == linkI p.link x)
theorem chk_cons (p x : E) (r : List E) : chkB p (x :: r) = (nextB p x && chkB x r) := by simp [chkB, nextB]
theorem chk_append (q : E) (l m : List E) : chkB q (l ++ m) = (chkB q l && chkB (lastQ q l) m) := by
  induction l generalizing q with
  | nil => simp [chkB, lastQ]
  | cons x r ih => rw [List.cons_append, chk_cons, chk_cons, ih, lastQ_cons, Bool.and_assoc]
theorem chk_one (q x : E) : chkB q [x] = nextB q x := by rw [chk_cons]; simp [chkB]

theorem fits_new (t k p d s : Int) (lk : Int) (ht : fromB 0 1099511627776 t = true) (hk : fromB 0 7 k = true) (hp : fromB 0 63 p = true) (hd0 : 0 ≤ d) (hd1 : d < 18446744073709551616) (hs0 : 0 ≤ s) (hs1 : s < 18446744073709551616) :
    fitsB ⟨t, k, p, d, s, bits .xor .u64 d s, lk⟩ = true := by
  have hab : d.toNat ^^^ s.toNat < 18446744073709551616 := Nat.xor_lt_two_pow (n := 64) (by omega) (by omega)
  have hx : bits .xor .u64 d s = ((d.toNat ^^^ s.toNat : Nat) : Int) := u64_xor d s hd0 hd1 hs0 hs1
  have hp' : 0 ≤ p ∧ p ≤ 63 := by simpa [fromB] using hp
  have h1 : fromB (-1) 63 p = true := by simp [fromB]; omega
  have h2 : ¬ p < 0 := by omega
  have h3 := xor_zero (bits .xor .u64 d s) d s (by omega) (by omega) hd0 hd1 hs0 hs1
  simp only [fitsB, ht, hk, h1, h2, Bool.true_and, if_false]
  rw [h3]; simp

theorem ok_time {l : List E} (h : okB l = true) : 0 ≤ (lastE l).time := by
  rcases List.eq_nil_or_concat l with rfl | ⟨l', x, rfl⟩
  · simp [lastE, E.zero]
  · have : lastE (l'.concat x) = x := by simp [lastE]
    rw [this]
    have hf := ok_fits h x (by simp)
    simp [fitsB, fromB] at hf; omega

/-- Write gives a log that is chained. -/
theorem ok_write (l : List E) (t k p d s : Int) (h : okB l = true) (hw : wargB l t k p = true) (h60 : l.length ≠ 60) (hd0 : 0 ≤ d) (hd1 : d < 18446744073709551616) (hs0 : 0 ≤ s) (hs1 : s < 18446744073709551616) :
    okB (l ++ [newE l t k p d s]) = true := by
  have ht0 := ok_time h
  simp only [wargB, Bool.and_eq_true] at hw
  obtain ⟨⟨h1, h2⟩, h3⟩ := hw
  have h1' : (lastE l).time ≤ t ∧ t ≤ 1099511627776 := by simpa [fromB] using h1
  have ht : fromB 0 1099511627776 t = true := by simp [fromB]; omega
  simp only [okB, Bool.and_eq_true, decide_eq_true_eq] at h ⊢
  refine ⟨by simp; omega, ?_⟩
  rw [chk_append, h.2, Bool.true_and, chk_one, lastQ_zero]
  have hf := fits_new t k p d s (linkI (lastE l).link ⟨t, k, p, d, s, bits .xor .u64 d s, 0⟩) ht h2 h3 hd0 hd1 hs0 hs1
  have hlt : ¬ t < (lastE l).time := by omega
  simp only [nextB, newE, hf, hlt, decide_false, Bool.not_false, Bool.true_and]
  simp [linkI]
end Go.Proofs.Ytkhmjkhgmggjcaa
