/- Plain facts: beginnings of logs, erased logs; mixing is one-to-one. -/
import Derived.Test.YtkhmjkhgmggjcaaPure
namespace Go.Proofs.Ytkhmjkhgmggjcaa
open Go.RowKit

theorem ok_take {l : List E} (h : okB l = true) (n : Nat) : okB (l.take n) = true := by
  simp only [okB, Bool.and_eq_true, decide_eq_true_eq] at h ⊢
  refine ⟨by simp; omega, ?_⟩
  have := chk_append E.zero (l.take n) (l.drop n)
  rw [List.take_append_drop, h.2] at this
  have h2 := this.symm
  rw [Bool.and_eq_true] at h2
  exact h2.1

theorem fits_erase (x : E) (h : fitsB x = true) : fitsB (eraseE x) = true := by
  simp only [fitsB, Bool.and_eq_true] at h
  obtain ⟨⟨⟨h1, h2⟩, _⟩, _⟩ := h
  have h3 : (bits .or .u64 0 0 == 0) = true := by kernel_rfl
  simp only [fitsB, eraseE, h1, h2]
  simp [h3, fromB]
theorem link_erase (a : Int) (x : E) : linkI a (eraseE x) = linkI a x := rfl
theorem chk_erase (p : Int) (l : List E) : ∀ q q' : E, q'.time = q.time → q'.link = q.link → chkB q l = true → chkB q' (eraseL l p) = true := by
  induction l with
  | nil => intro _ _ _ _ _; simp [eraseL, chkB]
  | cons x r ih =>
    intro q q' ht hl h
    simp only [chkB, Bool.and_eq_true] at h
    obtain ⟨⟨⟨h1, h2⟩, h3⟩, h4⟩ := h
    rw [eraseL, List.map_cons]
    by_cases hp : x.person = p
    · rw [if_pos hp]
      simp only [chkB, Bool.and_eq_true]
      refine ⟨⟨⟨fits_erase x h1, ?_⟩, ?_⟩, ih x (eraseE x) rfl rfl h4⟩
      · rw [ht]; exact h2
      · rw [hl, link_erase]; exact h3
    · rw [if_neg hp]
      simp only [chkB, Bool.and_eq_true]
      refine ⟨⟨⟨h1, ?_⟩, ?_⟩, ih x x rfl rfl h4⟩
      · rw [ht]; exact h2
      · rw [hl]; exact h3
theorem ok_erase {l : List E} (p : Int) (h : okB l = true) : okB (eraseL l p) = true := by
  simp only [okB, Bool.and_eq_true, decide_eq_true_eq] at h ⊢
  exact ⟨by simp [eraseL]; exact h.1, chk_erase p l _ _ rfl rfl h.2⟩
theorem last_erase (p : Int) (l : List E) : ∀ q q' : E, q'.link = q.link → (lastQ q' (eraseL l p)).link = (lastQ q l).link := by
  induction l with
  | nil => intro q q' h; exact h
  | cons x r ih =>
    intro q q' _
    rw [eraseL, List.map_cons, lastQ_cons, lastQ_cons]
    refine ih x _ ?_
    split <;> rfl
theorem erase_take (l : List E) (p : Int) (n : Nat) : (lastE ((eraseL l p).take n)).link = (lastE (l.take n)).link := by
  have : (eraseL l p).take n = eraseL (l.take n) p := by simp [eraseL, List.map_take]
  rw [this]
  exact last_erase p (l.take n) E.zero E.zero rfl

/-! Mixing is one-to-one. -/
def mixV (a b : BitVec 64) : BitVec 64 :=
  let x1 := (a ^^^ b) * 11400714819323198485#64
  let x3 := (x1 ^^^ (x1 >>> 29)) * 13787848793156543929#64
  x3 ^^^ (x3 >>> 32)
theorem mul_odd (c i : BitVec 64) (h : c * i = 1#64) {x y : BitVec 64} (e : x * c = y * c) : x = y := by
  have : x * c * i = y * c * i := by rw [e]
  rwa [BitVec.mul_assoc, BitVec.mul_assoc, h, BitVec.mul_one, BitVec.mul_one] at this
theorem xs32 (x : BitVec 64) : (x ^^^ (x >>> 32)) ^^^ ((x ^^^ (x >>> 32)) >>> 32) = x := by
  rw [BitVec.ushiftRight_xor_distrib, ← BitVec.shiftRight_add]
  have : x >>> (32 + 32) = 0#64 := by
    apply BitVec.eq_of_toNat_eq
    simp [BitVec.toNat_ushiftRight, Nat.shiftRight_eq_div_pow]
    exact x.isLt
  rw [this, BitVec.xor_zero, BitVec.xor_assoc, BitVec.xor_self, BitVec.xor_zero]
theorem xs29 (x : BitVec 64) : (x ^^^ (x >>> 29)) ^^^ ((x ^^^ (x >>> 29)) >>> 29) ^^^ ((x ^^^ (x >>> 29)) >>> 58) = x := by
  rw [BitVec.ushiftRight_xor_distrib, BitVec.ushiftRight_xor_distrib, ← BitVec.shiftRight_add, ← BitVec.shiftRight_add]
  have : x >>> (29 + 58) = 0#64 := by
    apply BitVec.eq_of_toNat_eq
    have := x.isLt
    simp [BitVec.toNat_ushiftRight, Nat.shiftRight_eq_div_pow]
    omega
  rw [this, BitVec.xor_zero]
  show (x ^^^ x >>> 29) ^^^ (x >>> 29 ^^^ x >>> 58) ^^^ x >>> 58 = x
  rw [BitVec.xor_assoc, BitVec.xor_assoc (x >>> 29), BitVec.xor_self, BitVec.xor_zero, BitVec.xor_assoc, BitVec.xor_self, BitVec.xor_zero]
theorem mixV_inj {a b c d : BitVec 64} (h : mixV a b = mixV c d) : a ^^^ b = c ^^^ d := by
  unfold mixV at h
  have h1 := (xs32 _).symm.trans ((congrArg (fun z : BitVec 64 => z ^^^ (z >>> 32)) h).trans (xs32 _))
  have h2 := mul_odd _ 10871156337175269513#64 (by decide) h1
  have h3 := (xs29 _).symm.trans ((congrArg (fun z : BitVec 64 => z ^^^ (z >>> 29) ^^^ (z >>> 58)) h2).trans (xs29 _))
  exact mul_odd _ 17428512612931826493#64 (by decide) h3
end Go.Proofs.Ytkhmjkhgmggjcaa
