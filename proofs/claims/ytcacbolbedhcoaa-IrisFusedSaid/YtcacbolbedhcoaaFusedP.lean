/- Plain laws on fused codes. -/
import Derived.Test.YtcacbolbedhcoaaAlive
import Derived.Test.YtcacbolbedhcoaaIrisTurned
import Derived.Test.YtcacbolbedhcoaaSlices2
import Derived.Test.YtcacbolbedhcoaaArgs
namespace Go.Proofs.Ytcacbolbedhcoaa
open Go.RowKit

def ones64 : BitVec 64 := 18446744073709551615#64
def allM (l : List Ir) : BitVec 64 := l.foldl (fun a x => a &&& x.mask) ones64
def anyM (l : List Ir) : BitVec 64 := l.foldl (fun a x => a ||| x.mask) 0#64
def allC (l : List Ir) : BitVec 64 := l.foldl (fun a x => a &&& x.code) ones64
def anyC (l : List Ir) : BitVec 64 := l.foldl (fun a x => a ||| x.code) 0#64
theorem allM_snoc (l : List Ir) (x : Ir) : allM (l ++ [x]) = allM l &&& x.mask := by simp [allM]
theorem anyM_snoc (l : List Ir) (x : Ir) : anyM (l ++ [x]) = anyM l ||| x.mask := by simp [anyM]
theorem allC_snoc (l : List Ir) (x : Ir) : allC (l ++ [x]) = allC l &&& x.code := by simp [allC]
theorem anyC_snoc (l : List Ir) (x : Ir) : anyC (l ++ [x]) = anyC l ||| x.code := by simp [anyC]
theorem fold_and (f : Ir → BitVec 64) (i : Nat) : ∀ (l : List Ir) (a : BitVec 64), (l.foldl (fun a x => a &&& f x) a).getLsbD i = (a.getLsbD i && l.all fun x => (f x).getLsbD i) := by
  intro l
  induction l with
  | nil => intro a; simp
  | cons x r ih => intro a; rw [List.foldl_cons, ih, BitVec.getLsbD_and, List.all_cons, Bool.and_assoc]
theorem fold_or (f : Ir → BitVec 64) (i : Nat) : ∀ (l : List Ir) (a : BitVec 64), (l.foldl (fun a x => a ||| f x) a).getLsbD i = (a.getLsbD i || l.any fun x => (f x).getLsbD i) := by
  intro l
  induction l with
  | nil => intro a; simp
  | cons x r ih => intro a; rw [List.foldl_cons, ih, BitVec.getLsbD_or, List.any_cons, Bool.or_assoc]
theorem ones_get (i : Nat) (h : i < 64) : ones64.getLsbD i = true := by
  have : ∀ i, i < 64 → ones64.getLsbD i = true := by decide
  exact this i h
theorem bit_ok {x : Ir} (h : okI x = true) (i : Nat) (hi : i < 64) (hm : x.mask.getLsbD i = false) : x.code.getLsbD i = false := by
  rw [okI_and] at h
  have h1 := congrArg (fun y : BitVec 64 => y.getLsbD i) h
  simp only [BitVec.getLsbD_and, BitVec.getLsbD_not, hi, hm, decide_true, Bool.not_false, Bool.and_true, BitVec.getLsbD_zero] at h1
  exact h1
theorem vote_none (i : Nat) (hi : i < 64) : ∀ l : List Ir, allI l = true → (l.any fun x => x.mask.getLsbD i) = false → vote l i = 0 := by
  intro l
  induction l with
  | nil => intro _ _; rfl
  | cons x r ih =>
    intro h1 h2
    unfold allI at h1
    simp only [List.all_cons, Bool.and_eq_true] at h1
    simp only [List.any_cons, Bool.or_eq_false_iff] at h2
    have e : vote (x :: r) i = dlt i x + vote r i := by simp [vote]
    rw [e, ih h1.2 h2.2]
    unfold dlt
    rw [h2.1, bit_ok h1.1 i hi h2.1]
    rfl
theorem vote_yes (i : Nat) : ∀ l : List Ir, (l.all fun x => x.mask.getLsbD i) = true → (l.all fun x => x.code.getLsbD i) = true → vote l i = l.length := by
  intro l
  induction l with
  | nil => intro _ _; rfl
  | cons x r ih =>
    intro h1 h2
    simp only [List.all_cons, Bool.and_eq_true] at h1 h2
    have e : vote (x :: r) i = dlt i x + vote r i := by simp [vote]
    rw [e, ih h1.2 h2.2]
    unfold dlt
    rw [h1.1, h2.1]
    simp [b2i]; omega
theorem vote_no (i : Nat) : ∀ l : List Ir, (l.all fun x => x.mask.getLsbD i) = true → (l.any fun x => x.code.getLsbD i) = false → vote l i = -(l.length : Int) := by
  intro l
  induction l with
  | nil => intro _ _; rfl
  | cons x r ih =>
    intro h1 h2
    simp only [List.all_cons, Bool.and_eq_true] at h1
    simp only [List.any_cons, Bool.or_eq_false_iff] at h2
    have e : vote (x :: r) i = dlt i x + vote r i := by simp [vote]
    rw [e, ih h1.2 h2.2]
    unfold dlt
    rw [h1.1, h2.1]
    simp [b2i]; omega
/-- no code knows it: it is not known -/
theorem fus_any (l : List Ir) (need : Int) (h : allI l = true) (hn : 1 ≤ need) : (fusK (vote l) need 64).mask &&& ~~~(anyM l) = 0#64 := by
  apply BitVec.eq_of_getLsbD_eq
  intro i hi
  rw [BitVec.getLsbD_and, BitVec.getLsbD_not, fus_mask _ _ i hi, anyM, fold_or (fun x => x.mask)]
  simp only [hi, decide_true, Bool.true_and, BitVec.getLsbD_zero, Bool.false_or]
  cases hc : (l.any fun x => x.mask.getLsbD i)
  · rw [vote_none i hi l h hc]
    simp; omega
  · simp
def agreeM (l : List Ir) : BitVec 64 := allM l &&& (allC l ||| ~~~(anyC l))
theorem agree_get (l : List Ir) (i : Nat) (hi : i < 64) : (agreeM l).getLsbD i = ((l.all fun x => x.mask.getLsbD i) && ((l.all fun x => x.code.getLsbD i) || !(l.any fun x => x.code.getLsbD i))) := by
  unfold agreeM allM allC anyC
  rw [BitVec.getLsbD_and, BitVec.getLsbD_or, BitVec.getLsbD_not, fold_and (fun x => x.mask), fold_and (fun x => x.code), fold_or (fun x => x.code)]
  simp only [hi, ones_get i hi, decide_true, Bool.true_and, Bool.false_or, BitVec.getLsbD_zero]
theorem fus_agree (l : List Ir) (need : Int) (hn : 1 ≤ need) (hl : need ≤ l.length) : agreeM l &&& ~~~(fusK (vote l) need 64).mask = 0#64 ∧ (fusK (vote l) need 64).code &&& agreeM l = allC l &&& agreeM l := by
  have key : ∀ i, i < 64 → (agreeM l).getLsbD i = true → (fusK (vote l) need 64).mask.getLsbD i = true ∧ (fusK (vote l) need 64).code.getLsbD i = (allC l).getLsbD i := by
    intro i hi h
    rw [agree_get l i hi, Bool.and_eq_true, Bool.or_eq_true] at h
    have hy : (allC l).getLsbD i = l.all fun x => x.code.getLsbD i := by unfold allC; rw [fold_and (fun x => x.code), ones_get i hi, Bool.true_and]
    rw [fus_mask _ _ i hi, fus_code _ _ i hi, hy]
    rcases h.2 with h2 | h2
    · rw [vote_yes i l h.1 h2, h2]
      simp [hi, hl]
    · have h3 : (l.any fun x => x.code.getLsbD i) = false := by simpa using h2
      rw [vote_no i l h.1 h3]
      have h4 : (l.all fun x => x.code.getLsbD i) = false := by
        cases l with
        | nil => simp at hl; omega
        | cons x r =>
          simp only [List.any_cons, Bool.or_eq_false_iff] at h3
          simp [h3.1]
      rw [h4]
      have h5 : ¬ need ≤ -(l.length : Int) := by omega
      simp [hi, h5]; omega
  constructor
  · apply BitVec.eq_of_getLsbD_eq
    intro i hi
    rw [BitVec.getLsbD_and, BitVec.getLsbD_not]
    cases h : (agreeM l).getLsbD i
    · simp
    · rw [(key i hi h).1]; simp
  · apply BitVec.eq_of_getLsbD_eq
    intro i hi
    rw [BitVec.getLsbD_and, BitVec.getLsbD_and]
    cases h : (agreeM l).getLsbD i
    · simp
    · rw [(key i hi h).2]
theorem fus_more (f : Nat → Int) (need more : Int) (h1 : 1 ≤ need) (h2 : need ≤ more) : (fusK f more 64).mask &&& ~~~(fusK f need 64).mask = 0#64 ∧ (fusK f more 64).code = (fusK f need 64).code &&& (fusK f more 64).mask := by
  constructor
  · apply BitVec.eq_of_getLsbD_eq
    intro i hi
    rw [BitVec.getLsbD_and, BitVec.getLsbD_not, fus_mask _ _ i hi, fus_mask _ _ i hi]
    simp only [hi, decide_true, Bool.true_and, BitVec.getLsbD_zero]
    by_cases h : more ≤ f i ∨ more ≤ -(f i)
    · have h3 : need ≤ f i ∨ need ≤ -(f i) := by omega
      simp [h3]
    · simp [h]
  · apply BitVec.eq_of_getLsbD_eq
    intro i hi
    rw [BitVec.getLsbD_and, fus_mask _ _ i hi, fus_code _ _ i hi, fus_code _ _ i hi]
    simp only [hi, decide_true, Bool.true_and]
    by_cases h : more ≤ f i
    · have h3 : need ≤ f i := by omega
      simp [h, h3]
    · by_cases h3 : need ≤ f i
      · have h4 : ¬ more ≤ -(f i) := by omega
        simp [h, h4]
      · simp [h, h3]
theorem vote_perm {l m : List Ir} (h : l.Perm m) (i : Nat) : vote l i = vote m i := by
  unfold vote
  induction h with
  | nil => rfl
  | cons x _ ih => simp only [List.map_cons, List.sum_cons, ih]
  | swap x y l => simp only [List.map_cons, List.sum_cons]; omega
  | trans _ _ h1 h2 => rw [h1, h2]
theorem all_perm {l m : List Ir} (h : l.Perm m) : allI l = allI m := by
  unfold allI
  induction h with
  | nil => rfl
  | cons x _ ih => simp only [List.all_cons, ih]
  | swap x y l => simp only [List.all_cons]; cases okI x <;> cases okI y <;> rfl
  | trans _ _ h1 h2 => rw [h1, h2]
theorem fuse_perm {l m : List Ir} (h : l.Perm m) (need : Int) : fuseV l need = fuseV m need := by
  unfold fuseV
  have hv : vote l = vote m := by funext i; exact vote_perm h i
  rw [hv, all_perm h, h.length_eq]
theorem fuse_in {l : List Ir} {need : Int} (h1 : 1 ≤ l.length ∧ l.length ≤ 64) (h2 : allI l = true) (h3 : 1 ≤ need ∧ need ≤ 64) : fuseV l need = .tuple #[(fusK (vote l) need 64).val, .int .i64 0] := by
  unfold fuseV
  have e1 : inB (l.length : Int) 1 64 = true := by simp [inB]; omega
  have e2 : inB need 1 64 = true := by simp [inB, h3]
  rw [if_pos e1, if_pos h2, if_pos e2]
theorem fuse_out {l : List Ir} {need : Int} (h : ¬ ((1 ≤ l.length ∧ l.length ≤ 64) ∧ allI l = true ∧ 1 ≤ need ∧ need ≤ 64)) : ∃ e : Int, (e = 4 ∨ e = 30 ∨ e = 2) ∧ fuseV l need = .tuple #[Ir.zero.val, .int .i64 e] := by
  unfold fuseV
  cases h1 : inB (l.length : Int) 1 64
  · exact ⟨4, .inl rfl, rfl⟩
  · cases h2 : allI l
    · exact ⟨30, .inr (.inl rfl), rfl⟩
    · cases h3 : inB need 1 64
      · exact ⟨2, .inr (.inr rfl), rfl⟩
      · exfalso; apply h; simp [inB] at h1 h3; exact ⟨by omega, h2, h3⟩
theorem irs_drop {w : World} {b off : Nat} {l : List Ir} (h : Irs w (some ⟨b, off, none⟩) l) (k : Nat) (hk : k < l.length) : Irs w (some ⟨b, off + k * 2, none⟩) (l.drop k) := by
  rcases h with h | ⟨b', off', hA, hb, hc⟩
  · subst h; simp at hk
  · injection hA with hA; injection hA with h1 h2; subst h1 h2
    refine .inr ⟨b, off + k * 2, rfl, hb, fun j x hx => ?_⟩
    rw [List.getElem?_drop] at hx
    have := hc (k + j) x hx
    rw [show off + k * 2 + j * 2 = off + (k + j) * 2 by omega]
    exact this
theorem irs_take {w : World} {A : Option Addr} {l : List Ir} (h : Irs w A l) (k : Nat) : Irs w A (l.take k) := by
  rcases h with h | ⟨b, off, rfl, hb, hc⟩
  · subst h; exact .inl (by simp)
  · refine .inr ⟨b, off, rfl, hb, fun j x hx => hc j x ?_⟩
    rw [List.getElem?_take] at hx
    split at hx
    · exact hx
    · cases hx
end Go.Proofs.Ytcacbolbedhcoaa
