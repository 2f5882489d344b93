/- The reasons: following; and what the reference returns. -/
import Derived.Test.YtkhmjkhgmggjcaaReason
namespace Go.Proofs.Ytkhmjkhgmggjcaa
open Go.RowKit

set_option maxHeartbeats 1000000 in
theorem valid_any (r : R) (w : World) : Calls Try.prog 46 #[r.val] w fun e w' => e = .returned (.bool (goodB r)) ∧ Ext w w' := by
  go_enter Try.func46, Try.ntmps46
  go_wp2_with (go_at_call 52; refine Calls.same (within_any _ _ _ _) ?_)
  all_goals (go_ret; refine ⟨ret_of ?_, (Ext.refl _).alloc _⟩; simp_all [goodB]; try omega)

theorem packed_any (r : R) (w : World) (hg : goodB r = true) : Calls Try.prog 47 #[r.val] w fun e w' => e = .returned (.int .u64 (packI r)) ∧ Ext w w' := by
  obtain ⟨h1, h2, h3, h4, h5, h6, h7, h8, h9, h10, h11, h12⟩ := (goodB_iff r).1 hg
  go_enter Try.func47, Try.ntmps47
  go_wp2_with fail
  go_ret
  refine ⟨ret_of ?_, (Ext.refl _).alloc _⟩
  rw [show packI r = r.dec + 4 * r.num + 512 * r.den + 65536 * r.lnum + 8388608 * r.lden + 1073741824 * (r.rule + 1) by unfold packI; omega]
  rfl

theorem refPack_any (r : R) (w : World) : Calls Try.prog 17 #[r.val] w fun e w' => e = .returned (packV r) ∧ Ext w w' := by
  cases hg : goodB r
  · have Hv := Lib.hid (show packV r = .tuple #[.int .u64 0, .int .i64 2] by simp [packV, hg])
    go_enter Try.func17, Try.ntmps17
    go_wp2_with (go_at_call 46; refine Calls.ext (valid_any r _) fun z => ?_)
    go_ret2
    exact ⟨ret_of Hv.out.symm, ((Ext.refl _).alloc _).ext _⟩
  · have Hv := Lib.hid (show packV r = .tuple #[.int .u64 (packI r), .int .i64 0] by simp [packV, hg])
    go_enter Try.func17, Try.ntmps17
    go_wp2_with (first | (go_at_call 46; refine Calls.ext (valid_any r _) fun z => ?_) | (go_at_call 47; refine Calls.ext (packed_any r _ hg) fun z => ?_))
    go_ret2
    exact ⟨ret_of Hv.out.symm, (((Ext.refl _).alloc _).ext _).ext _⟩

theorem prod_small {a b : Int} (h0 : 0 ≤ a) (h1 : a ≤ 127) (h2 : 0 ≤ b) (h3 : b ≤ 127) : 0 ≤ a * b ∧ a * b ≤ 16129 :=
  ⟨Int.mul_nonneg h0 h2, by have := Int.mul_le_mul h1 h3 h2 (by omega); omega⟩
theorem unpV_big (x : Int) (hx : 22548578304 ≤ x) : unpV x = .tuple #[rzero.val, .int .i64 2] := by
  have : unpB x = false := by
    simp only [unpB, Bool.and_eq_false_iff]
    cases hg : goodB (unpR x)
    · exact .inl rfl
    · right
      obtain ⟨h1, h2, h3, h4, h5, h6, h7, h8, h9, h10, h11, h12⟩ := (goodB_iff _).1 hg
      simp only [beq_eq_false_iff_ne, packI]
      omega
  simp [unpV, this]
def unpS (x : Int) : R := ⟨x % 4, x / 4 % 128, x / 512 % 128, x / 65536 % 128, x / 8388608 % 128, x / 1073741824 - 1⟩
theorem unpR_small (x : Int) (hx0 : 0 ≤ x) (hx : x < 22548578304) : unpR x = unpS x := by
  simp only [unpR, unpS, R.mk.injEq, true_and]
  omega

/-- what Follows answers: valid? and then -/
def follB (r : R) : Bool := if r.dec = 1 then decide (r.num * r.lden ≤ r.lnum * r.den) else if r.dec = 2 then !decide (r.num * r.lden ≤ r.lnum * r.den) else true
def follV (r : R) : Value := if goodB r then .tuple #[.bool (follB r), .int .i64 0] else .tuple #[.bool false, .int .i64 2]
set_option maxHeartbeats 1000000 in
theorem follows_any (r : R) (w : World) : Calls Try.prog 20 #[r.val] w fun e w' => e = .returned (follV r) ∧ Ext w w' := by
  cases hg : goodB r
  · have Hv := Lib.hid (show follV r = .tuple #[.bool false, .int .i64 2] by simp [follV, hg])
    go_enter Try.func20, Try.ntmps20
    go_wp2_with (go_at_call 43; refine Calls.ext (good_any r _) fun z => ?_)
    go_ret2
    exact ⟨ret_of Hv.out.symm, ((Ext.refl _).alloc _).ext _⟩
  · have Hv := Lib.hid (show follV r = .tuple #[.bool (follB r), .int .i64 0] by simp [follV, hg])
    obtain ⟨h1, h2, h3, h4, h5, h6, h7, h8, h9, h10, h11, h12⟩ := (goodB_iff r).1 hg
    go_enter Try.func20, Try.ntmps20
    obtain ⟨m1, m2⟩ := prod_small h5 h6 h11 h12
    obtain ⟨m3, m4⟩ := prod_small h9 h10 h7 h8
    go_wp2_with (go_at_call 43; refine Calls.ext (good_any r _) fun z => ?_)
    all_goals go_ret2
    · have h : (r.dec == 1) = true := by assumption
      refine ⟨ret_of (Eq.trans ?_ Hv.out.symm), ((Ext.refl _).alloc _).ext _⟩
      rw [show follB r = decide (r.num * r.lden ≤ r.lnum * r.den) by simp_all [follB]]; rfl
    · have h : (r.dec == 1) = false := by assumption
      have h' : (r.dec == 2) = true := by assumption
      refine ⟨ret_of (Eq.trans ?_ Hv.out.symm), ((Ext.refl _).alloc _).ext _⟩
      rw [show follB r = !decide (r.num * r.lden ≤ r.lnum * r.den) by simp_all [follB]]; rfl
    · have h : (r.dec == 1) = false := by assumption
      have h' : (r.dec == 2) = false := by assumption
      refine ⟨ret_of (Eq.trans ?_ Hv.out.symm), ((Ext.refl _).alloc _).ext _⟩
      rw [show follB r = true by simp_all [follB]]; rfl

set_option maxHeartbeats 1000000 in
theorem refFollows_any (r : R) (w : World) : Calls Try.prog 21 #[r.val] w fun e w' => e = .returned (follV r) ∧ Ext w w' := by
  cases hg : goodB r
  · have Hv := Lib.hid (show follV r = .tuple #[.bool false, .int .i64 2] by simp [follV, hg])
    go_enter Try.func21, Try.ntmps21
    go_wp2_with (go_at_call 46; refine Calls.ext (valid_any r _) fun z => ?_)
    go_ret2
    exact ⟨ret_of Hv.out.symm, ((Ext.refl _).alloc _).ext _⟩
  · have Hv := Lib.hid (show follV r = .tuple #[.bool (follB r), .int .i64 0] by simp [follV, hg])
    obtain ⟨h1, h2, h3, h4, h5, h6, h7, h8, h9, h10, h11, h12⟩ := (goodB_iff r).1 hg
    have hd : r.dec = 1 ∨ r.dec = 2 ∨ r.dec = 3 := by omega
    go_enter Try.func21, Try.ntmps21
    obtain ⟨m1, m2⟩ := prod_small h5 h6 h11 h12
    obtain ⟨m3, m4⟩ := prod_small h9 h10 h7 h8
    have HD := Lib.hid hd; clear hd
    go_wp2_with (go_at_call 46; refine Calls.ext (valid_any r _) fun z => ?_)
    all_goals go_ret2
    · have h : r.dec = 3 := by assumption
      refine ⟨ret_of (Eq.trans ?_ Hv.out.symm), ((Ext.refl _).alloc _).ext _⟩
      rw [show follB r = true by simp_all [follB]]; rfl
    · have h : ¬ r.dec = 3 := by assumption
      refine ⟨ret_of (Eq.trans ?_ Hv.out.symm), ((Ext.refl _).alloc _).ext _⟩
      rw [show follB r = ((r.dec == 1) == decide (r.num * r.lden ≤ r.lnum * r.den)) by
        rcases HD.out with e | e | e
        · simp [follB, e]
        · simp [follB, e]
        · exact absurd e h]
      rfl

set_option maxHeartbeats 1000000 in
theorem refUnpack_any (x : Int) (w : World) (hx0 : 0 ≤ x) (hx1 : x < 18446744073709551616) : Calls Try.prog 19 #[.int .u64 x] w fun e w' => e = .returned (unpV x) ∧ Ext w w' := by
  by_cases hx : 22548578304 ≤ x
  · have Hv := Lib.hid (show unpV x = .tuple #[rzero.val, .int .i64 2] from unpV_big x hx)
    go_enter Try.func19, Try.ntmps19
    go_wp2_with fail
    refine bodyPost_ret (v := .tuple #[rzero.val, .int .i64 2]) (by simp [results, Try.results19, go_sem, rzero]) rfl ⟨ret_of Hv.out.symm, (Ext.refl _).alloc _⟩
  · have Hr := Lib.hid (unpR_small x hx0 (by omega))
    cases hg : goodB (unpS x)
    · have Hv := Lib.hid (show unpV x = .tuple #[rzero.val, .int .i64 2] by simp [unpV, unpB, Hr.out, hg])
      go_enter Try.func19, Try.ntmps19
      go_wp2_with (go_at_call 46; refine Calls.ext (valid_any (unpS x) _) fun z => ?_)
      refine bodyPost_ret (v := .tuple #[rzero.val, .int .i64 2]) (by simp [results, Try.results19, go_sem, rzero]) rfl ⟨ret_of Hv.out.symm, ?_⟩
      repeat' (first | with_reducible exact Ext.refl _ | with_reducible refine Ext.alloc ?_ _ | with_reducible refine Ext.ext ?_ _ | with_reducible refine Ext.setCell ?_ (by simp) _)
    · by_cases he : packI (unpS x) = x
      · have Hv := Lib.hid (show unpV x = .tuple #[(unpS x).val, .int .i64 0] by simp [unpV, unpB, Hr.out, hg, he])
        have he' : (packI (unpS x) != x) = false := by simpa using he
        clear he
        go_enter Try.func19, Try.ntmps19
        go_wp2_with (first | (go_at_call 46; refine Calls.ext (valid_any (unpS x) _) fun z => ?_) | (go_at_call 47; refine Calls.ext (packed_any (unpS x) _ hg) fun z => ?_))
        refine bodyPost_ret (v := .tuple #[(unpS x).val, .int .i64 0]) (by simp [results, Try.results19, go_sem, unpS]) rfl ⟨ret_of Hv.out.symm, ?_⟩
        repeat' (first | with_reducible exact Ext.refl _ | with_reducible refine Ext.alloc ?_ _ | with_reducible refine Ext.ext ?_ _ | with_reducible refine Ext.setCell ?_ (by simp) _)
      · have Hv := Lib.hid (show unpV x = .tuple #[rzero.val, .int .i64 2] by simp [unpV, unpB, Hr.out, hg, he])
        have he' : (packI (unpS x) != x) = true := by simpa using he
        clear he
        go_enter Try.func19, Try.ntmps19
        go_wp2_with (first | (go_at_call 46; refine Calls.ext (valid_any (unpS x) _) fun z => ?_) | (go_at_call 47; refine Calls.ext (packed_any (unpS x) _ hg) fun z => ?_))
        refine bodyPost_ret (v := .tuple #[rzero.val, .int .i64 2]) (by simp [results, Try.results19, go_sem, rzero]) rfl ⟨ret_of Hv.out.symm, ?_⟩
        repeat' (first | with_reducible exact Ext.refl _ | with_reducible refine Ext.alloc ?_ _ | with_reducible refine Ext.ext ?_ _ | with_reducible refine Ext.setCell ?_ (by simp) _)
end Go.Proofs.Ytkhmjkhgmggjcaa
