/- The reasons: packing, unpacking (the program). -/
import Derived.Test.YtkhmjkhgmggjcaaLeaf
import Derived.Test.YtkhmjkhgmggjcaaBits
import Derived.StillTailTactics
namespace Go.Proofs.Ytkhmjkhgmggjcaa
open Go.RowKit

/-- A reason. -/
structure R where
  dec : Int
  num : Int
  den : Int
  lnum : Int
  lden : Int
  rule : Int
abbrev R.val (r : R) : Value := .agg #[.int .u8 r.dec, .int .i64 r.num, .int .i64 r.den, .int .i64 r.lnum, .int .i64 r.lden, .int .i64 r.rule]

def goodB (r : R) : Bool := decide (1 ≤ r.dec) && decide (r.dec ≤ 3) && fromB (-1) 19 r.rule && fromB 0 127 r.num && fromB 0 127 r.den && fromB 0 127 r.lnum && fromB 0 127 r.lden

theorem goodB_iff (r : R) : goodB r = true ↔ 1 ≤ r.dec ∧ r.dec ≤ 3 ∧ -1 ≤ r.rule ∧ r.rule ≤ 19 ∧ 0 ≤ r.num ∧ r.num ≤ 127 ∧ 0 ≤ r.den ∧ r.den ≤ 127 ∧ 0 ≤ r.lnum ∧ r.lnum ≤ 127 ∧ 0 ≤ r.lden ∧ r.lden ≤ 127 := by
  simp only [goodB, fromB, Bool.and_eq_true, decide_eq_true_eq, and_assoc]

set_option maxHeartbeats 1000000 in
theorem good_any (r : R) (w : World) : Calls Try.prog 43 #[r.val] w fun e w' => e = .returned (.bool (goodB r)) ∧ Ext w w' := by
  go_enter Try.func43, Try.ntmps43
  go_wp2_with (go_at_call 51; refine Calls.same (from_any _ _ _ _) ?_)
  any_goals (go_ret; refine ⟨ret_of ?_, (Ext.refl _).alloc _⟩; simp_all [goodB]; try omega)
  refine wp_loop_rounds 5 ?_
  iterate 5 (all_goals try (rw [rounds_succ]; go_wp2_with (go_at_call 51; refine Calls.same (from_any _ _ _ _) ?_)))
  all_goals go_ret
  all_goals exact ⟨ret_of (by simp_all [goodB]), ((Ext.refl _).alloc _).alloc _⟩

theorem numbers_any (r : R) (w : World) (hg : goodB r = true) : Calls Try.prog 44 #[r.val] w fun e w' => e = .returned (.agg #[.int .i64 r.dec, .int .i64 r.num, .int .i64 r.den, .int .i64 r.lnum, .int .i64 r.lden, .int .i64 (r.rule + 1)]) ∧ Ext w w' := by
  obtain ⟨h1, h2, h3, h4, h5, h6, h7, h8, h9, h10, h11, h12⟩ := (goodB_iff r).1 hg
  clear hg
  go_enter Try.func44, Try.ntmps44
  go_wp2_with fail
  exact bodyPost_ret (v := .agg #[.int .i64 r.dec, .int .i64 r.num, .int .i64 r.den, .int .i64 r.lnum, .int .i64 r.lden, .int .i64 (r.rule + 1)]) (by simp [results, Try.results44, go_sem]) rfl ⟨rfl, ((Ext.refl _).alloc _).alloc _⟩
theorem fields_arr (w : World) : Calls Try.prog 45 #[] w fun e w' => e = .returned (.agg #[.int .i64 0, .int .i64 2, .int .i64 2, .int .i64 7, .int .i64 9, .int .i64 7, .int .i64 16, .int .i64 7, .int .i64 23, .int .i64 7, .int .i64 30, .int .i64 5]) ∧ Ext w w' := by
  go_enter Try.func45, Try.ntmps45
  go_wp2_with fail
  exact bodyPost_ret (v := .agg #[.int .i64 0, .int .i64 2, .int .i64 2, .int .i64 7, .int .i64 9, .int .i64 7, .int .i64 16, .int .i64 7, .int .i64 23, .int .i64 7, .int .i64 30, .int .i64 5]) (by simp [results, Try.results45, go_sem]) rfl ⟨rfl, (Ext.refl _).alloc _⟩

theorem fidx0 (w : World) : (Instr.index 84 (.agg #[.int .i64 0, .int .i64 2, .int .i64 2, .int .i64 7, .int .i64 9, .int .i64 7, .int .i64 16, .int .i64 7, .int .i64 23, .int .i64 7, .int .i64 30, .int .i64 5]) (.int .i64 0)).run Try.prog w = .ok (.agg #[.int .i64 0, .int .i64 2]) w := by kernel_rfl
theorem fidx1 (w : World) : (Instr.index 84 (.agg #[.int .i64 0, .int .i64 2, .int .i64 2, .int .i64 7, .int .i64 9, .int .i64 7, .int .i64 16, .int .i64 7, .int .i64 23, .int .i64 7, .int .i64 30, .int .i64 5]) (.int .i64 1)).run Try.prog w = .ok (.agg #[.int .i64 2, .int .i64 7]) w := by kernel_rfl
theorem fidx2 (w : World) : (Instr.index 84 (.agg #[.int .i64 0, .int .i64 2, .int .i64 2, .int .i64 7, .int .i64 9, .int .i64 7, .int .i64 16, .int .i64 7, .int .i64 23, .int .i64 7, .int .i64 30, .int .i64 5]) (.int .i64 2)).run Try.prog w = .ok (.agg #[.int .i64 9, .int .i64 7]) w := by kernel_rfl
theorem fidx3 (w : World) : (Instr.index 84 (.agg #[.int .i64 0, .int .i64 2, .int .i64 2, .int .i64 7, .int .i64 9, .int .i64 7, .int .i64 16, .int .i64 7, .int .i64 23, .int .i64 7, .int .i64 30, .int .i64 5]) (.int .i64 3)).run Try.prog w = .ok (.agg #[.int .i64 16, .int .i64 7]) w := by kernel_rfl
theorem fidx4 (w : World) : (Instr.index 84 (.agg #[.int .i64 0, .int .i64 2, .int .i64 2, .int .i64 7, .int .i64 9, .int .i64 7, .int .i64 16, .int .i64 7, .int .i64 23, .int .i64 7, .int .i64 30, .int .i64 5]) (.int .i64 4)).run Try.prog w = .ok (.agg #[.int .i64 23, .int .i64 7]) w := by kernel_rfl
theorem fidx5 (w : World) : (Instr.index 84 (.agg #[.int .i64 0, .int .i64 2, .int .i64 2, .int .i64 7, .int .i64 9, .int .i64 7, .int .i64 16, .int .i64 7, .int .i64 23, .int .i64 7, .int .i64 30, .int .i64 5]) (.int .i64 5)).run Try.prog w = .ok (.agg #[.int .i64 30, .int .i64 5]) w := by kernel_rfl
def packI (r : R) : Int := r.dec + r.num * 4 + r.den * 512 + r.lnum * 65536 + r.lden * 8388608 + (r.rule + 1) * 1073741824

theorem pack_or (r : R) (hg : goodB r = true) : bits .or .u64 (bits .or .u64 (bits .or .u64 (bits .or .u64 (bits .or .u64 (bits .or .u64 0 r.dec) (r.num * 4)) (r.den * 512)) (r.lnum * 65536)) (r.lden * 8388608)) ((r.rule + 1) * 1073741824) = packI r := by
  obtain ⟨h1, h2, h3, h4, h5, h6, h7, h8, h9, h10, h11, h12⟩ := (goodB_iff r).1 hg
  rw [or_join 0 0 r.dec (by omega) (by omega) (by omega) (by omega) (by omega) (by omega), or_join 2 _ (r.num * 4) (by omega) (by omega) (by omega) (by omega) (by omega) (by omega),
    or_join 9 _ (r.den * 512) (by omega) (by omega) (by omega) (by omega) (by omega) (by omega), or_join 16 _ (r.lnum * 65536) (by omega) (by omega) (by omega) (by omega) (by omega) (by omega),
    or_join 23 _ (r.lden * 8388608) (by omega) (by omega) (by omega) (by omega) (by omega) (by omega), or_join 30 _ ((r.rule + 1) * 1073741824) (by omega) (by omega) (by omega) (by omega) (by omega) (by omega)]
  unfold packI; omega

set_option maxRecDepth 100000 in
set_option maxHeartbeats 1000000 in
theorem pack_good (r : R) (w : World) (hg : goodB r = true) : Calls Try.prog 16 #[r.val] w fun e w' => e = .returned (.tuple #[.int .u64 (packI r), .int .i64 0]) ∧ Ext w w' := by
  go_enter Try.func16, Try.ntmps16
  go_wp2_with (go_at_call 43; refine Calls.ext (good_any r _) fun z => ?_)
  refine Calls.ext (numbers_any r _ hg) fun z => ?_
  obtain ⟨h1, h2, h3, h4, h5, h6, h7, h8, h9, h10, h11, h12⟩ := (goodB_iff r).1 hg
  go_wp2_with (go_at_call 45; refine Calls.ext (fields_arr _) fun z => ?_)
  have i0 := fidx0
  have i1 := fidx1
  have i2 := fidx2
  have i3 := fidx3
  have i4 := fidx4
  have i5 := fidx5
  refine wp_loop_rounds 7 ?_
  iterate 6
    rw [rounds_succ]
    go_wp2_with fail
    refine wp_region_ext (by kernel_rfl) (by kernel_rfl) ?_
    repeat (go_big_quiet_step (fail))
    refine wpQuiet_nil ?_
    rintro _ ⟨z2, rfl⟩
    go_wp2_with fail
  rw [rounds_succ]
  go_wp2_with fail
  refine bodyPost_ret (results_tmp2 rfl _ _ _) rfl ?_
  clear i0 i1 i2 i3 i4 i5
  refine ⟨ret_of ?_, ?_⟩
  · rw [← pack_or r hg]; rfl
  · repeat' (first | exact Ext.refl _ | refine Ext.alloc ?_ _ | refine Ext.ext ?_ _)
theorem pack_bad (r : R) (w : World) (hg : goodB r = false) : Calls Try.prog 16 #[r.val] w fun e w' => e = .returned (.tuple #[.int .u64 0, .int .i64 2]) ∧ Ext w w' := by
  go_enter Try.func16, Try.ntmps16
  go_wp2_with (go_at_call 43; refine Calls.ext (good_any r _) fun z => ?_)
  refine bodyPost_ret (results_tmp2 rfl _ _ _) rfl ?_
  exact ⟨rfl, ((Ext.refl _).alloc _).ext _⟩
def packV (r : R) : Value := if goodB r then .tuple #[.int .u64 (packI r), .int .i64 0] else .tuple #[.int .u64 0, .int .i64 2]
theorem pack_any (r : R) (w : World) : Calls Try.prog 16 #[r.val] w fun e w' => e = .returned (packV r) ∧ Ext w w' := by
  cases hg : goodB r
  · simpa [packV, hg] using pack_bad r w hg
  · simpa [packV, hg] using pack_good r w hg

def rzero : R := ⟨0, 0, 0, 0, 0, 0⟩
def unpR (x : Int) : R := ⟨x % 4, x / 4 % 128, x / 512 % 128, x / 65536 % 128, x / 8388608 % 128, x / 1073741824 % 32 - 1⟩
/-- whether x packs a reason -/
def unpB (x : Int) : Bool := goodB (unpR x) && packI (unpR x) == x

theorem unp_bits (x : Int) (j : Nat) (hx0 : 0 ≤ x) (hx1 : x < 18446744073709551616) (hj : j ≤ 7) : wrap64 (bits .and .u64 x (2 ^ j - 1)) = x % 2 ^ j := by
  rw [and_mask j x hx0 hx1 (by omega)]
  have hp : (2 : Int) ^ j ≤ 2 ^ 7 := by
    have : (2 : Nat) ^ j ≤ 2 ^ 7 := Nat.pow_le_pow_right (by omega) hj
    exact_mod_cast this
  have h0 : (0 : Int) < 2 ^ j := by
    have : (0 : Nat) < 2 ^ j := Nat.two_pow_pos j
    exact_mod_cast this
  have h1 := Int.emod_nonneg x (show (2 : Int) ^ j ≠ 0 by omega)
  have h2 := Int.emod_lt_of_pos x h0
  unfold wrap64; omega
def unpArr (x : Int) : Nat → Array Value
  | 0 => #[.int .i64 0, .int .i64 0, .int .i64 0, .int .i64 0, .int .i64 0, .int .i64 0]
  | 1 => #[.int .i64 (x % 4), .int .i64 0, .int .i64 0, .int .i64 0, .int .i64 0, .int .i64 0]
  | 2 => #[.int .i64 (x % 4), .int .i64 (x / 4 % 128), .int .i64 0, .int .i64 0, .int .i64 0, .int .i64 0]
  | 3 => #[.int .i64 (x % 4), .int .i64 (x / 4 % 128), .int .i64 (x / 512 % 128), .int .i64 0, .int .i64 0, .int .i64 0]
  | 4 => #[.int .i64 (x % 4), .int .i64 (x / 4 % 128), .int .i64 (x / 512 % 128), .int .i64 (x / 65536 % 128), .int .i64 0, .int .i64 0]
  | 5 => #[.int .i64 (x % 4), .int .i64 (x / 4 % 128), .int .i64 (x / 512 % 128), .int .i64 (x / 65536 % 128), .int .i64 (x / 8388608 % 128), .int .i64 0]
  | _ => #[.int .i64 (x % 4), .int .i64 (x / 4 % 128), .int .i64 (x / 512 % 128), .int .i64 (x / 65536 % 128), .int .i64 (x / 8388608 % 128), .int .i64 (x / 1073741824 % 32)]

def unpV (x : Int) : Value := if unpB x then .tuple #[(unpR x).val, .int .i64 0] else .tuple #[rzero.val, .int .i64 2]

set_option maxRecDepth 100000 in
set_option maxHeartbeats 2000000 in
theorem unpack_any (x : Int) (w : World) (hx0 : 0 ≤ x) (hx1 : x < 18446744073709551616) : Calls Try.prog 18 #[.int .u64 x] w fun e w' => e = .returned (unpV x) ∧ Ext w w' := by
  go_enter Try.func18, Try.ntmps18
  go_wp2_with (go_at_call 45; refine Calls.ext (fields_arr _) fun z => ?_)
  go_loopw [11] (fun i wr => ∃ (k : Nat) (z : World), k ≤ 6 ∧ i = .int .i64 k ∧ wr = ext (w.alloc (.cells #[.int .u8 0, .int .i64 0, .int .i64 0, .int .i64 0, .int .i64 0, .int .i64 0] 23)) z ∧ Blk wr (w.heap.size + 1) 80 (unpArr x k))
      (fun i _ => 6 - (intOf i).toNat)
  case atStart => exact ⟨0, _, by omega, rfl, (ext_of (((Ext.refl _).alloc _).ext _)).symm, Blk.ext (by have := Blk.new (w.alloc (.cells #[.int .u8 0, .int .i64 0, .int .i64 0, .int .i64 0, .int .i64 0, .int .i64 0] 23)) 80 (unpArr x 0); simpa [unpArr] using this) _⟩
  case round =>
    obtain ⟨k, z, hk, rfl, rfl, hB⟩ := hrel
    have hz := Old.mk hB.lt
    have h0 := hB.cell 0
    have h1 := hB.cell 1
    have h2 := hB.cell 2
    have h3 := hB.cell 3
    have h4 := hB.cell 4
    have h5 := hB.cell 5
    have hF := hB.frozen
    have HB := Lib.hid hB; clear hB
    by_cases hlt : k < 6
    · have hk' : k = 0 ∨ k = 1 ∨ k = 2 ∨ k = 3 ∨ k = 4 ∨ k = 5 := by omega
      rcases hk' with rfl | rfl | rfl | rfl | rfl | rfl
      all_goals simp only [unpArr, List.getElem?_toArray, List.getElem?_cons_zero, List.getElem?_cons_succ] at h0 h1 h2 h3 h4 h5
      · have j0 := fidx0
        go_wp2_with fail
        refine wp_region_tail 12 (by kernel_rfl) (by kernel_rfl) ?_
        simp only [List.take_succ_cons, List.take_zero, List.drop_succ_cons, List.drop_zero]
        repeat still_step
        refine wpStill_nil ?_
        go_wp2_with fail
        have e0 : wrap64 (bits .and .u64 x 3) = x % 4 := unp_bits x 2 (by omega) (by omega) (by omega)
        refine ⟨⟨1, _, by omega, rfl, (ext_of ((((Ext.ext_self _ z).alloc _).setCell (by simp) _).drew)).symm, ?_⟩, by simp [intOf]⟩
        rw [e0]
        have := ((HB.out.alloc (.cells #[.int .i64 0, .int .i64 2] 83)).set_ 0 (.int .i64 (x % 4))).drew
        simpa [unpArr] using this
      · have j1 := fidx1
        go_wp2_with fail
        refine wp_region_tail 12 (by kernel_rfl) (by kernel_rfl) ?_
        simp only [List.take_succ_cons, List.take_zero, List.drop_succ_cons, List.drop_zero]
        repeat still_step
        refine wpStill_nil ?_
        go_wp2_with fail
        have e1 : wrap64 (bits .and .u64 (x / 4) 127) = (x / 4) % 128 := unp_bits (x / 4) 7 (by omega) (by omega) (by omega)
        refine ⟨⟨2, _, by omega, rfl, (ext_of ((((Ext.ext_self _ z).alloc _).setCell (by simp) _).drew)).symm, ?_⟩, by simp [intOf]⟩
        rw [e1]
        have := ((HB.out.alloc (.cells #[.int .i64 2, .int .i64 7] 83)).set_ 1 (.int .i64 ((x / 4) % 128))).drew
        simpa [unpArr] using this
      · have j2 := fidx2
        go_wp2_with fail
        refine wp_region_tail 12 (by kernel_rfl) (by kernel_rfl) ?_
        simp only [List.take_succ_cons, List.take_zero, List.drop_succ_cons, List.drop_zero]
        repeat still_step
        refine wpStill_nil ?_
        go_wp2_with fail
        have e2 : wrap64 (bits .and .u64 (x / 512) 127) = (x / 512) % 128 := unp_bits (x / 512) 7 (by omega) (by omega) (by omega)
        refine ⟨⟨3, _, by omega, rfl, (ext_of ((((Ext.ext_self _ z).alloc _).setCell (by simp) _).drew)).symm, ?_⟩, by simp [intOf]⟩
        rw [e2]
        have := ((HB.out.alloc (.cells #[.int .i64 9, .int .i64 7] 83)).set_ 2 (.int .i64 ((x / 512) % 128))).drew
        simpa [unpArr] using this
      · have j3 := fidx3
        go_wp2_with fail
        refine wp_region_tail 12 (by kernel_rfl) (by kernel_rfl) ?_
        simp only [List.take_succ_cons, List.take_zero, List.drop_succ_cons, List.drop_zero]
        repeat still_step
        refine wpStill_nil ?_
        go_wp2_with fail
        have e3 : wrap64 (bits .and .u64 (x / 65536) 127) = (x / 65536) % 128 := unp_bits (x / 65536) 7 (by omega) (by omega) (by omega)
        refine ⟨⟨4, _, by omega, rfl, (ext_of ((((Ext.ext_self _ z).alloc _).setCell (by simp) _).drew)).symm, ?_⟩, by simp [intOf]⟩
        rw [e3]
        have := ((HB.out.alloc (.cells #[.int .i64 16, .int .i64 7] 83)).set_ 3 (.int .i64 ((x / 65536) % 128))).drew
        simpa [unpArr] using this
      · have j4 := fidx4
        go_wp2_with fail
        refine wp_region_tail 12 (by kernel_rfl) (by kernel_rfl) ?_
        simp only [List.take_succ_cons, List.take_zero, List.drop_succ_cons, List.drop_zero]
        repeat still_step
        refine wpStill_nil ?_
        go_wp2_with fail
        have e4 : wrap64 (bits .and .u64 (x / 8388608) 127) = (x / 8388608) % 128 := unp_bits (x / 8388608) 7 (by omega) (by omega) (by omega)
        refine ⟨⟨5, _, by omega, rfl, (ext_of ((((Ext.ext_self _ z).alloc _).setCell (by simp) _).drew)).symm, ?_⟩, by simp [intOf]⟩
        rw [e4]
        have := ((HB.out.alloc (.cells #[.int .i64 23, .int .i64 7] 83)).set_ 4 (.int .i64 ((x / 8388608) % 128))).drew
        simpa [unpArr] using this
      · have j5 := fidx5
        go_wp2_with fail
        refine wp_region_tail 12 (by kernel_rfl) (by kernel_rfl) ?_
        simp only [List.take_succ_cons, List.take_zero, List.drop_succ_cons, List.drop_zero]
        repeat still_step
        refine wpStill_nil ?_
        go_wp2_with fail
        have e5 : wrap64 (bits .and .u64 (x / 1073741824) 31) = (x / 1073741824) % 32 := unp_bits (x / 1073741824) 5 (by omega) (by omega) (by omega)
        refine ⟨⟨6, _, by omega, rfl, (ext_of ((((Ext.ext_self _ z).alloc _).setCell (by simp) _).drew)).symm, ?_⟩, by simp [intOf]⟩
        rw [e5]
        have := ((HB.out.alloc (.cells #[.int .i64 30, .int .i64 5] 83)).set_ 5 (.int .i64 ((x / 1073741824) % 32))).drew
        simpa [unpArr] using this
    · obtain rfl : k = 6 := by omega
      simp only [unpArr, List.getElem?_toArray, List.getElem?_cons_zero, List.getElem?_cons_succ] at h0 h1 h2 h3 h4 h5
      go_wp2_with fail
      cases hg : goodB (unpR x)
      · have Hv := Lib.hid (show unpV x = .tuple #[rzero.val, .int .i64 2] by simp [unpV, unpB, hg])
        refine Calls.ext (pack_bad (unpR x) _ hg) fun z1 => ?_
        go_wp2_with fail
        refine bodyPost_ret (v := .tuple #[rzero.val, .int .i64 2]) (by simp [results, Try.results18, go_sem, rzero]) rfl ⟨ret_of Hv.out.symm, ?_⟩
        exact ((((((((Ext.refl w).alloc _).ext z).alloc _).ext z1)))).setCell (by simp) _ |>.setCell (by simp) _ |>.setCell (by simp) _ |>.setCell (by simp) _ |>.setCell (by simp) _ |>.setCell (by simp) _
      · by_cases he : packI (unpR x) = x
        · have Hv := Lib.hid (show unpV x = .tuple #[(unpR x).val, .int .i64 0] by simp [unpV, unpB, hg, he])
          have he' : (packI (unpR x) != x) = false := by simpa using he
          clear he
          refine Calls.ext (pack_good (unpR x) _ hg) fun z1 => ?_
          go_wp2_with fail
          refine bodyPost_ret (v := .tuple #[(unpR x).val, .int .i64 0]) (by simp [results, Try.results18, go_sem, unpR]) rfl ⟨ret_of Hv.out.symm, ?_⟩
          exact ((((((((Ext.refl w).alloc _).ext z).alloc _).ext z1)))).setCell (by simp) _ |>.setCell (by simp) _ |>.setCell (by simp) _ |>.setCell (by simp) _ |>.setCell (by simp) _ |>.setCell (by simp) _
        · have Hv := Lib.hid (show unpV x = .tuple #[rzero.val, .int .i64 2] by simp [unpV, unpB, hg, he])
          have he' : (packI (unpR x) != x) = true := by simpa using he
          clear he
          refine Calls.ext (pack_good (unpR x) _ hg) fun z1 => ?_
          go_wp2_with fail
          refine bodyPost_ret (v := .tuple #[rzero.val, .int .i64 2]) (by simp [results, Try.results18, go_sem, rzero]) rfl ⟨ret_of Hv.out.symm, ?_⟩
          exact ((((((((Ext.refl w).alloc _).ext z).alloc _).ext z1)))).setCell (by simp) _ |>.setCell (by simp) _ |>.setCell (by simp) _ |>.setCell (by simp) _ |>.setCell (by simp) _ |>.setCell (by simp) _
end Go.Proofs.Ytkhmjkhgmggjcaa
