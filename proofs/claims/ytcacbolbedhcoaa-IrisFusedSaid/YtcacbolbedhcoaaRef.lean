/- The reference: bits, moved words, comparisons. -/
import Derived.Test.YtcacbolbedhcoaaBits2
import Derived.Test.YtcacbolbedhcoaaMatch
namespace Go.Proofs.Ytcacbolbedhcoaa
open Go.RowKit

theorem refValid_any (a : Ir) (w : World) : Calls Try.prog 39 #[a.val] w fun e w' => e = .returned (.bool (okI a)) ∧ Ext w w' := by
  go_enter Try.func39, Try.ntmps39
  go_wp2
  go_ret
  exact ⟨rfl, (Ext.refl w).alloc _⟩
theorem refCheck_any (a : Ir) (w : World) : Calls Try.prog 22 #[a.val] w fun e w' => e = .returned (.int .i64 (chkI a)) ∧ Ext w w' := by
  cases h : okI a
  · have Hv := Lib.hid (show chkI a = 30 by simp [chkI, h])
    go_enter Try.func22, Try.ntmps22
    go_wp2_with (go_at_call 39; refine Calls.ext (refValid_any a _) fun z => ?_)
    go_ret
    exact ⟨ret_of (by rw [Hv.out]; rfl), ((Ext.refl w).alloc _).ext _⟩
  · have Hv := Lib.hid (show chkI a = 0 by simp [chkI, h])
    go_enter Try.func22, Try.ntmps22
    go_wp2_with (go_at_call 39; refine Calls.ext (refValid_any a _) fun z => ?_)
    go_ret
    exact ⟨ret_of (by rw [Hv.out]; rfl), ((Ext.refl w).alloc _).ext _⟩
theorem shr_min (x : BitVec 64) (k : Nat) : uw x / 2 ^ min k 64 = uw (x >>> k) := by
  rw [uw_shr]
  congr 1
  by_cases h : k ≤ 64
  · rw [Nat.min_eq_left h]
  · rw [Nat.min_eq_right (by omega), BitVec.ushiftRight_eq_zero (by omega), BitVec.ushiftRight_eq_zero (by omega)]
theorem shl_one (n : Nat) : IntKind.u64.wrap (2 ^ n) = uw (1#64 <<< n) := by
  have h := uw_shl 1#64 n
  have h1 : uw 1#64 = 1 := rfl
  rw [h1, Int.one_mul] at h
  exact h
theorem bit_any (x : BitVec 64) (k : Nat) (w : World) : Calls Try.prog 60 #[.int .u64 (uw x), .int .i64 k] w fun e w' => e = .returned (.bool (x.getLsbD k)) ∧ w = w' := by
  have Hv := Lib.hid (show (bits .and .u64 (uw x / 2 ^ min k 64) 1 == 1) = x.getLsbD k by rw [shr_min, bit_eq, bit_at])
  go_enter Try.func60, Try.ntmps60
  go_wp2
  go_ret
  exact ⟨ret_of (by rw [← Hv.out]; rfl), rfl⟩
set_option maxRecDepth 100000 in
set_option maxHeartbeats 1000000 in
theorem moved_any (x : BitVec 64) (t : Int) (w : World) (ht : -7 ≤ t ∧ t ≤ 7) : Calls Try.prog 64 #[.int .u64 (uw x), .int .i64 t] w fun e w' => e = .returned (.int .u64 (uw (turnW x t))) ∧ w = w' := by
  have Hm := Lib.hid (mov_turn x t)
  go_enter Try.func64, Try.ntmps64
  go_wp2_with fail
  go_loop [5, 6] (fun o i => ∃ k : Nat, k ≤ 64 ∧ i = .int .i64 k ∧ o = .int .u64 (uw (movK x t k))) (fun _ i => 64 - (intOf i).toNat)
  case atStart => exact ⟨0, by omega, rfl, rfl⟩
  case round =>
    obtain ⟨k, hk, rfl, rfl⟩ := hrel
    by_cases hlt : k < 64
    · have hps : ((k : Int) / 16 * 16 + ((k : Int) + t) % 16).toNat = posT k t := by unfold posT; omega
      have Hp := Lib.hid (show IntKind.u64.wrap (2 ^ ((k : Int) / 16 * 16 + ((k : Int) + t) % 16).toNat) = uw (1#64 <<< posT k t) by rw [hps, shl_one])
      clear hps
      cases hb : x.getLsbD k
      · have Hk := Lib.hid (show movK x t (k + 1) = movK x t k by simp [movK, hb])
        have C := Lib.hid (fun w => hb ▸ bit_any x k w)
        clear hb
        go_wp2_with (go_at_call 60; refine Calls.same (C.out _) ?_)
        go_round
        case rel => exact ⟨k + 1, by omega, by go_num, by rw [Hk.out]⟩
        case measure => simp [intOf]; omega
      · have Hk := Lib.hid (show movK x t (k + 1) = movK x t k ||| (1#64 <<< posT k t) by simp [movK, hb])
        have C := Lib.hid (fun w => hb ▸ bit_any x k w)
        clear hb
        go_wp2_with (go_at_call 60; refine Calls.same (C.out _) ?_)
        go_round
        case rel => exact ⟨k + 1, by omega, by go_num, by rw [Hk.out, Hp.out, uw_or]⟩
        case measure => simp [intOf]; omega
    · obtain rfl : k = 64 := by omega
      go_wp2_with fail
      go_ret
      exact ⟨ret_of (by rw [← Hm.out]; rfl), rfl⟩
set_option maxRecDepth 100000 in
set_option maxHeartbeats 1000000 in
theorem Turned_any (a : Ir) (t : Int) (w : World) (ht : -7 ≤ t ∧ t ≤ 7) : Calls Try.prog 49 #[a.val, .int .i64 t] w fun e w' => e = .returned (turnI' a t).val ∧ Ext w w' := by
  go_enter Try.func49, Try.ntmps49
  go_wp2_with fail
  refine wp_region_tail 9 (by kernel_rfl) (by kernel_rfl) ?_
  simp only [List.take_succ_cons, List.take_zero, List.drop_succ_cons, List.drop_zero]
  repeat still_step
  still_call ((moved_any _ _ _ ht).mono fun _ _ ⟨h1, h2⟩ => ⟨h1, h2.symm⟩)
  repeat still_step
  still_call ((moved_any _ _ _ ht).mono fun _ _ ⟨h1, h2⟩ => ⟨h1, h2.symm⟩)
  repeat still_step
  refine wpStill_nil ?_
  go_wp2_with fail
  refine bodyPost_ret (v := (turnI' a t).val) (by simp [results, Try.results49, go_sem, turnI']) rfl ⟨rfl, ?_⟩
  repeat' (first | with_reducible exact Ext.refl _ | with_reducible refine Ext.drew ?_ | with_reducible refine Ext.alloc ?_ _ | with_reducible refine Ext.ext ?_ _ | with_reducible refine Ext.setCell ?_ (by simp) _)
set_option maxRecDepth 100000 in
set_option maxHeartbeats 1000000 in
theorem refTurn_any (a : Ir) (t : Int) (w : World) : Calls Try.prog 24 #[a.val, .int .i64 t] w fun e w' => e = .returned (turnV a t) ∧ Ext w w' := by
  cases ho : okI a
  · have Hv := Lib.hid (show turnV a t = .tuple #[Ir.zero.val, .int .i64 30] by simp [turnV, ho])
    go_enter Try.func24, Try.ntmps24
    go_wp2_with (go_at_call 39; refine Calls.ext (refValid_any a _) fun z => ?_)
    refine bodyPost_ret (v := .tuple #[Ir.zero.val, .int .i64 30]) (by simp [results, Try.results24, go_sem, Ir.zero, uw_zero]) rfl ⟨ret_of Hv.out.symm, ?_⟩
    repeat' (first | with_reducible exact Ext.refl _ | with_reducible refine Ext.drew ?_ | with_reducible refine Ext.alloc ?_ _ | with_reducible refine Ext.ext ?_ _ | with_reducible refine Ext.setCell ?_ (by simp) _)
  · cases hb : inB t (-7) 7
    · have Hv := Lib.hid (show turnV a t = .tuple #[Ir.zero.val, .int .i64 2] by simp [turnV, ho, hb])
      go_enter Try.func24, Try.ntmps24
      go_wp2_with (first | (go_at_call 39; refine Calls.ext (refValid_any a _) fun z => ?_) | (go_at_call 46; refine Calls.same (refWithin_any _ _ _ _) ?_))
      refine bodyPost_ret (v := .tuple #[Ir.zero.val, .int .i64 2]) (by simp [results, Try.results24, go_sem, Ir.zero, uw_zero]) rfl ⟨ret_of Hv.out.symm, ?_⟩
      repeat' (first | with_reducible exact Ext.refl _ | with_reducible refine Ext.drew ?_ | with_reducible refine Ext.alloc ?_ _ | with_reducible refine Ext.ext ?_ _ | with_reducible refine Ext.setCell ?_ (by simp) _)
    · have Hv := Lib.hid (show turnV a t = .tuple #[(turnI' a t).val, .int .i64 0] by simp [turnV, ho, hb])
      have ht : -7 ≤ t ∧ t ≤ 7 := by simpa [inB] using hb
      go_enter Try.func24, Try.ntmps24
      go_wp2_with (first | (go_at_call 39; refine Calls.ext (refValid_any a _) fun z => ?_) | (go_at_call 46; refine Calls.same (refWithin_any _ _ _ _) ?_) | (go_at_call 49; refine Calls.ext (Turned_any a t _ ht) fun z2 => ?_))
      refine bodyPost_ret (v := .tuple #[(turnI' a t).val, .int .i64 0]) (by simp [results, Try.results24, go_sem]) rfl ⟨ret_of Hv.out.symm, ?_⟩
      repeat' (first | with_reducible exact Ext.refl _ | with_reducible refine Ext.drew ?_ | with_reducible refine Ext.alloc ?_ _ | with_reducible refine Ext.ext ?_ _ | with_reducible refine Ext.setCell ?_ (by simp) _)
end Go.Proofs.Ytcacbolbedhcoaa
