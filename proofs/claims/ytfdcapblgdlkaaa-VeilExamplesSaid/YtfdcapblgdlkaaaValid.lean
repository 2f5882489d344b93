/- Keys: which are valid. -/
import Derived.Test.YtfdcapblgdlkaaaLeaf
namespace Go.Proofs.Ytfdcapblgdlkaaa
open Go.RowKit

def okK (k : K) : Bool := inB k.bits 1 15 && inB k.perm 0 ((factN k.bits.toNat : Int) - 1) && fitB k.bits.toNat k.pad
def chkK (k : K) : Int := if okK k then 0 else 60
theorem ok_parts {k : K} (h : okK k = true) : (1 ≤ k.bits ∧ k.bits ≤ 15) ∧ (0 ≤ k.perm ∧ k.perm < factN k.bits.toNat) ∧ k.pad.toNat < 2 ^ k.bits.toNat := by
  simp [okK, inB, fitB] at h
  omega
set_option maxRecDepth 100000 in
set_option maxHeartbeats 2000000 in
theorem check_any (k : K) (w : World) : Calls Try.prog 30 #[k.val] w fun e w' => e = .returned (.int .i64 (chkK k)) ∧ Ext w w' := by
  have C : Hid (∀ w, Calls Try.prog 54 #[.int .i64 0] w fun e w' => e = .returned (.int .i64 0) ∧ w = w' ∨ True) := Lib.hid fun w => (fact_any 0 (by omega) w).mono fun _ _ _ => .inr trivial
  clear C
  have hx := uv_lt k.pad
  by_cases h1 : k.bits < 1
  · have Hv := Lib.hid (show chkK k = 60 by unfold chkK okK; rw [show inB k.bits 1 15 = false by simp [inB]; omega]; rfl)
    have C := Lib.hid trivial
    have b1 : decide (k.bits < 1) = true := by simp; omega
    clear C
    go_enter Try.func30, Try.ntmps30
    go_wp2_with fail
    refine wp_region_ext (by kernel_rfl) (by kernel_rfl) ?_
    repeat (go_big_quiet_step (fail))
    refine wpQuiet_nil ?_
    rintro _ ⟨z, rfl⟩
    go_wp2_with fail
    go_ret
    exact ⟨ret_of (by rw [Hv.out]; rfl), ((Ext.refl w).alloc _).ext z⟩
  have b1 : decide (k.bits < 1) = false := by simp; omega
  by_cases h2 : 15 < k.bits
  · have Hv := Lib.hid (show chkK k = 60 by unfold chkK okK; rw [show inB k.bits 1 15 = false by simp [inB]; omega]; rfl)
    have b2 : decide (15 < k.bits) = true := by simp; omega
    go_enter Try.func30, Try.ntmps30
    go_wp2_with fail
    refine wp_region_ext (by kernel_rfl) (by kernel_rfl) ?_
    repeat (go_big_quiet_step (fail))
    refine wpQuiet_nil ?_
    rintro _ ⟨z, rfl⟩
    go_wp2_with fail
    go_ret
    exact ⟨ret_of (by rw [Hv.out]; rfl), ((Ext.refl w).alloc _).ext z⟩
  have b2 : decide (15 < k.bits) = false := by simp; omega
  by_cases h3 : k.perm < 0
  · have Hv := Lib.hid (show chkK k = 60 by unfold chkK okK; rw [show inB k.perm 0 ((factN k.bits.toNat : Int) - 1) = false by simp [inB]; omega]; simp)
    have b3 : decide (k.perm < 0) = true := by simp; omega
    go_enter Try.func30, Try.ntmps30
    go_wp2_with fail
    refine wp_region_ext (by kernel_rfl) (by kernel_rfl) ?_
    repeat (go_big_quiet_step (fail))
    refine wpQuiet_nil ?_
    rintro _ ⟨z, rfl⟩
    go_wp2_with fail
    go_ret
    exact ⟨ret_of (by rw [Hv.out]; rfl), ((Ext.refl w).alloc _).ext z⟩
  have b3 : decide (k.perm < 0) = false := by simp; omega
  obtain ⟨bits, perm, pad⟩ := k
  simp only at *
  obtain ⟨n, rfl⟩ := Int.eq_ofNat_of_zero_le (show 0 ≤ bits by omega)
  have hn15 : n ≤ 15 := by omega
  have C := Lib.hid (fact_any n hn15)
  have hs := shl_i64 n hn15
  have hpw : 2 ^ n ≤ 2 ^ 15 := Nat.pow_le_pow_right (by omega) hn15
  have hfl := fact_le n (by omega)
  have hb64 : (n : Int) < 64 := by omega
  have b1' : decide (n < 1) = false := by simp; omega
  have b2' : decide (15 < n) = false := by simp; omega
  have hok : okK ⟨n, perm, pad⟩ = (decide (perm < factN n) && decide (uv pad < ((2 ^ n : Nat) : Int))) := by
    unfold okK fitB uv
    simp only [Int.toNat_natCast, Int.ofNat_lt]
    rw [show inB (n : Int) 1 15 = true by simp [inB]; omega]
    have : inB perm 0 ((factN n : Int) - 1) = decide (perm < factN n) := by
      unfold inB
      rw [show decide (0 ≤ perm) = true by simp; omega, Bool.true_and]
      congr 1
      apply propext
      omega
    rw [this]; rfl
  have Hc := Lib.hid (show chkK ⟨n, perm, pad⟩ = if okK ⟨n, perm, pad⟩ then 0 else 60 from rfl)
  generalize chkK ⟨n, perm, pad⟩ = ck at *
  generalize okK ⟨n, perm, pad⟩ = ok at *
  generalize factN n = F at *
  generalize 2 ^ n = N at *
  have hyy : IntKind.i64.wrap (uv pad) = uv pad := IntWalk.i64_in _ (by omega)
  have hyw : wrap64 (uv pad) = uv pad := by rwa [IntWalk.i64_left] at hyy
  by_cases h4 : (F : Int) ≤ perm
  · have Hv : Hid (ck = 60) := Lib.hid (by rw [Hc.out, hok, show decide (perm < (F : Int)) = false by simp; omega]; rfl)
    have b4 : decide ((F : Int) ≤ perm) = true := by simp; omega
    clear hok Hc
    go_enter Try.func30, Try.ntmps30
    go_wp2_with fail
    refine wp_region_ext (by kernel_rfl) (by kernel_rfl) ?_
    repeat (go_big_quiet_step ((go_at_call 54; exact Calls.quiet_same (C.out _))))
    refine wpQuiet_nil ?_
    rintro _ ⟨z, rfl⟩
    go_wp2_with fail
    go_ret
    exact ⟨ret_of (by rw [Hv.out]; rfl), ((Ext.refl w).alloc _).ext z⟩
  have b4 : decide ((F : Int) ≤ perm) = false := by simp; omega
  by_cases h5 : (N : Int) ≤ uv pad
  · have Hv : Hid (ck = 60) := Lib.hid (by rw [Hc.out, hok, show decide (uv pad < (N : Int)) = false by simp; omega]; simp)
    have b5 : decide ((N : Int) ≤ uv pad) = true := by simp; omega
    clear hok Hc
    go_enter Try.func30, Try.ntmps30
    go_wp2_with fail
    refine wp_region_ext (by kernel_rfl) (by kernel_rfl) ?_
    repeat (go_big_quiet_step ((go_at_call 54; exact Calls.quiet_same (C.out _))))
    refine wpQuiet_nil ?_
    rintro _ ⟨z, rfl⟩
    go_wp2_with fail
    go_ret
    exact ⟨ret_of (by rw [Hv.out]; rfl), ((Ext.refl w).alloc _).ext z⟩
  have Hv : Hid (ck = 0) := Lib.hid (by rw [Hc.out, hok, show decide (uv pad < (N : Int)) = true by simp; omega, show decide (perm < (F : Int)) = true by simp; omega]; rfl)
  have b5 : decide ((N : Int) ≤ uv pad) = false := by simp; omega
  clear hok Hc
  go_enter Try.func30, Try.ntmps30
  go_wp2_with fail
  refine wp_region_ext (by kernel_rfl) (by kernel_rfl) ?_
  repeat (go_big_quiet_step ((go_at_call 54; exact Calls.quiet_same (C.out _))))
  refine wpQuiet_nil ?_
  rintro _ ⟨z, rfl⟩
  go_wp2_with fail
  go_ret
  exact ⟨ret_of (by rw [Hv.out]; rfl), ((Ext.refl w).alloc _).ext z⟩

set_option maxRecDepth 100000 in
set_option maxHeartbeats 2000000 in
theorem refValid_any (k : K) (w : World) : Calls Try.prog 46 #[k.val] w fun e w' => e = .returned (.bool (okK k)) ∧ Ext w w' := by
  cases h1 : inB k.bits 1 15
  · have Hv := Lib.hid (show okK k = false by simp [okK, h1])
    have C1 := Lib.hid (fun w => h1 ▸ within_any k.bits 1 15 w)
    clear h1
    go_enter Try.func46, Try.ntmps46
    go_wp2_with fail
    refine wp_region_ext (by kernel_rfl) (by kernel_rfl) ?_
    repeat (go_big_quiet_step ((go_at_call 56; with_reducible exact Calls.quiet_same (C1.out _))))
    refine wpQuiet_nil ?_
    rintro _ ⟨z, rfl⟩
    go_wp2_with fail
    go_ret
    exact ⟨ret_of (by rw [Hv.out]; rfl), ((Ext.refl w).alloc _).ext z⟩
  obtain ⟨bits, perm, pad⟩ := k
  simp only at *
  have hb : 1 ≤ bits ∧ bits ≤ 15 := by simpa [inB] using h1
  obtain ⟨n, rfl⟩ := Int.eq_ofNat_of_zero_le (show 0 ≤ bits by omega)
  have hn15 : n ≤ 15 := by omega
  have C1 := Lib.hid (fun w => h1 ▸ within_any (n : Int) 1 15 w)
  have C3 := Lib.hid (refFact_any n hn15)
  have hfl := fact_le n (by omega)
  have hok : okK ⟨n, perm, pad⟩ = (inB perm 0 ((factN n : Int) - 1) && fitB n pad) := by
    unfold okK
    simp only [Int.toNat_natCast]
    rw [h1]; simp
  have hw1 : IntKind.i64.wrap ((factN n : Int) - 1) = (factN n : Int) - 1 := IntWalk.i64_in _ (by omega)
  cases h2 : inB perm 0 ((factN n : Int) - 1)
  · have Hv : Hid (okK ⟨n, perm, pad⟩ = false) := Lib.hid (by rw [hok, h2]; rfl)
    have C2 := Lib.hid (fun w => h2 ▸ within_any perm 0 ((factN n : Int) - 1) w)
    have C4 := Lib.hid (fits_any n hn15 pad)
    clear hok h1 h2
    generalize okK ⟨n, perm, pad⟩ = ok at *
    generalize factN n = F at *
    go_enter Try.func46, Try.ntmps46
    go_wp2_with fail
    refine wp_region_ext (by kernel_rfl) (by kernel_rfl) ?_
    repeat (go_big_quiet_step ((first | (go_at_call 56; first | (with_reducible exact Calls.quiet_same (C1.out _)) | (with_reducible exact Calls.quiet_same (C2.out _))) | (go_at_call 45; exact Calls.quiet_same (C3.out _)) | (go_at_call 44; exact Calls.quiet_same (C4.out _)))))
    refine wpQuiet_nil ?_
    rintro _ ⟨z, rfl⟩
    go_wp2_with fail
    go_ret
    exact ⟨ret_of (by rw [Hv.out]; rfl), ((Ext.refl w).alloc _).ext z⟩
  cases h3 : fitB n pad
  · have Hv : Hid (okK ⟨n, perm, pad⟩ = false) := Lib.hid (by rw [hok, h2, h3]; rfl)
    have C2 := Lib.hid (fun w => h2 ▸ within_any perm 0 ((factN n : Int) - 1) w)
    have C4 := Lib.hid (fun w => h3 ▸ fits_any n hn15 pad w)
    clear hok h1 h2 h3
    generalize okK ⟨n, perm, pad⟩ = ok at *
    generalize factN n = F at *
    go_enter Try.func46, Try.ntmps46
    go_wp2_with fail
    refine wp_region_ext (by kernel_rfl) (by kernel_rfl) ?_
    repeat (go_big_quiet_step ((first | (go_at_call 56; first | (with_reducible exact Calls.quiet_same (C1.out _)) | (with_reducible exact Calls.quiet_same (C2.out _))) | (go_at_call 45; exact Calls.quiet_same (C3.out _)) | (go_at_call 44; exact Calls.quiet_same (C4.out _)))))
    refine wpQuiet_nil ?_
    rintro _ ⟨z, rfl⟩
    go_wp2_with fail
    go_ret
    exact ⟨ret_of (by rw [Hv.out]; rfl), ((Ext.refl w).alloc _).ext z⟩
  have Hv : Hid (okK ⟨n, perm, pad⟩ = true) := Lib.hid (by rw [hok, h2, h3]; rfl)
  have C2 := Lib.hid (fun w => h2 ▸ within_any perm 0 ((factN n : Int) - 1) w)
  have C4 := Lib.hid (fun w => h3 ▸ fits_any n hn15 pad w)
  clear hok h1 h2 h3
  generalize okK ⟨n, perm, pad⟩ = ok at *
  generalize factN n = F at *
  go_enter Try.func46, Try.ntmps46
  go_wp2_with fail
  refine wp_region_ext (by kernel_rfl) (by kernel_rfl) ?_
  repeat (go_big_quiet_step ((first | (go_at_call 56; first | (with_reducible exact Calls.quiet_same (C1.out _)) | (with_reducible exact Calls.quiet_same (C2.out _))) | (go_at_call 45; exact Calls.quiet_same (C3.out _)) | (go_at_call 44; exact Calls.quiet_same (C4.out _)))))
  refine wpQuiet_nil ?_
  rintro _ ⟨z, rfl⟩
  go_wp2_with fail
  go_ret
  exact ⟨ret_of (by rw [Hv.out]; rfl), ((Ext.refl w).alloc _).ext z⟩
set_option maxRecDepth 100000 in
theorem refCheck_any (k : K) (w : World) : Calls Try.prog 31 #[k.val] w fun e w' => e = .returned (.int .i64 (chkK k)) ∧ Ext w w' := by
  cases h : okK k
  · have Hv := Lib.hid (show chkK k = 60 by simp [chkK, h])
    have C := Lib.hid (fun w => h ▸ refValid_any k w)
    clear h
    go_enter Try.func31, Try.ntmps31
    go_wp2_with (go_at_call 46; refine Calls.ext (C.out _) fun z => ?_)
    go_ret
    refine ⟨ret_of (by rw [Hv.out]; rfl), ?_⟩
    repeat' (first | with_reducible exact Ext.refl _ | with_reducible refine Ext.alloc ?_ _ | with_reducible refine Ext.ext ?_ _)
  · have Hv := Lib.hid (show chkK k = 0 by simp [chkK, h])
    have C := Lib.hid (fun w => h ▸ refValid_any k w)
    clear h
    go_enter Try.func31, Try.ntmps31
    go_wp2_with (go_at_call 46; refine Calls.ext (C.out _) fun z => ?_)
    go_ret
    refine ⟨ret_of (by rw [Hv.out]; rfl), ?_⟩
    repeat' (first | with_reducible exact Ext.refl _ | with_reducible refine Ext.alloc ?_ _ | with_reducible refine Ext.ext ?_ _)
end Go.Proofs.Ytfdcapblgdlkaaa
