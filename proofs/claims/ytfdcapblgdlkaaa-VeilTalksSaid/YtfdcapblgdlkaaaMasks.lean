/- The bits of a word as an array; operations for the entries of two arrays; sums. -/
import Derived.Test.YtfdcapblgdlkaaaParty
import Derived.Test.YtfdcapblgdlkaaaArr
import Derived.Test.YtfdcapblgdlkaaaRest
namespace Go.Proofs.Ytfdcapblgdlkaaa
open Go.RowKit

theorem A15_one {f : Nat → Int} : (A15 f).all (·.oneCell') = true := by
  unfold A15 valL
  simp [u8V, Value.oneCell']
def Z15 : Array Value := Array.replicate 15 (.int .u8 0)
set_option maxRecDepth 100000 in
set_option maxHeartbeats 1000000 in
theorem masks_any (x : BitVec 16) (w : World) : Calls Try.prog 62 #[.int .u16 (uv x)] w fun e w' => e = .returned (.agg (A15 (bitI x))) ∧ Ext w w' := by
  go_enter Try.func62, Try.ntmps62
  go_wp2_with fail
  have HR := Lib.hid ((Blk.new w 22 Z15).alloc (.cells Z15 22))
  have HB := Lib.hid (Blk.new' (w.alloc (.cells Z15 22)) 22 Z15 (w.heap.size + 1) (by simp))
  have HE := Lib.hid (((Ext.refl w).alloc (.cells Z15 22)).alloc (.cells Z15 22))
  change Code.wp _ _ _ _ ((w.alloc (.cells Z15 22)).alloc (.cells Z15 22))
  generalize (w.alloc (.cells Z15 22)).alloc (.cells Z15 22) = W at *
  go_loopw [4, 5] (fun _ i wr => ∃ k : Nat, k ≤ 15 ∧ i = .int .i64 k ∧ Blk wr w.heap.size 22 Z15 ∧ Blk wr (w.heap.size + 1) 22 (fillA 15 (.int .u8 0) (u8V (bitI x)) k) ∧ Ext w wr) (fun _ i _ => 15 - (intOf i).toNat)
  case atStart => exact ⟨0, by omega, rfl, HR.out, by rw [fill_zero]; exact HB.out, HE.out⟩
  case round =>
    obtain ⟨k, hk, rfl, hR, hB, hE⟩ := hrel
    have HR2 := Lib.hid hR
    have HB2 := Lib.hid hB
    have HE2 := Lib.hid hE
    by_cases hk15 : k < 15
    · have hk2 : (k : Int) < 15 := by omega
      have h1 := uv_shr x k
      have h2 := bit_val x k
      have hm1 : min k 16 = k := by omega
      have hm2 : min k 64 = k := by omega
      have hb := bitI_in x k
      have hc : wr.cell? ⟨w.heap.size + 1, k, none⟩ = some (.int .u8 0) := by rw [hB.cell, fill_at _ _ _ _ _ hk15, if_neg (Nat.lt_irrefl k)]
      have hf := hB.frozen k
      have hw8 : IntKind.u8.wrap (bitI x k) = bitI x k := by rw [IntKind.wrap_u8]; omega
      have HSet := Lib.hid (fill_set 15 (.int .u8 0) (u8V (bitI x)) k (.int .u8 (bitI x k)) rfl)
      clear hR hB hE
      generalize bitI x k = v at *
      go_wp2_with fail
      refine ⟨⟨k + 1, by omega, by go_num, HR2.out.far (by show w.heap.size ≠ w.heap.size + 1; omega) _, ?_, HE2.out.setCell (by show w.heap.size ≤ w.heap.size + 1; omega) _⟩, by simp [intOf]; omega⟩
      rw [← HSet.out]
      exact HB2.out.set_ k _
    · obtain rfl : k = 15 := by omega
      have hB3 : Blk wr (w.heap.size + 1) 22 (A15 (bitI x)) := by rw [fill_full] at hB; exact hB
      have HB3 := Lib.hid hB3
      clear hR hB hE hB3
      go_wp2_with (first | (refine wpList_load_row rfl 22 (.tmp 3) rfl (w.heap.size + 1) rfl 22 (A15 (bitI x)) (0, 0) _ HB3.out Try.underlying22 rfl info22 ?_) | (refine wpList_store_row rfl 22 (.tmp 2) (.tmp 16) rfl w.heap.size rfl 22 Z15 (A15 (bitI x)) rfl HR2.out info22 rfl A15_one ?_))
      exact bodyPost_ret (results_cell_row rfl _ _ w.heap.size 22 (A15 (bitI x)) (0, 0) _ rfl (HR2.out.row _) Try.underlying22 rfl info22) rfl ⟨rfl, HE2.out.row (Nat.le_refl _) _⟩
set_option maxRecDepth 100000 in
set_option maxHeartbeats 1000000 in
theorem eachMinus_any (a b : Nat → Int) (ha : ∀ i, i < 15 → 0 ≤ a i ∧ a i < 256) (hb : ∀ i, i < 15 → 0 ≤ b i ∧ b i < 256) (w : World) : Calls Try.prog 60 #[.func (.func 61) #[] #[], .agg (A15 a), .agg (A15 b)] w fun e w' => e = .returned (.agg (A15 fun i => (a i - b i) % 31)) ∧ Ext w w' := by
  go_enter Try.func60, Try.ntmps60
  go_wp2_with fail
  have H1 := Lib.hid ((((Blk.new w 22 (A15 a)).alloc (.cells (A15 b) 22)).alloc (.cells Z15 22)).alloc (.cells Z15 22))
  have H2 := Lib.hid (((Blk.new' (w.alloc (.cells (A15 a) 22)) 22 (A15 b) (w.heap.size + 1) (by simp)).alloc (.cells Z15 22)).alloc (.cells Z15 22))
  have H3 := Lib.hid ((Blk.new' ((w.alloc (.cells (A15 a) 22)).alloc (.cells (A15 b) 22)) 22 Z15 (w.heap.size + 1 + 1) (by simp)).alloc (.cells Z15 22))
  have H4 := Lib.hid (Blk.new' (((w.alloc (.cells (A15 a) 22)).alloc (.cells (A15 b) 22)).alloc (.cells Z15 22)) 22 Z15 (w.heap.size + 1 + 1 + 1) (by simp))
  have HE := Lib.hid (((((Ext.refl w).alloc (.cells (A15 a) 22)).alloc (.cells (A15 b) 22)).alloc (.cells Z15 22)).alloc (.cells Z15 22))
  change Code.wp _ _ _ _ ((((w.alloc (.cells (A15 a) 22)).alloc (.cells (A15 b) 22)).alloc (.cells Z15 22)).alloc (.cells Z15 22))
  generalize (((w.alloc (.cells (A15 a) 22)).alloc (.cells (A15 b) 22)).alloc (.cells Z15 22)).alloc (.cells Z15 22) = W at *
  go_loopw [8, 9] (fun _ i wr => ∃ k : Nat, k ≤ 15 ∧ i = .int .i64 k ∧ Blk wr w.heap.size 22 (A15 a) ∧ Blk wr (w.heap.size + 1) 22 (A15 b) ∧ Blk wr (w.heap.size + 1 + 1) 22 Z15 ∧ Blk wr (w.heap.size + 1 + 1 + 1) 22 (fillA 15 (.int .u8 0) (u8V fun i => (a i - b i) % 31) k) ∧ Ext w wr) (fun _ i _ => 15 - (intOf i).toNat)
  case atStart => exact ⟨0, by omega, rfl, H1.out, H2.out, H3.out, by rw [fill_zero]; exact H4.out, HE.out⟩
  case round =>
    obtain ⟨k, hk, rfl, h1, h2, h3, h4, hE⟩ := hrel
    have G1 := Lib.hid h1
    have G2 := Lib.hid h2
    have G3 := Lib.hid h3
    have G4 := Lib.hid h4
    have HE2 := Lib.hid hE
    by_cases hk15 : k < 15
    · have hk2 : (k : Int) < 15 := by omega
      have c1 : wr.cell? ⟨w.heap.size, k, none⟩ = some (.int .u8 (a k)) := by rw [h1.cell]; exact A15_at a k hk15
      have c2 : wr.cell? ⟨w.heap.size + 1, k, none⟩ = some (.int .u8 (b k)) := by rw [h2.cell]; exact A15_at b k hk15
      have c4 : wr.cell? ⟨w.heap.size + 1 + 1 + 1, k, none⟩ = some (.int .u8 0) := by rw [h4.cell, fill_at _ _ _ _ _ hk15, if_neg (Nat.lt_irrefl k)]
      have hf := h4.frozen k
      have ba := ha k hk15
      have bb := hb k hk15
      have C := Lib.hid (fun w => minus_any (a k) (b k) (by omega) (by omega) w)
      have hm : 0 ≤ (a k - b k) % 31 ∧ (a k - b k) % 31 < 31 := by omega
      have HSet := Lib.hid (fill_set 15 (.int .u8 0) (u8V fun i => (a i - b i) % 31) k (.int .u8 ((a k - b k) % 31)) rfl)
      clear h1 h2 h3 h4 hE
      generalize (a k - b k) % 31 = v at *
      generalize a k = ak at *
      generalize b k = bk at *
      have wa : IntKind.i64.wrap ak = ak := IntWalk.i64_in _ (by omega)
      have wb : IntKind.i64.wrap bk = bk := IntWalk.i64_in _ (by omega)
      have wv : IntKind.u8.wrap v = v := by rw [IntKind.wrap_u8]; omega
      go_wp2_with fail
      go_region_with (go_at_call 61; refine Calls.same (C.out _) ?_)
      all_goals
        go_wp2_with fail
        refine ⟨⟨k + 1, by omega, by go_num, G1.out.drew.far (by show w.heap.size ≠ w.heap.size + 1 + 1 + 1; omega) _, G2.out.drew.far (by show w.heap.size + 1 ≠ w.heap.size + 1 + 1 + 1; omega) _, G3.out.drew.far (by show w.heap.size + 1 + 1 ≠ w.heap.size + 1 + 1 + 1; omega) _, ?_, HE2.out.drew.setCell (by show w.heap.size ≤ w.heap.size + 1 + 1 + 1; omega) _⟩, by simp [intOf]; omega⟩
        rw [← HSet.out]
        exact G4.out.drew.set_ k _
    · obtain rfl : k = 15 := by omega
      have hB3 : Blk wr (w.heap.size + 1 + 1 + 1) 22 (A15 fun i => (a i - b i) % 31) := by rw [fill_full] at h4; exact h4
      have HB3 := Lib.hid hB3
      clear h1 h2 h3 h4 hE hB3
      go_wp2_with (first | (refine wpList_load_row rfl 22 (.tmp 7) rfl (w.heap.size + 1 + 1 + 1) rfl 22 (A15 fun i => (a i - b i) % 31) (0, 0) _ HB3.out Try.underlying22 rfl info22 ?_) | (refine wpList_store_row rfl 22 (.tmp 6) (.tmp 26) rfl (w.heap.size + 1 + 1) rfl 22 Z15 (A15 fun i => (a i - b i) % 31) rfl G3.out info22 rfl A15_one ?_))
      exact bodyPost_ret (results_cell_row rfl _ _ (w.heap.size + 1 + 1) 22 (A15 fun i => (a i - b i) % 31) (0, 0) _ rfl (G3.out.row _) Try.underlying22 rfl info22) rfl ⟨rfl, HE2.out.row (by show w.heap.size ≤ w.heap.size + 1 + 1; omega) _⟩
set_option maxRecDepth 100000 in
set_option maxHeartbeats 1000000 in
theorem eachPlus_any (a b : Nat → Int) (ha : ∀ i, i < 15 → 0 ≤ a i ∧ a i < 256) (hb : ∀ i, i < 15 → 0 ≤ b i ∧ b i < 256) (w : World) : Calls Try.prog 60 #[.func (.func 64) #[] #[], .agg (A15 a), .agg (A15 b)] w fun e w' => e = .returned (.agg (A15 fun i => (a i + b i) % 31)) ∧ Ext w w' := by
  go_enter Try.func60, Try.ntmps60
  go_wp2_with fail
  have H1 := Lib.hid ((((Blk.new w 22 (A15 a)).alloc (.cells (A15 b) 22)).alloc (.cells Z15 22)).alloc (.cells Z15 22))
  have H2 := Lib.hid (((Blk.new' (w.alloc (.cells (A15 a) 22)) 22 (A15 b) (w.heap.size + 1) (by simp)).alloc (.cells Z15 22)).alloc (.cells Z15 22))
  have H3 := Lib.hid ((Blk.new' ((w.alloc (.cells (A15 a) 22)).alloc (.cells (A15 b) 22)) 22 Z15 (w.heap.size + 1 + 1) (by simp)).alloc (.cells Z15 22))
  have H4 := Lib.hid (Blk.new' (((w.alloc (.cells (A15 a) 22)).alloc (.cells (A15 b) 22)).alloc (.cells Z15 22)) 22 Z15 (w.heap.size + 1 + 1 + 1) (by simp))
  have HE := Lib.hid (((((Ext.refl w).alloc (.cells (A15 a) 22)).alloc (.cells (A15 b) 22)).alloc (.cells Z15 22)).alloc (.cells Z15 22))
  change Code.wp _ _ _ _ ((((w.alloc (.cells (A15 a) 22)).alloc (.cells (A15 b) 22)).alloc (.cells Z15 22)).alloc (.cells Z15 22))
  generalize (((w.alloc (.cells (A15 a) 22)).alloc (.cells (A15 b) 22)).alloc (.cells Z15 22)).alloc (.cells Z15 22) = W at *
  go_loopw [8, 9] (fun _ i wr => ∃ k : Nat, k ≤ 15 ∧ i = .int .i64 k ∧ Blk wr w.heap.size 22 (A15 a) ∧ Blk wr (w.heap.size + 1) 22 (A15 b) ∧ Blk wr (w.heap.size + 1 + 1) 22 Z15 ∧ Blk wr (w.heap.size + 1 + 1 + 1) 22 (fillA 15 (.int .u8 0) (u8V fun i => (a i + b i) % 31) k) ∧ Ext w wr) (fun _ i _ => 15 - (intOf i).toNat)
  case atStart => exact ⟨0, by omega, rfl, H1.out, H2.out, H3.out, by rw [fill_zero]; exact H4.out, HE.out⟩
  case round =>
    obtain ⟨k, hk, rfl, h1, h2, h3, h4, hE⟩ := hrel
    have G1 := Lib.hid h1
    have G2 := Lib.hid h2
    have G3 := Lib.hid h3
    have G4 := Lib.hid h4
    have HE2 := Lib.hid hE
    by_cases hk15 : k < 15
    · have hk2 : (k : Int) < 15 := by omega
      have c1 : wr.cell? ⟨w.heap.size, k, none⟩ = some (.int .u8 (a k)) := by rw [h1.cell]; exact A15_at a k hk15
      have c2 : wr.cell? ⟨w.heap.size + 1, k, none⟩ = some (.int .u8 (b k)) := by rw [h2.cell]; exact A15_at b k hk15
      have c4 : wr.cell? ⟨w.heap.size + 1 + 1 + 1, k, none⟩ = some (.int .u8 0) := by rw [h4.cell, fill_at _ _ _ _ _ hk15, if_neg (Nat.lt_irrefl k)]
      have hf := h4.frozen k
      have ba := ha k hk15
      have bb := hb k hk15
      have C := Lib.hid (fun w => plus_any (a k) (b k) (by omega) (by omega) w)
      have hm : 0 ≤ (a k + b k) % 31 ∧ (a k + b k) % 31 < 31 := by omega
      have HSet := Lib.hid (fill_set 15 (.int .u8 0) (u8V fun i => (a i + b i) % 31) k (.int .u8 ((a k + b k) % 31)) rfl)
      clear h1 h2 h3 h4 hE
      generalize (a k + b k) % 31 = v at *
      generalize a k = ak at *
      generalize b k = bk at *
      have wa : IntKind.i64.wrap ak = ak := IntWalk.i64_in _ (by omega)
      have wb : IntKind.i64.wrap bk = bk := IntWalk.i64_in _ (by omega)
      have wv : IntKind.u8.wrap v = v := by rw [IntKind.wrap_u8]; omega
      go_wp2_with fail
      go_region_with (go_at_call 64; refine Calls.same (C.out _) ?_)
      all_goals
        go_wp2_with fail
        refine ⟨⟨k + 1, by omega, by go_num, G1.out.drew.far (by show w.heap.size ≠ w.heap.size + 1 + 1 + 1; omega) _, G2.out.drew.far (by show w.heap.size + 1 ≠ w.heap.size + 1 + 1 + 1; omega) _, G3.out.drew.far (by show w.heap.size + 1 + 1 ≠ w.heap.size + 1 + 1 + 1; omega) _, ?_, HE2.out.drew.setCell (by show w.heap.size ≤ w.heap.size + 1 + 1 + 1; omega) _⟩, by simp [intOf]; omega⟩
        rw [← HSet.out]
        exact G4.out.drew.set_ k _
    · obtain rfl : k = 15 := by omega
      have hB3 : Blk wr (w.heap.size + 1 + 1 + 1) 22 (A15 fun i => (a i + b i) % 31) := by rw [fill_full] at h4; exact h4
      have HB3 := Lib.hid hB3
      clear h1 h2 h3 h4 hE hB3
      go_wp2_with (first | (refine wpList_load_row rfl 22 (.tmp 7) rfl (w.heap.size + 1 + 1 + 1) rfl 22 (A15 fun i => (a i + b i) % 31) (0, 0) _ HB3.out Try.underlying22 rfl info22 ?_) | (refine wpList_store_row rfl 22 (.tmp 6) (.tmp 26) rfl (w.heap.size + 1 + 1) rfl 22 Z15 (A15 fun i => (a i + b i) % 31) rfl G3.out info22 rfl A15_one ?_))
      exact bodyPost_ret (results_cell_row rfl _ _ (w.heap.size + 1 + 1) 22 (A15 fun i => (a i + b i) % 31) (0, 0) _ rfl (G3.out.row _) Try.underlying22 rfl info22) rfl ⟨rfl, HE2.out.row (by show w.heap.size ≤ w.heap.size + 1 + 1; omega) _⟩
set_option maxRecDepth 100000 in
set_option maxHeartbeats 1000000 in
theorem eachTimes_any (a b : Nat → Int) (ha : ∀ i, i < 15 → 0 ≤ a i ∧ a i < 256) (hb : ∀ i, i < 15 → 0 ≤ b i ∧ b i < 256) (w : World) : Calls Try.prog 60 #[.func (.func 63) #[] #[], .agg (A15 a), .agg (A15 b)] w fun e w' => e = .returned (.agg (A15 fun i => (a i * b i) % 31)) ∧ Ext w w' := by
  go_enter Try.func60, Try.ntmps60
  go_wp2_with fail
  have H1 := Lib.hid ((((Blk.new w 22 (A15 a)).alloc (.cells (A15 b) 22)).alloc (.cells Z15 22)).alloc (.cells Z15 22))
  have H2 := Lib.hid (((Blk.new' (w.alloc (.cells (A15 a) 22)) 22 (A15 b) (w.heap.size + 1) (by simp)).alloc (.cells Z15 22)).alloc (.cells Z15 22))
  have H3 := Lib.hid ((Blk.new' ((w.alloc (.cells (A15 a) 22)).alloc (.cells (A15 b) 22)) 22 Z15 (w.heap.size + 1 + 1) (by simp)).alloc (.cells Z15 22))
  have H4 := Lib.hid (Blk.new' (((w.alloc (.cells (A15 a) 22)).alloc (.cells (A15 b) 22)).alloc (.cells Z15 22)) 22 Z15 (w.heap.size + 1 + 1 + 1) (by simp))
  have HE := Lib.hid (((((Ext.refl w).alloc (.cells (A15 a) 22)).alloc (.cells (A15 b) 22)).alloc (.cells Z15 22)).alloc (.cells Z15 22))
  change Code.wp _ _ _ _ ((((w.alloc (.cells (A15 a) 22)).alloc (.cells (A15 b) 22)).alloc (.cells Z15 22)).alloc (.cells Z15 22))
  generalize (((w.alloc (.cells (A15 a) 22)).alloc (.cells (A15 b) 22)).alloc (.cells Z15 22)).alloc (.cells Z15 22) = W at *
  go_loopw [8, 9] (fun _ i wr => ∃ k : Nat, k ≤ 15 ∧ i = .int .i64 k ∧ Blk wr w.heap.size 22 (A15 a) ∧ Blk wr (w.heap.size + 1) 22 (A15 b) ∧ Blk wr (w.heap.size + 1 + 1) 22 Z15 ∧ Blk wr (w.heap.size + 1 + 1 + 1) 22 (fillA 15 (.int .u8 0) (u8V fun i => (a i * b i) % 31) k) ∧ Ext w wr) (fun _ i _ => 15 - (intOf i).toNat)
  case atStart => exact ⟨0, by omega, rfl, H1.out, H2.out, H3.out, by rw [fill_zero]; exact H4.out, HE.out⟩
  case round =>
    obtain ⟨k, hk, rfl, h1, h2, h3, h4, hE⟩ := hrel
    have G1 := Lib.hid h1
    have G2 := Lib.hid h2
    have G3 := Lib.hid h3
    have G4 := Lib.hid h4
    have HE2 := Lib.hid hE
    by_cases hk15 : k < 15
    · have hk2 : (k : Int) < 15 := by omega
      have c1 : wr.cell? ⟨w.heap.size, k, none⟩ = some (.int .u8 (a k)) := by rw [h1.cell]; exact A15_at a k hk15
      have c2 : wr.cell? ⟨w.heap.size + 1, k, none⟩ = some (.int .u8 (b k)) := by rw [h2.cell]; exact A15_at b k hk15
      have c4 : wr.cell? ⟨w.heap.size + 1 + 1 + 1, k, none⟩ = some (.int .u8 0) := by rw [h4.cell, fill_at _ _ _ _ _ hk15, if_neg (Nat.lt_irrefl k)]
      have hf := h4.frozen k
      have ba := ha k hk15
      have bb := hb k hk15
      have C := Lib.hid (fun w => times_any (a k) (b k) (by omega) (by omega) w)
      have hm : 0 ≤ (a k * b k) % 31 ∧ (a k * b k) % 31 < 31 := by omega
      have HSet := Lib.hid (fill_set 15 (.int .u8 0) (u8V fun i => (a i * b i) % 31) k (.int .u8 ((a k * b k) % 31)) rfl)
      clear h1 h2 h3 h4 hE
      generalize (a k * b k) % 31 = v at *
      generalize a k = ak at *
      generalize b k = bk at *
      have wa : IntKind.i64.wrap ak = ak := IntWalk.i64_in _ (by omega)
      have wb : IntKind.i64.wrap bk = bk := IntWalk.i64_in _ (by omega)
      have wv : IntKind.u8.wrap v = v := by rw [IntKind.wrap_u8]; omega
      go_wp2_with fail
      go_region_with (go_at_call 63; refine Calls.same (C.out _) ?_)
      all_goals
        go_wp2_with fail
        refine ⟨⟨k + 1, by omega, by go_num, G1.out.drew.far (by show w.heap.size ≠ w.heap.size + 1 + 1 + 1; omega) _, G2.out.drew.far (by show w.heap.size + 1 ≠ w.heap.size + 1 + 1 + 1; omega) _, G3.out.drew.far (by show w.heap.size + 1 + 1 ≠ w.heap.size + 1 + 1 + 1; omega) _, ?_, HE2.out.drew.setCell (by show w.heap.size ≤ w.heap.size + 1 + 1 + 1; omega) _⟩, by simp [intOf]; omega⟩
        rw [← HSet.out]
        exact G4.out.drew.set_ k _
    · obtain rfl : k = 15 := by omega
      have hB3 : Blk wr (w.heap.size + 1 + 1 + 1) 22 (A15 fun i => (a i * b i) % 31) := by rw [fill_full] at h4; exact h4
      have HB3 := Lib.hid hB3
      clear h1 h2 h3 h4 hE hB3
      go_wp2_with (first | (refine wpList_load_row rfl 22 (.tmp 7) rfl (w.heap.size + 1 + 1 + 1) rfl 22 (A15 fun i => (a i * b i) % 31) (0, 0) _ HB3.out Try.underlying22 rfl info22 ?_) | (refine wpList_store_row rfl 22 (.tmp 6) (.tmp 26) rfl (w.heap.size + 1 + 1) rfl 22 Z15 (A15 fun i => (a i * b i) % 31) rfl G3.out info22 rfl A15_one ?_))
      exact bodyPost_ret (results_cell_row rfl _ _ (w.heap.size + 1 + 1) 22 (A15 fun i => (a i * b i) % 31) (0, 0) _ rfl (G3.out.row _) Try.underlying22 rfl info22) rfl ⟨rfl, HE2.out.row (by show w.heap.size ≤ w.heap.size + 1 + 1; omega) _⟩
end Go.Proofs.Ytfdcapblgdlkaaa
