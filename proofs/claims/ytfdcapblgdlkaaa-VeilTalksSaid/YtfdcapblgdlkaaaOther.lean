/- The other party's table: the walks. -/
import Derived.Test.YtfdcapblgdlkaaaRow32
namespace Go.Proofs.Ytfdcapblgdlkaaa
open Go.RowKit
set_option maxRecDepth 100000 in
set_option maxHeartbeats 2000000 in
theorem other_any (t : Nat → Int) (rc rs lim : Int) (ht : ∀ i, i < 31 → 0 ≤ t i ∧ t i < 4294967296) (hrc : 0 ≤ rc ∧ rc < 256) (hrs : 0 ≤ rs ∧ rs < 256) (w : World) : Calls Try.prog 65 #[.agg (A31 t), .int .u8 rc, .int .u8 rs, .int .i64 lim] w fun e w' => e = .returned (.agg (A31 (tabO t rc rs lim))) ∧ Ext w w' := by
  have HRow := Lib.hid (tabS_row t rc rs lim ht)
  have HS := Lib.hid (tabS_start t rc rs lim ht)
  clear ht
  go_enter Try.func65, Try.ntmps65
  go_wp2_with fail
  have HB := Lib.hid ((Blk.new w 24 (A31 t)).alloc (.cells Z31 24))
  have HR := Lib.hid (Blk.new' (w.alloc (.cells (A31 t) 24)) 24 Z31 (w.heap.size + 1) (by simp))
  have HE := Lib.hid (((Ext.refl w).alloc (.cells (A31 t) 24)).alloc (.cells Z31 24))
  change Code.wp _ _ _ _ ((w.alloc (.cells (A31 t) 24)).alloc (.cells Z31 24))
  generalize (w.alloc (.cells (A31 t) 24)).alloc (.cells Z31 24) = W at *
  go_loopw [9, 10, 11, 14] (fun _ _ i _ wr => ∃ k : Nat, k ≤ 31 ∧ i = .int .i64 k ∧ Blk wr w.heap.size 24 (A31 (tabS t rc rs lim k 0)) ∧ Blk wr (w.heap.size + 1) 24 Z31 ∧ Ext w wr) (fun _ _ i _ _ => 31 - (intOf i).toNat)
  case atStart => exact ⟨0, by omega, rfl, by rw [HS.out]; exact HB.out, HR.out, HE.out⟩
  case round =>
    obtain ⟨k, hk, rfl, hB, hR, hE⟩ := hrel
    have HB2 := Lib.hid hB
    have HR2 := Lib.hid hR
    have HE2 := Lib.hid hE
    clear hB hR hE HB HR HE
    by_cases hk31 : k < 31
    · have hk2 : (k : Int) < 31 := by omega
      go_wp2_with fail
      go_loopw [10, 14] (fun _ j wr => ∃ m : Nat, m ≤ 31 ∧ j = .int .i64 m ∧ Blk wr w.heap.size 24 (A31 (tabS t rc rs lim k m)) ∧ Blk wr (w.heap.size + 1) 24 Z31 ∧ Ext w wr) (fun _ j _ => 31 - (intOf j).toNat)
      case atStart => exact ⟨0, by omega, rfl, HB2.out, HR2.out, HE2.out⟩
      case round =>
        clear HB2 HR2 HE2
        obtain ⟨m, hm, rfl, hB, hR, hE⟩ := hrel
        have HB3 := Lib.hid hB
        have HR3 := Lib.hid hR
        have HE3 := Lib.hid hE
        by_cases hm31 : m < 31
        · have hm2 : (m : Int) < 31 := by omega
          have hm3 : (m : Int) < 32 := by omega
          have C1 := Lib.hid (fun w => of_any ((k : Int) - rc) (by omega) w)
          have C2 := Lib.hid (fun w => of_any ((m : Int) - rs) (by omega) w)
          have C3 := Lib.hid (fun w => plus_any (((k : Int) - rc) % 31) (((m : Int) - rs) % 31) (by omega) (by omega) w)
          have hc := (hB.cell k).trans (tabS_cell t rc rs lim k m hk31)
          have hf := hB.frozen k
          have hs := vv_shl m (by omega)
          have hmin : min m 64 = m := by omega
          have hmin2 : min m 32 = m := by omega
          clear hB hR hE
          have HN := Lib.hid (show nearB rc rs lim k m = decide (((((k : Int) - rc) % 31 + ((m : Int) - rs) % 31) % 31) ≤ lim) from rfl)
          have HY := Lib.hid (tabS_yes t rc rs lim k m)
          have HNo := Lib.hid (tabS_no t rc rs lim k m)
          have b1 : 0 ≤ ((k : Int) - rc) % 31 ∧ ((k : Int) - rc) % 31 < 31 := by omega
          have b2 : 0 ≤ ((m : Int) - rs) % 31 ∧ ((m : Int) - rs) % 31 < 31 := by omega
          have b3 : 0 ≤ (((k : Int) - rc) % 31 + ((m : Int) - rs) % 31) % 31 ∧ (((k : Int) - rc) % 31 + ((m : Int) - rs) % 31) % 31 < 31 := by omega
          generalize (((k : Int) - rc) % 31 + ((m : Int) - rs) % 31) % 31 = x3 at *
          generalize ((k : Int) - rc) % 31 = x1 at *
          generalize ((m : Int) - rs) % 31 = x2 at *
          generalize hrow : rowN (bt t k) (nearB rc rs lim k) m = row at *
          by_cases hle : x3 ≤ lim
          · have hnt : nearB rc rs lim k m = true := HN.out.trans (decide_eq_true hle)
            have HY2 := Lib.hid (HY.out hnt)
            clear HY HNo HN hnt hrow
            go_wp2_with (first | (go_at_call 91; refine Calls.same (C1.out _) ?_) | (go_at_call 91; refine Calls.same (C2.out _) ?_) | (go_at_call 64; refine Calls.same (C3.out _) ?_))
            go_region
            all_goals
              go_wp2_with fail
              refine ⟨⟨m + 1, by omega, by go_num, ?_, HR3.out.drew.far (by show w.heap.size + 1 ≠ w.heap.size; omega) _, HE3.out.drew.setCell (by show w.heap.size ≤ w.heap.size; omega) _⟩, by simp [intOf]; omega⟩
              rw [← HY2.out]
              exact HB3.out.drew.set_ k _
          · have hnf : nearB rc rs lim k m = false := HN.out.trans (decide_eq_false hle)
            have HNo2 := Lib.hid (HNo.out hnf)
            clear HY HNo HN hnf hrow
            go_wp2_with (first | (go_at_call 91; refine Calls.same (C1.out _) ?_) | (go_at_call 91; refine Calls.same (C2.out _) ?_) | (go_at_call 64; refine Calls.same (C3.out _) ?_))
            refine ⟨⟨m + 1, by omega, by go_num, ?_, HR3.out, HE3.out⟩, by simp [intOf]; omega⟩
            rw [HNo2.out]
            exact HB3.out
        · obtain rfl : m = 31 := by omega
          clear hB hR hE
          go_wp2_with fail
          refine ⟨⟨k + 1, by omega, by go_num, ?_, HR3.out, HE3.out⟩, by simp [intOf]; omega⟩
          rw [← HRow.out]
          exact HB3.out
    · obtain rfl : k = 31 := by omega
      have HB4 := Lib.hid (tabS_end t rc rs lim ▸ HB2.out)
      go_wp2_with (first | (refine wpList_load_row rfl 24 (.tmp 4) rfl w.heap.size rfl 24 (A31 (tabO t rc rs lim)) (0, 0) _ HB4.out Try.underlying24 rfl info24 ?_) | (refine wpList_store_row rfl 24 (.tmp 8) (.tmp 39) rfl (w.heap.size + 1) rfl 24 Z31 (A31 (tabO t rc rs lim)) rfl HR2.out info24 rfl A31_one ?_))
      exact bodyPost_ret (results_cell_row rfl _ _ (w.heap.size + 1) 24 (A31 (tabO t rc rs lim)) (0, 0) _ rfl (HR2.out.row _) Try.underlying24 rfl info24) rfl ⟨rfl, HE2.out.row (by show w.heap.size ≤ w.heap.size + 1; omega) _⟩
set_option maxRecDepth 100000 in
theorem near_any (i j rc rs lim : Int) (hi : -1000 ≤ i ∧ i ≤ 1000) (hj : -1000 ≤ j ∧ j ≤ 1000) (hrc : 0 ≤ rc ∧ rc < 256) (hrs : 0 ≤ rs ∧ rs < 256) (w : World) : Calls Try.prog 92 #[.int .i64 i, .int .i64 j, .int .i64 rc, .int .i64 rs, .int .i64 lim] w fun e w' => e = .returned (.bool (decide (((i - rc) % 31 + (j - rs) % 31) % 31 ≤ lim))) ∧ w = w' := by
  have C1 := Lib.hid (fun w => rest_any (i - rc) (by omega) w)
  have C2 := Lib.hid (fun w => rest_any (j - rs) (by omega) w)
  have C3 := Lib.hid (fun w => rest_any ((i - rc) % 31 + (j - rs) % 31) (by omega) w)
  have b1 : 0 ≤ (i - rc) % 31 ∧ (i - rc) % 31 < 31 := by omega
  have b2 : 0 ≤ (j - rs) % 31 ∧ (j - rs) % 31 < 31 := by omega
  generalize (i - rc) % 31 = x1 at *
  generalize (j - rs) % 31 = x2 at *
  generalize (x1 + x2) % 31 = x3 at *
  go_enter Try.func92, Try.ntmps92
  go_wp2_with fail
  refine Calls.same (C1.out _) ?_
  go_wp2_with fail
  refine Calls.same (C2.out _) ?_
  go_wp2_with fail
  refine Calls.same (C3.out _) ?_
  go_wp2_with fail
  go_ret
  exact ⟨rfl, rfl⟩
set_option maxRecDepth 100000 in
set_option maxHeartbeats 2000000 in
theorem turned_any (t : Nat → Int) (rc rs lim : Int) (ht : ∀ i, i < 31 → 0 ≤ t i ∧ t i < 4294967296) (hrc : 0 ≤ rc ∧ rc < 256) (hrs : 0 ≤ rs ∧ rs < 256) (w : World) : Calls Try.prog 68 #[.agg (A31 t), .int .i64 rc, .int .i64 rs, .int .i64 lim] w fun e w' => e = .returned (.agg (A31 (tabO t rc rs lim))) ∧ Ext w w' := by
  have HRow := Lib.hid (tabS_row t rc rs lim ht)
  have HS := Lib.hid (tabS_start t rc rs lim ht)
  clear ht
  go_enter Try.func68, Try.ntmps68
  go_wp2_with fail
  have HB := Lib.hid ((Blk.new w 24 (A31 t)).alloc (.cells Z31 24))
  have HR := Lib.hid (Blk.new' (w.alloc (.cells (A31 t) 24)) 24 Z31 (w.heap.size + 1) (by simp))
  have HE := Lib.hid (((Ext.refl w).alloc (.cells (A31 t) 24)).alloc (.cells Z31 24))
  change Code.wp _ _ _ _ ((w.alloc (.cells (A31 t) 24)).alloc (.cells Z31 24))
  generalize (w.alloc (.cells (A31 t) 24)).alloc (.cells Z31 24) = W at *
  go_loopw [9, 10] (fun i _ wr => ∃ k : Nat, k ≤ 31 ∧ i = .int .i64 k ∧ Blk wr w.heap.size 24 (A31 (tabS t rc rs lim k 0)) ∧ Blk wr (w.heap.size + 1) 24 Z31 ∧ Ext w wr) (fun i _ _ => 31 - (intOf i).toNat)
  case atStart => exact ⟨0, by omega, rfl, by rw [HS.out]; exact HB.out, HR.out, HE.out⟩
  case round =>
    obtain ⟨k, hk, rfl, hB, hR, hE⟩ := hrel
    have HB2 := Lib.hid hB
    have HR2 := Lib.hid hR
    have HE2 := Lib.hid hE
    clear hB hR hE HB HR HE
    by_cases hk31 : k < 31
    · have hk2 : (k : Int) < 31 := by omega
      go_wp2_with fail
      go_loopw [10] (fun j wr => ∃ m : Nat, m ≤ 31 ∧ j = .int .i64 m ∧ Blk wr w.heap.size 24 (A31 (tabS t rc rs lim k m)) ∧ Blk wr (w.heap.size + 1) 24 Z31 ∧ Ext w wr) (fun j _ => 31 - (intOf j).toNat)
      case atStart => exact ⟨0, by omega, rfl, HB2.out, HR2.out, HE2.out⟩
      case round =>
        clear HB2 HR2 HE2
        obtain ⟨m, hm, rfl, hB, hR, hE⟩ := hrel
        have HB3 := Lib.hid hB
        have HR3 := Lib.hid hR
        have HE3 := Lib.hid hE
        by_cases hm31 : m < 31
        · have hm2 : (m : Int) < 31 := by omega
          have hm3 : (m : Int) < 32 := by omega
          have C1 := Lib.hid (fun w => near_any (k : Int) (m : Int) rc rs lim (by omega) (by omega) hrc hrs w)
          have hc := (hB.cell k).trans (tabS_cell t rc rs lim k m hk31)
          have hf := hB.frozen k
          have hs := vv_shl m (by omega)
          have hmin : min m 64 = m := by omega
          have hmin2 : min m 32 = m := by omega
          clear hB hR hE
          have HN := Lib.hid (show nearB rc rs lim k m = decide (((((k : Int) - rc) % 31 + ((m : Int) - rs) % 31) % 31) ≤ lim) from rfl)
          have HY := Lib.hid (tabS_yes t rc rs lim k m)
          have HNo := Lib.hid (tabS_no t rc rs lim k m)
          have b3 : 0 ≤ (((k : Int) - rc) % 31 + ((m : Int) - rs) % 31) % 31 ∧ (((k : Int) - rc) % 31 + ((m : Int) - rs) % 31) % 31 < 31 := by omega
          generalize (((k : Int) - rc) % 31 + ((m : Int) - rs) % 31) % 31 = x3 at *
          generalize hrow : rowN (bt t k) (nearB rc rs lim k) m = row at *
          by_cases hle : x3 ≤ lim
          · have hnt : nearB rc rs lim k m = true := HN.out.trans (decide_eq_true hle)
            have HY2 := Lib.hid (HY.out hnt)
            clear HY HNo HN hnt hrow
            go_wp2_with (first | (go_at_call 92; refine Calls.same (C1.out _) ?_))
            go_region
            all_goals
              go_wp2_with fail
              refine ⟨⟨m + 1, by omega, by go_num, ?_, HR3.out.drew.far (by show w.heap.size + 1 ≠ w.heap.size; omega) _, HE3.out.drew.setCell (by show w.heap.size ≤ w.heap.size; omega) _⟩, by simp [intOf]; omega⟩
              rw [← HY2.out]
              exact HB3.out.drew.set_ k _
          · have hnf : nearB rc rs lim k m = false := HN.out.trans (decide_eq_false hle)
            have HNo2 := Lib.hid (HNo.out hnf)
            clear HY HNo HN hnf hrow
            go_wp2_with (first | (go_at_call 92; refine Calls.same (C1.out _) ?_))
            refine ⟨⟨m + 1, by omega, by go_num, ?_, HR3.out, HE3.out⟩, by simp [intOf]; omega⟩
            rw [HNo2.out]
            exact HB3.out
        · obtain rfl : m = 31 := by omega
          clear hB hR hE
          go_wp2_with fail
          refine ⟨⟨k + 1, by omega, by go_num, ?_, HR3.out, HE3.out⟩, by simp [intOf]; omega⟩
          rw [← HRow.out]
          exact HB3.out
    · obtain rfl : k = 31 := by omega
      have HB4 := Lib.hid (tabS_end t rc rs lim ▸ HB2.out)
      go_wp2_with (first | (refine wpList_load_row rfl 24 (.tmp 4) rfl w.heap.size rfl 24 (A31 (tabO t rc rs lim)) (0, 0) _ HB4.out Try.underlying24 rfl info24 ?_) | (refine wpList_store_row rfl 24 (.tmp 8) (.tmp 32) rfl (w.heap.size + 1) rfl 24 Z31 (A31 (tabO t rc rs lim)) rfl HR2.out info24 rfl A31_one ?_))
      exact bodyPost_ret (results_cell_row rfl _ _ (w.heap.size + 1) 24 (A31 (tabO t rc rs lim)) (0, 0) _ rfl (HR2.out.row _) Try.underlying24 rfl info24) rfl ⟨rfl, HE2.out.row (by show w.heap.size ≤ w.heap.size + 1; omega) _⟩
end Go.Proofs.Ytfdcapblgdlkaaa
