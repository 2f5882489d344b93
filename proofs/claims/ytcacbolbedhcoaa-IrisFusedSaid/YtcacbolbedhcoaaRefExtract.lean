/- The reference: the code of a ring. -/
import Derived.Test.YtcacbolbedhcoaaExtract
namespace Go.Proofs.Ytcacbolbedhcoaa
open Go.RowKit

theorem ring_get (r : Nat → Int) (n : Nat) (h : n < 64) : (ringA r)[n]? = some (.int .u8 (r n)) := by simp [ringA, h]
set_option maxRecDepth 100000 in
set_option maxHeartbeats 2000000 in
theorem refExtract_ok (r : Nat → Int) (hr : ∀ n, 0 ≤ r n ∧ r n ≤ 255) (m : Int) (w : World) (h3 : inB m 1 255 = true) : Calls Try.prog 20 #[.agg (ringA r), .int .i64 m] w fun e w' => e = .returned (.tuple #[(fusK (dif r) m 64).val, .int .i64 0]) ∧ Ext w w' := by
  have hm : 1 ≤ m ∧ m ≤ 255 := by simpa [inB] using h3
  have HR := Lib.hid hr
  clear hr
  go_enter Try.func20, Try.ntmps20
  go_wp2_with (go_at_call 46; refine Calls.same (refWithin_any _ _ _ _) ?_)
  have HRing := Lib.hid ((Blk.new w 24 (ringA r)).alloc (.cells #[.int .u64 0, .int .u64 0] 27))
  have HRes := Lib.hid (Blk.new' (w.alloc (.cells (ringA r) 24)) 27 #[.int .u64 0, .int .u64 0] (w.heap.size + 1) (by simp))
  have HE0 := Lib.hid (((Ext.refl w).alloc (.cells (ringA r) 24)).alloc (.cells #[.int .u64 0, .int .u64 0] 27))
  have hs0 : ((w.alloc (.cells (ringA r) 24)).alloc (.cells #[.int .u64 0, .int .u64 0] 27)).heap.size = w.heap.size + 1 + 1 := by simp
  generalize (w.alloc (.cells (ringA r) 24)).alloc (.cells #[.int .u64 0, .int .u64 0] 27) = W0 at *
  have HO := Lib.hid (Blk.new' W0 27 #[.int .u64 0, .int .u64 0] (w.heap.size + 1 + 1) hs0.symm)
  have HE := Lib.hid ((Ext.refl W0).alloc (.cells #[.int .u64 0, .int .u64 0] 27))
  generalize W0.alloc (.cells #[.int .u64 0, .int .u64 0] 27) = W1 at *
  have hoW : W0.heap.size ≤ w.heap.size + 1 + 1 := Nat.le_of_eq hs0
  clear hs0
  go_loopw [7] (fun i wr => ∃ (j : Nat), j ≤ 4 ∧ i = .int .i64 j ∧ Ext W0 wr ∧ Blk wr (w.heap.size + 1 + 1) 27 #[.int .u64 (uw (fusK (dif r) m (16 * j)).code), .int .u64 (uw (fusK (dif r) m (16 * j)).mask)]) (fun i _ => 4 - (intOf i).toNat)
  case atStart => exact ⟨0, Nat.zero_le _, rfl, HE.out, HO.out⟩
  case round =>
    obtain ⟨i, hi, rfl, hE, hB⟩ := hrel
    obtain ⟨wo, rfl⟩ : ∃ wo : World, wo = wr := ⟨_, rfl⟩
    by_cases hlt : i < 4
    · have hi2 : (i : Int) < 4 := by omega
      have hi3 : decide ((i : Int) < 4) = true := by simpa using hi2
      have HB := Lib.hid hB
      have HEo := Lib.hid hE
      clear hB hE
      go_wp2_with fail
      go_loopw [8] (fun q wr => ∃ (k : Nat), k ≤ 16 ∧ q = .int .i64 k ∧ Ext W0 wr ∧ Blk wr (w.heap.size + 1 + 1) 27 #[.int .u64 (uw (fusK (dif r) m (16 * i + k)).code), .int .u64 (uw (fusK (dif r) m (16 * i + k)).mask)]) (fun q _ => 16 - (intOf q).toNat)
      case atStart => exact ⟨0, Nat.zero_le _, rfl, HEo.out, HB.out⟩
      case round =>
        obtain ⟨k, hk, rfl, hE, hB⟩ := hrel
        by_cases hlk : k < 16
        · have hk2 : (k : Int) < 16 := by omega
          have hRg := HRing.out.grow hE
          have hoff : (((k : Int) + 1) % 16).toNat = (k + 1) % 16 := by omega
          have g1 : wr.cell? ⟨w.heap.size, i * 16 + k, none⟩ = some (.int .u8 (r (16 * i + k))) := (hRg.cell _).trans (by rw [Nat.mul_comm i 16]; exact ring_get r _ (by omega))
          have g2 : wr.cell? ⟨w.heap.size, i * 16 + (k + 1) % 16, none⟩ = some (.int .u8 (r (16 * i + (k + 1) % 16))) := (hRg.cell _).trans (by rw [Nat.mul_comm i 16]; exact ring_get r _ (by omega))
          have o1 : Nonempty (Old w.heap.size wr) := Old.mk hRg.lt
          have o2 : Nonempty (Old (w.heap.size + 1 + 1) wr) := Old.mk hB.lt
          have e0 : wr.cell? ⟨w.heap.size + 1 + 1, 0, none⟩ = some (.int .u64 (uw (fusK (dif r) m (16 * i + k)).code)) := hB.cell 0
          have e1 : wr.cell? ⟨w.heap.size + 1 + 1, 1, none⟩ = some (.int .u64 (uw (fusK (dif r) m (16 * i + k)).mask)) := hB.cell 1
          have ef := hB.frozen
          have hst : fusK (dif r) m (16 * i + k + 1) = ⟨if m ≤ dif r (16 * i + k) then (fusK (dif r) m (16 * i + k)).code ||| (1#64 <<< (16 * i + k)) else (fusK (dif r) m (16 * i + k)).code, if m ≤ dif r (16 * i + k) ∨ m ≤ -(dif r (16 * i + k)) then (fusK (dif r) m (16 * i + k)).mask ||| (1#64 <<< (16 * i + k)) else (fusK (dif r) m (16 * i + k)).mask⟩ := rfl
          have hd := dif_at r i k hlk
          have r1 := HR.out (16 * i + (k + 1) % 16)
          have r2 := HR.out (16 * i + k)
          have hp := shl_one (16 * i + k)
          have htn : (16 * (i : Int) + (k : Int)).toNat = 16 * i + k := by omega
          have HBk := Lib.hid hB
          have HEk := Lib.hid hE
          rw [hd] at hst
          clear hE hB hd hRg
          generalize r (16 * i + (k + 1) % 16) = x at *
          generalize r (16 * i + k) = y at *
          have hsum : (16 * i + k + 1) = 16 * i + (k + 1) := by omega
          rw [hsum] at hst
          clear hsum
          have hbig2 : 16 * (i : Int) + (k : Int) < 64 := by omega
          have hbig3 : (0 : Int) ≤ 16 * (i : Int) + (k : Int) := by omega
          have hbig : 16 * i + k < 64 := by omega
          have w1 : IntKind.i64.wrap (16 * (i : Int)) = 16 * (i : Int) := by rw [IntKind.wrap_i64]; omega
          have w2 : IntKind.i64.wrap (16 * (i : Int) + (k : Int)) = 16 * (i : Int) + (k : Int) := by rw [IntKind.wrap_i64]; omega
          have hq1 : (0 : Int) ≤ ((k : Int) + 1) % 16 := by omega
          have hq2 : ((k : Int) + 1) % 16 < 16 := by omega
          go_wp2_with fail
          refine wp_region_ext (by kernel_rfl) (by kernel_rfl) ?_
          repeat (go_big_quiet_step (fail))
          refine wpQuiet_nil ?_
          rintro _ ⟨z5, rfl⟩
          clear g1 g2 hq1 hq2 hoff o1 o2 e0 e1 ef
          have HBz := Lib.hid (HBk.out.ext z5)
          have HEz := Lib.hid (HEk.out.ext z5)
          clear HBk HEk
          generalize ext wr z5 = wk at *
          have HBk := Lib.hid HBz.out
          have HEk := Lib.hid HEz.out
          clear HBz HEz
          have e0 : wk.cell? ⟨w.heap.size + 1 + 1, 0, none⟩ = some (.int .u64 (uw (fusK (dif r) m (16 * i + k)).code)) := HBk.out.cell 0
          have e1 : wk.cell? ⟨w.heap.size + 1 + 1, 1, none⟩ = some (.int .u64 (uw (fusK (dif r) m (16 * i + k)).mask)) := HBk.out.cell 1
          have ef := HBk.out.frozen
          by_cases c1 : m ≤ x - y
          · have Hst := Lib.hid (show fusK (dif r) m (16 * i + (k + 1)) = ⟨(fusK (dif r) m (16 * i + k)).code ||| (1#64 <<< (16 * i + k)), (fusK (dif r) m (16 * i + k)).mask ||| (1#64 <<< (16 * i + k))⟩ by rw [hst]; simp [c1])
            clear hst
            generalize (fusK (dif r) m (16 * i + k)).code = cd at *
            generalize (fusK (dif r) m (16 * i + k)).mask = mk at *
            have d1 : decide (m ≤ x - y) = true := by simpa using c1
            go_wp2_with fail
            refine wp_region_tail 9 (by kernel_rfl) (by kernel_rfl) ?_
            simp only [List.take_succ_cons, List.take_zero, List.drop_succ_cons, List.drop_zero]
            repeat still_step
            refine wpStill_nil ?_
            go_wp2_with fail
            refine wp_region_tail 9 (by kernel_rfl) (by kernel_rfl) ?_
            simp only [List.take_succ_cons, List.take_zero, List.drop_succ_cons, List.drop_zero]
            repeat still_step
            refine wpStill_nil ?_
            go_wp2_with fail
            go_roundw
            case rel => exact ⟨k + 1, by omega, by go_num, (((HEk.out.setCell (p := ⟨w.heap.size + 1 + 1, 1, none⟩) hoW _).drew).setCell (p := ⟨w.heap.size + 1 + 1, 0, none⟩) hoW _).drew, by rw [Hst.out]; exact (((HBk.out.set_ 1 _).drew).set_ 0 _).drew⟩
            case measure => simp [intOf]; omega
          · have d1 : decide (m ≤ x - y) = false := by simpa using c1
            by_cases c2 : x - y ≤ -m
            · have d2 : decide (x - y ≤ -m) = true := by simpa using c2
              have Hst := Lib.hid (show fusK (dif r) m (16 * i + (k + 1)) = ⟨(fusK (dif r) m (16 * i + k)).code, (fusK (dif r) m (16 * i + k)).mask ||| (1#64 <<< (16 * i + k))⟩ by have c3 : m ≤ -(x - y) := (by omega); rw [hst]; simp only [c1, c3, if_true, if_false, or_true])
              clear hst
              generalize (fusK (dif r) m (16 * i + k)).code = cd at *
              generalize (fusK (dif r) m (16 * i + k)).mask = mk at *
              go_wp2_with fail
              refine wp_region_tail 9 (by kernel_rfl) (by kernel_rfl) ?_
              simp only [List.take_succ_cons, List.take_zero, List.drop_succ_cons, List.drop_zero]
              repeat still_step
              refine wpStill_nil ?_
              go_wp2_with fail
              go_roundw
              case rel => exact ⟨k + 1, by omega, by go_num, (HEk.out.setCell (p := ⟨w.heap.size + 1 + 1, 1, none⟩) hoW _).drew, by rw [Hst.out]; exact (HBk.out.set_ 1 _).drew⟩
              case measure => simp [intOf]; omega
            · have d2 : decide (x - y ≤ -m) = false := by simpa using c2
              have Hst := Lib.hid (show fusK (dif r) m (16 * i + (k + 1)) = ⟨(fusK (dif r) m (16 * i + k)).code, (fusK (dif r) m (16 * i + k)).mask⟩ by have c3 : ¬ m ≤ -(x - y) := (by omega); rw [hst]; simp only [c1, c3, if_false, or_self])
              clear hst
              generalize (fusK (dif r) m (16 * i + k)).code = cd at *
              generalize (fusK (dif r) m (16 * i + k)).mask = mk at *
              go_wp2_with fail
              go_roundw
              case rel => exact ⟨k + 1, by omega, by go_num, HEk.out, by rw [Hst.out]; exact HBk.out⟩
              case measure => simp [intOf]; omega
        · obtain rfl : k = 16 := by omega
          have HBk := Lib.hid hB
          have HEk := Lib.hid hE
          clear hB hE
          go_wp2_with fail
          go_roundw
          case rel => exact ⟨i + 1, by omega, by go_num, HEk.out, by have e : 16 * (i + 1) = 16 * i + 16 := (by omega); rw [e]; exact HBk.out⟩
          case measure => simp [intOf]; omega
    · obtain rfl : i = 4 := by omega
      obtain ⟨f, hf⟩ : ∃ f, fusK (dif r) m 64 = f := ⟨_, rfl⟩
      have HF := Lib.hid hf
      have hB' : Blk wo (w.heap.size + 1 + 1) 27 #[.int .u64 (uw (fusK (dif r) m 64).code), .int .u64 (uw (fusK (dif r) m 64).mask)] := hB
      rw [hf] at hB'
      have e0 : wo.cell? ⟨w.heap.size + 1 + 1, 0, none⟩ = some (.int .u64 (uw f.code)) := hB'.cell 0
      have e1 : wo.cell? ⟨w.heap.size + 1 + 1, 1, none⟩ = some (.int .u64 (uw f.mask)) := hB'.cell 1
      have hR2 := HRes.out.grow hE
      have r0 : wo.cell? ⟨w.heap.size + 1, 0, none⟩ = some (.int .u64 0) := hR2.cell 0
      have r1 : wo.cell? ⟨w.heap.size + 1, 1, none⟩ = some (.int .u64 0) := hR2.cell 1
      have rf := hR2.frozen
      have HEk := Lib.hid (HE0.out.trans hE)
      have HR2 := Lib.hid hR2
      clear hB hE hf hR2 hB'
      go_wp2_with fail
      have HS := Lib.hid ((HR2.out.set_ 0 (.int .u64 (uw f.code))).set_ 1 (.int .u64 (uw f.mask)))
      have HEf := Lib.hid ((HEk.out.setCell (p := ⟨w.heap.size + 1, 0, none⟩) (Nat.le_succ _) (.int .u64 (uw f.code))).setCell (p := ⟨w.heap.size + 1, 1, none⟩) (Nat.le_succ _) (.int .u64 (uw f.mask)))
      generalize (wo.setCell ⟨w.heap.size + 1, 0, none⟩ (.int .u64 (uw f.code))).setCell ⟨w.heap.size + 1, 1, none⟩ (.int .u64 (uw f.mask)) = Wf at *
      have q0 : Wf.cell? ⟨w.heap.size + 1, 0, none⟩ = some (.int .u64 (uw f.code)) := HS.out.cell 0
      have q1 : Wf.cell? ⟨w.heap.size + 1, 1, none⟩ = some (.int .u64 (uw f.mask)) := HS.out.cell 1
      exact bodyPost_ret (v := .tuple #[f.val, .int .i64 0]) (by simp [results, Try.results20, go_sem, q0, q1]) rfl ⟨ret_of (by rw [HF.out]), HEf.out⟩
set_option maxRecDepth 100000 in
set_option maxHeartbeats 1000000 in
theorem refExtract_any (r : Nat → Int) (hr : ∀ n, 0 ≤ r n ∧ r n ≤ 255) (m : Int) (w : World) : Calls Try.prog 20 #[.agg (ringA r), .int .i64 m] w fun e w' => e = .returned (extV r m) ∧ Ext w w' := by
  cases h3 : inB m 1 255
  · have Hv := Lib.hid (show extV r m = .tuple #[Ir.zero.val, .int .i64 2] by simp [extV, h3])
    clear hr
    go_enter Try.func20, Try.ntmps20
    go_wp2_with (go_at_call 46; refine Calls.same (refWithin_any _ _ _ _) ?_)
    refine bodyPost_ret (v := .tuple #[Ir.zero.val, .int .i64 2]) (by simp [results, Try.results20, go_sem, Ir.zero, uw_zero]) rfl ⟨ret_of Hv.out.symm, ?_⟩
    repeat' (first | with_reducible exact Ext.refl _ | with_reducible refine Ext.alloc ?_ _ | with_reducible refine Ext.ext ?_ _ | with_reducible refine Ext.setCell ?_ (by simp) _)
  · have hv : extV r m = .tuple #[(fusK (dif r) m 64).val, .int .i64 0] := by simp only [extV, h3, if_true]
    rw [hv]
    exact refExtract_ok r hr m w h3
end Go.Proofs.Ytcacbolbedhcoaa
