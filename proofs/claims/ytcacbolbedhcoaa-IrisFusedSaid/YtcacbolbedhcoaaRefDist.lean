/- The reference: the distance over all turns. -/
import Derived.Test.YtcacbolbedhcoaaRefFar
namespace Go.Proofs.Ytcacbolbedhcoaa
open Go.RowKit

def turnAt (i : Nat) : Int := if i % 2 = 1 then (i + 1) / 2 else -(i / 2 : Nat)
theorem turnAt_in (i : Nat) (h : i ≤ 14) : -7 ≤ turnAt i ∧ turnAt i ≤ 7 := by unfold turnAt; split <;> omega
theorem ord_at : ∀ m, m < 8 → ∀ i, i < 2 * m + 1 → (ordL (m + 1))[i]? = some (t7 (turnAt i)) := by decide
theorem turnIdx_any (i : Nat) (hi : i ≤ 14) (w : World) : Calls Try.prog 67 #[.int .i64 i] w fun e w' => e = .returned (.int .i64 (turnAt i)) ∧ w = w' := by
  obtain rfl | rfl | rfl | rfl | rfl | rfl | rfl | rfl | rfl | rfl | rfl | rfl | rfl | rfl | rfl : i = 0 ∨ i = 1 ∨ i = 2 ∨ i = 3 ∨ i = 4 ∨ i = 5 ∨ i = 6 ∨ i = 7 ∨ i = 8 ∨ i = 9 ∨ i = 10 ∨ i = 11 ∨ i = 12 ∨ i = 13 ∨ i = 14 := by omega
  all_goals
    clear hi
    go_enter Try.func67, Try.ntmps67
    go_wp2
    go_ret
    exact ⟨rfl, rfl⟩

def bestK (a b : Ir) (m k : Nat) : Pt := bestP a b ((ordL (m + 1)).take k)
theorem bestK_succ (a b : Ir) (m k : Nat) (hm : m < 8) (hk : k < 2 * m + 1) : bestK a b m (k + 1) = stepP a b (bestK a b m k) (t7 (turnAt k)) := by
  have h := ord_at m hm k hk
  have hl := (List.getElem?_eq_some_iff.1 h)
  unfold bestK
  rw [List.take_succ_eq_append_getElem hl.1, bestP_snoc, hl.2]
theorem bestK_all (a b : Ir) (m : Nat) : bestK a b m (2 * m + 1) = bestP a b (ordL (m + 1)) := by
  unfold bestK; rw [List.take_of_length_le (by rw [ordL_len]; exact Nat.le_refl _)]

def fNum (p : Pt) : Int := if p.den == 0 then 0 else p.num
def fDen (p : Pt) : Int := if p.den == 0 then 1 else p.den
def fAt (p : Pt) : Int := if p.den == 0 then 0 else p.turn
def fIs (p : Pt) : Bool := !(p.den == 0)
def farV (p : Pt) : Value := .tuple #[.int .i64 (fNum p), .int .i64 (fDen p), .int .i64 (fAt p), .bool (fIs p)]

set_option maxRecDepth 100000 in
set_option maxHeartbeats 1000000 in
theorem Far_any (a b : Ir) (m : Nat) (hm : m < 8) (w : World) : Calls Try.prog 56 #[a.val, b.val, .int .i64 m] w fun e w' => e = .returned (farV (bestP a b (ordL (m + 1)))) ∧ Ext w w' := by
  have Hall := Lib.hid (bestK_all a b m)
  go_enter Try.func56, Try.ntmps56
  go_wp2_with fail
  have HB0 := Lib.hid ((Blk.new w 27 #[.int .u64 (uw a.code), .int .u64 (uw a.mask)]).alloc (.cells #[.int .u64 (uw b.code), .int .u64 (uw b.mask)] 27))
  have HB1 := Lib.hid (Blk.new' (w.alloc (.cells #[.int .u64 (uw a.code), .int .u64 (uw a.mask)] 27)) 27 #[.int .u64 (uw b.code), .int .u64 (uw b.mask)] (w.heap.size + 1) (by simp))
  have HE := Lib.hid (((Ext.refl w).alloc (.cells #[.int .u64 (uw a.code), .int .u64 (uw a.mask)] 27)).alloc (.cells #[.int .u64 (uw b.code), .int .u64 (uw b.mask)] 27))
  generalize (w.alloc (.cells #[.int .u64 (uw a.code), .int .u64 (uw a.mask)] 27)).alloc (.cells #[.int .u64 (uw b.code), .int .u64 (uw b.mask)] 27) = W at *
  have h0 : W.cell? ⟨w.heap.size, 0, none⟩ = some (.int .u64 (uw a.code)) := HB0.out.cell 0
  have h1 : W.cell? ⟨w.heap.size, 1, none⟩ = some (.int .u64 (uw a.mask)) := HB0.out.cell 1
  have h2 : W.cell? ⟨w.heap.size + 1, 0, none⟩ = some (.int .u64 (uw b.code)) := HB1.out.cell 0
  have h3 : W.cell? ⟨w.heap.size + 1, 1, none⟩ = some (.int .u64 (uw b.mask)) := HB1.out.cell 1
  have o0 := Old.mk HB0.out.lt
  have o1 := Old.mk HB1.out.lt
  go_loopw [10, 11, 12, 13, 14] (fun n d at_ is_ i wr => ∃ (k : Nat) (z : World), k ≤ 2 * m + 1 ∧ i = .int .i64 k ∧ n = .int .i64 (fNum (bestK a b m k)) ∧ d = .int .i64 (fDen (bestK a b m k)) ∧ at_ = .int .i64 (fAt (bestK a b m k)) ∧ is_ = .bool (fIs (bestK a b m k)) ∧ wr = ext W z) (fun _ _ _ _ i _ => 2 * m + 1 - (intOf i).toNat)
  case atStart => exact ⟨0, W, by omega, rfl, rfl, rfl, rfl, rfl, (ext_of (Ext.refl W)).symm⟩
  case round =>
    obtain ⟨k, z, hk, rfl, rfl, rfl, rfl, rfl, rfl⟩ := hrel
    by_cases hlt : k < 2 * m + 1
    · have hti := turnAt_in k (by omega)
      have hst := bestK_succ a b m k hm hlt
      unfold stepP at hst
      rw [t7_val _ hti] at hst
      have hfp := best_fit a b ((ordL (m + 1)).take k)
      have hfq := part_fit a b (turnAt k)
      have C1 := Lib.hid (turnIdx_any k (by omega))
      have C2 := Lib.hid (fun w => Compared_any a b (turnAt k) w hti)
      obtain ⟨q, hq⟩ : ∃ q, partP a b (turnAt k) = q := ⟨_, rfl⟩
      have hq1 : ctr (turnI' a (turnAt k)) b = q.num := by rw [← hq]; rfl
      have hq2 : cdn (turnI' a (turnAt k)) b = q.den := by rw [← hq]; rfl
      have hq3 : turnAt k = q.turn := by rw [← hq]; rfl
      rw [hq] at hst hfq
      rw [hq1, hq2] at C2
      clear hq hq1 hq2
      change (bestK a b m k).fit at hfp
      generalize bestK a b m k = p at *
      obtain ⟨p0, p1, p2, p3⟩ := hfp
      obtain ⟨q0, q1, q2, q3⟩ := hfq
      have m1 := mul_le q.num p.den q0 q1 p2 p3
      have m2 := mul_le p.num q.den p0 p1 q2 q3
      have HQ3 := Lib.hid hq3
      clear hq3
      cases h16 : decide (16 ≤ q.den)
      · have Hst := Lib.hid (show bestK a b m (k + 1) = p by rw [hst, h16]; rfl)
        clear hst
        have S1 := Lib.hid (show fNum (bestK a b m (k + 1)) = fNum p by rw [Hst.out])
        have S2 := Lib.hid (show fDen (bestK a b m (k + 1)) = fDen p by rw [Hst.out])
        have S3 := Lib.hid (show fAt (bestK a b m (k + 1)) = fAt p by rw [Hst.out])
        have S4 := Lib.hid (show fIs (bestK a b m (k + 1)) = fIs p by rw [Hst.out])
        clear Hst
        generalize fNum p = x1 at *
        generalize fDen p = x2 at *
        generalize fAt p = x3 at *
        generalize fIs p = x4 at *
        go_wp2_with fail
        refine wp_region_ext (by kernel_rfl) (by kernel_rfl) ?_
        repeat (go_big_quiet_step ((first | (go_at_call 67; exact Calls.quiet_same (C1.out _)) | (go_at_call 54; exact Calls.quiet_ext (C2.out _)))))
        refine wpQuiet_nil ?_
        rintro _ ⟨z2, rfl⟩
        go_wp2_with (go_at_call 67; refine Calls.same (C1.out _) ?_)
        go_roundw
        case rel => exact ⟨k + 1, _, by omega, by go_num, by rw [S1.out], by rw [S2.out], by rw [S3.out], by rw [S4.out], (ext_of (((Ext.refl W).ext z).ext z2)).symm⟩
        case measure => simp [intOf]; omega
      · have hqd : (q.den == 0) = false := by simp at h16 ⊢; omega
        have hq0 : decide (0 < q.den) = true := by simp at h16 ⊢; omega
        have u1 : fNum q = q.num := by simp [fNum, hqd]
        have u2 : fDen q = q.den := by simp [fDen, hqd]
        have u3 : fAt q = q.turn := by simp [fAt, hqd]
        have u4 : fIs q = true := by simp [fIs, hqd]
        cases hpd : (p.den == 0)
        · have s1 : fNum p = p.num := by simp [fNum, hpd]
          have s2 : fDen p = p.den := by simp [fDen, hpd]
          have s3 : fAt p = p.turn := by simp [fAt, hpd]
          have s4 : fIs p = true := by simp [fIs, hpd]
          rw [s1, s2, s3, s4]
          cases hls : decide (q.num * p.den < p.num * q.den)
          · have Hst := Lib.hid (show bestK a b m (k + 1) = p by rw [hst, h16, lessP, hq0, hpd, hls]; rfl)
            have S1 := Lib.hid (show fNum (bestK a b m (k + 1)) = p.num by rw [Hst.out, s1])
            have S2 := Lib.hid (show fDen (bestK a b m (k + 1)) = p.den by rw [Hst.out, s2])
            have S3 := Lib.hid (show fAt (bestK a b m (k + 1)) = p.turn by rw [Hst.out, s3])
            have S4 := Lib.hid (show fIs (bestK a b m (k + 1)) = true by rw [Hst.out, s4])
            clear Hst hst s1 s2 s3 s4 u1 u2 u3 u4 hqd hq0
            go_wp2_with fail
            refine wp_region_ext (by kernel_rfl) (by kernel_rfl) ?_
            repeat (go_big_quiet_step ((first | (go_at_call 67; exact Calls.quiet_same (C1.out _)) | (go_at_call 54; exact Calls.quiet_ext (C2.out _)))))
            refine wpQuiet_nil ?_
            rintro _ ⟨z2, rfl⟩
            go_wp2_with (go_at_call 67; refine Calls.same (C1.out _) ?_)
            go_roundw
            case rel => exact ⟨k + 1, _, by omega, by go_num, by rw [S1.out], by rw [S2.out], by rw [S3.out], by rw [S4.out], (ext_of (((Ext.refl W).ext z).ext z2)).symm⟩
            case measure => simp [intOf]; omega
          · have Hst := Lib.hid (show bestK a b m (k + 1) = q by rw [hst, h16, lessP, hq0, hpd, hls]; rfl)
            have S1 := Lib.hid (show fNum (bestK a b m (k + 1)) = q.num by rw [Hst.out, u1])
            have S2 := Lib.hid (show fDen (bestK a b m (k + 1)) = q.den by rw [Hst.out, u2])
            have S3 := Lib.hid (show fAt (bestK a b m (k + 1)) = turnAt k by rw [Hst.out, u3, HQ3.out])
            have S4 := Lib.hid (show fIs (bestK a b m (k + 1)) = true by rw [Hst.out, u4])
            clear Hst hst s1 s2 s3 s4 u1 u2 u3 u4 hqd hq0
            go_wp2_with fail
            refine wp_region_ext (by kernel_rfl) (by kernel_rfl) ?_
            repeat (go_big_quiet_step ((first | (go_at_call 67; exact Calls.quiet_same (C1.out _)) | (go_at_call 54; exact Calls.quiet_ext (C2.out _)))))
            refine wpQuiet_nil ?_
            rintro _ ⟨z2, rfl⟩
            go_wp2_with (go_at_call 67; refine Calls.same (C1.out _) ?_)
            go_roundw
            case rel => exact ⟨k + 1, _, by omega, by go_num, by rw [S1.out], by rw [S2.out], by rw [S3.out], by rw [S4.out], (ext_of (((Ext.refl W).ext z).ext z2)).symm⟩
            case measure => simp [intOf]; omega
        · have s1 : fNum p = 0 := by simp [fNum, hpd]
          have s2 : fDen p = 1 := by simp [fDen, hpd]
          have s3 : fAt p = 0 := by simp [fAt, hpd]
          have s4 : fIs p = false := by simp [fIs, hpd]
          rw [s1, s2, s3, s4]
          have Hst := Lib.hid (show bestK a b m (k + 1) = q by rw [hst, h16, lessP, hq0, hpd]; rfl)
          have S1 := Lib.hid (show fNum (bestK a b m (k + 1)) = q.num by rw [Hst.out, u1])
          have S2 := Lib.hid (show fDen (bestK a b m (k + 1)) = q.den by rw [Hst.out, u2])
          have S3 := Lib.hid (show fAt (bestK a b m (k + 1)) = turnAt k by rw [Hst.out, u3, HQ3.out])
          have S4 := Lib.hid (show fIs (bestK a b m (k + 1)) = true by rw [Hst.out, u4])
          clear Hst hst s1 s2 s3 s4 u1 u2 u3 u4 hqd hq0
          go_wp2_with fail
          refine wp_region_ext (by kernel_rfl) (by kernel_rfl) ?_
          repeat (go_big_quiet_step ((first | (go_at_call 67; exact Calls.quiet_same (C1.out _)) | (go_at_call 54; exact Calls.quiet_ext (C2.out _)))))
          refine wpQuiet_nil ?_
          rintro _ ⟨z2, rfl⟩
          go_wp2_with (go_at_call 67; refine Calls.same (C1.out _) ?_)
          go_roundw
          case rel => exact ⟨k + 1, _, by omega, by go_num, by rw [S1.out], by rw [S2.out], by rw [S3.out], by rw [S4.out], (ext_of (((Ext.refl W).ext z).ext z2)).symm⟩
          case measure => simp [intOf]; omega
    · have hk' : k = 2 * m + 1 := by omega
      have hall := Hall.out
      rw [← hk'] at hall
      generalize hp : bestK a b m k = p at *
      go_wp2_with fail
      refine bodyPost_ret (v := farV p) (by simp [results, Try.results56, go_sem, farV]) rfl ⟨ret_of (by rw [hall]), HE.out.ext z⟩
end Go.Proofs.Ytcacbolbedhcoaa
