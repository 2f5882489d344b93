/- Turns, crossings. -/
import Derived.Test.YtchplmenkdghcaaTopRing
namespace Go.Proofs.Ytchplmenkdghcaa
open Go.RowKit

def tP (f : Nat → Bool) (i : Nat) : Bool := !f (2 * i) && (f (2 * i + 1) || f ((2 * i + 2) % 8))
def cP (f : Nat → Bool) (d : Nat) : Bool := !f d && f ((d + 1) % 8)
def cntN (p : Nat → Bool) : Nat → Nat
  | 0 => 0
  | k + 1 => cntN p k + (if p k then 1 else 0)
theorem cnt_le (p : Nat → Bool) : ∀ k, cntN p k ≤ k
  | 0 => Nat.le_refl _
  | k + 1 => by have := cnt_le p k; unfold cntN; split <;> omega
theorem filt_cnt (p : Nat → Bool) : ∀ k, ((List.range k).filter p).length = cntN p k
  | 0 => rfl
  | k + 1 => by
    rw [List.range_succ, List.filter_append, List.length_append, filt_cnt p k]
    show _ = cntN p k + (if p k then 1 else 0)
    cases h : p k <;> simp [h]
theorem getD_ring (f : Nat → Bool) {j : Nat} (h : j < 8) : ((List.range 8).map f).getD j false = f j := by
  rw [List.getD_eq_getElem?_getD, List.getElem?_map, List.getElem?_range h]; rfl
theorem turns_cnt (f : Nat → Bool) : turnsF ((List.range 8).map f) = cntN (tP f) 4 := by
  unfold turnsF
  rw [← filt_cnt]
  congr 1
theorem cross_cnt (f : Nat → Bool) : crossF ((List.range 8).map f) = cntN (cP f) 8 := by
  unfold crossF
  rw [← filt_cnt]
  congr 1
set_option maxRecDepth 100000 in
set_option maxHeartbeats 4000000 in
theorem turns_any (f : Nat → Bool) (w : World) : Calls Try.prog 34 #[.agg (rA f)] w fun e w' => e = .returned (.int .i64 (cntN (tP f) 4 : Nat)) ∧ Ext w w' := by
  have HB := Lib.hid (Blk.new w 93 (rA f))
  have HE := Lib.hid ((Ext.refl w).alloc (.cells (rA f) 93))
  have HP := Lib.hid (show ∀ k, cntN (tP f) (k + 1) = cntN (tP f) k + (if tP f k then 1 else 0) from fun _ => rfl)
  have HQ := Lib.hid (show ∀ k, tP f k = (!f (2 * k) && (f (2 * k + 1) || f ((2 * k + 2) % 8))) from fun _ => rfl)
  generalize tP f = pp at *
  go_enter Try.func34, Try.ntmps34
  go_wp2_with fail
  change Code.wp _ _ _ _ (w.alloc (.cells (rA f) 93))
  generalize w.alloc (.cells (rA f) 93) = V at *
  have c0 : V.cell? ⟨w.heap.size, 0, none⟩ = some (.bool (f 0)) := HB.out.cell 0
  have c1 : V.cell? ⟨w.heap.size, 1, none⟩ = some (.bool (f 1)) := HB.out.cell 1
  have c2 : V.cell? ⟨w.heap.size, 2, none⟩ = some (.bool (f 2)) := HB.out.cell 2
  have c3 : V.cell? ⟨w.heap.size, 3, none⟩ = some (.bool (f 3)) := HB.out.cell 3
  have c4 : V.cell? ⟨w.heap.size, 4, none⟩ = some (.bool (f 4)) := HB.out.cell 4
  have c5 : V.cell? ⟨w.heap.size, 5, none⟩ = some (.bool (f 5)) := HB.out.cell 5
  have c6 : V.cell? ⟨w.heap.size, 6, none⟩ = some (.bool (f 6)) := HB.out.cell 6
  have c7 : V.cell? ⟨w.heap.size, 7, none⟩ = some (.bool (f 7)) := HB.out.cell 7
  have oB := Old.mk HB.out.lt
  go_loopw [3, 4] (fun s i wr => ∃ (k n : Nat), k ≤ 4 ∧ i = .int .i64 (2 * k : Nat) ∧ s = .int .i64 n ∧ n = cntN pp k ∧ wr = V) (fun s i _ => 8 - (intOf i).toNat)
  case atStart => exact ⟨0, 0, by omega, rfl, rfl, rfl, rfl⟩
  case round =>
    obtain ⟨k, n, hk, rfl, rfl, hn, rfl⟩ := hrel
    have hnb : n ≤ 8 := by rw [hn]; exact Nat.le_trans (cnt_le pp k) (by omega)
    have HN := Lib.hid hn
    clear hn
    have hp := HQ.out k
    have hc := HP.out k
    by_cases hk8 : k < 4
    · rcases (show k = 0 ∨ k = 1 ∨ k = 2 ∨ k = 3 by omega) with rfl | rfl | rfl | rfl
      · simp only [Nat.reduceMul, Nat.reduceAdd, Nat.reduceMod] at hp
        have w0 : IntKind.i64.wrap ((n : Int) + 1) = (n : Int) + 1 := IntWalk.i64_in _ (by omega)
        generalize f 0 = u0 at *
        generalize f 1 = u1 at *
        generalize f 2 = u2 at *
        cases u0
        · cases u1
          · cases u2
            · have hpv : pp 0 = false := by rw [hp]; rfl
              rw [hpv] at hc
              go_wp2_with fail
              exact ⟨⟨1, n, by omega, by go_num, by go_num, by rw [hc, ← HN.out]; rfl, by simp⟩, by simp [intOf]⟩
            · have hpv : pp 0 = true := by rw [hp]; rfl
              rw [hpv] at hc
              go_wp2_with fail
              exact ⟨⟨1, n + 1, by omega, by go_num, by go_num, by rw [hc, ← HN.out]; rfl, by simp⟩, by simp [intOf]⟩
          · cases u2
            · have hpv : pp 0 = true := by rw [hp]; rfl
              rw [hpv] at hc
              go_wp2_with fail
              exact ⟨⟨1, n + 1, by omega, by go_num, by go_num, by rw [hc, ← HN.out]; rfl, by simp⟩, by simp [intOf]⟩
            · have hpv : pp 0 = true := by rw [hp]; rfl
              rw [hpv] at hc
              go_wp2_with fail
              exact ⟨⟨1, n + 1, by omega, by go_num, by go_num, by rw [hc, ← HN.out]; rfl, by simp⟩, by simp [intOf]⟩
        · cases u1
          · cases u2
            · have hpv : pp 0 = false := by rw [hp]; rfl
              rw [hpv] at hc
              go_wp2_with fail
              exact ⟨⟨1, n, by omega, by go_num, by go_num, by rw [hc, ← HN.out]; rfl, by simp⟩, by simp [intOf]⟩
            · have hpv : pp 0 = false := by rw [hp]; rfl
              rw [hpv] at hc
              go_wp2_with fail
              exact ⟨⟨1, n, by omega, by go_num, by go_num, by rw [hc, ← HN.out]; rfl, by simp⟩, by simp [intOf]⟩
          · cases u2
            · have hpv : pp 0 = false := by rw [hp]; rfl
              rw [hpv] at hc
              go_wp2_with fail
              exact ⟨⟨1, n, by omega, by go_num, by go_num, by rw [hc, ← HN.out]; rfl, by simp⟩, by simp [intOf]⟩
            · have hpv : pp 0 = false := by rw [hp]; rfl
              rw [hpv] at hc
              go_wp2_with fail
              exact ⟨⟨1, n, by omega, by go_num, by go_num, by rw [hc, ← HN.out]; rfl, by simp⟩, by simp [intOf]⟩
      · simp only [Nat.reduceMul, Nat.reduceAdd, Nat.reduceMod] at hp
        have w0 : IntKind.i64.wrap ((n : Int) + 1) = (n : Int) + 1 := IntWalk.i64_in _ (by omega)
        generalize f 2 = u2 at *
        generalize f 3 = u3 at *
        generalize f 4 = u4 at *
        cases u2
        · cases u3
          · cases u4
            · have hpv : pp 1 = false := by rw [hp]; rfl
              rw [hpv] at hc
              go_wp2_with fail
              exact ⟨⟨2, n, by omega, by go_num, by go_num, by rw [hc, ← HN.out]; rfl, by simp⟩, by simp [intOf]⟩
            · have hpv : pp 1 = true := by rw [hp]; rfl
              rw [hpv] at hc
              go_wp2_with fail
              exact ⟨⟨2, n + 1, by omega, by go_num, by go_num, by rw [hc, ← HN.out]; rfl, by simp⟩, by simp [intOf]⟩
          · cases u4
            · have hpv : pp 1 = true := by rw [hp]; rfl
              rw [hpv] at hc
              go_wp2_with fail
              exact ⟨⟨2, n + 1, by omega, by go_num, by go_num, by rw [hc, ← HN.out]; rfl, by simp⟩, by simp [intOf]⟩
            · have hpv : pp 1 = true := by rw [hp]; rfl
              rw [hpv] at hc
              go_wp2_with fail
              exact ⟨⟨2, n + 1, by omega, by go_num, by go_num, by rw [hc, ← HN.out]; rfl, by simp⟩, by simp [intOf]⟩
        · cases u3
          · cases u4
            · have hpv : pp 1 = false := by rw [hp]; rfl
              rw [hpv] at hc
              go_wp2_with fail
              exact ⟨⟨2, n, by omega, by go_num, by go_num, by rw [hc, ← HN.out]; rfl, by simp⟩, by simp [intOf]⟩
            · have hpv : pp 1 = false := by rw [hp]; rfl
              rw [hpv] at hc
              go_wp2_with fail
              exact ⟨⟨2, n, by omega, by go_num, by go_num, by rw [hc, ← HN.out]; rfl, by simp⟩, by simp [intOf]⟩
          · cases u4
            · have hpv : pp 1 = false := by rw [hp]; rfl
              rw [hpv] at hc
              go_wp2_with fail
              exact ⟨⟨2, n, by omega, by go_num, by go_num, by rw [hc, ← HN.out]; rfl, by simp⟩, by simp [intOf]⟩
            · have hpv : pp 1 = false := by rw [hp]; rfl
              rw [hpv] at hc
              go_wp2_with fail
              exact ⟨⟨2, n, by omega, by go_num, by go_num, by rw [hc, ← HN.out]; rfl, by simp⟩, by simp [intOf]⟩
      · simp only [Nat.reduceMul, Nat.reduceAdd, Nat.reduceMod] at hp
        have w0 : IntKind.i64.wrap ((n : Int) + 1) = (n : Int) + 1 := IntWalk.i64_in _ (by omega)
        generalize f 4 = u4 at *
        generalize f 5 = u5 at *
        generalize f 6 = u6 at *
        cases u4
        · cases u5
          · cases u6
            · have hpv : pp 2 = false := by rw [hp]; rfl
              rw [hpv] at hc
              go_wp2_with fail
              exact ⟨⟨3, n, by omega, by go_num, by go_num, by rw [hc, ← HN.out]; rfl, by simp⟩, by simp [intOf]⟩
            · have hpv : pp 2 = true := by rw [hp]; rfl
              rw [hpv] at hc
              go_wp2_with fail
              exact ⟨⟨3, n + 1, by omega, by go_num, by go_num, by rw [hc, ← HN.out]; rfl, by simp⟩, by simp [intOf]⟩
          · cases u6
            · have hpv : pp 2 = true := by rw [hp]; rfl
              rw [hpv] at hc
              go_wp2_with fail
              exact ⟨⟨3, n + 1, by omega, by go_num, by go_num, by rw [hc, ← HN.out]; rfl, by simp⟩, by simp [intOf]⟩
            · have hpv : pp 2 = true := by rw [hp]; rfl
              rw [hpv] at hc
              go_wp2_with fail
              exact ⟨⟨3, n + 1, by omega, by go_num, by go_num, by rw [hc, ← HN.out]; rfl, by simp⟩, by simp [intOf]⟩
        · cases u5
          · cases u6
            · have hpv : pp 2 = false := by rw [hp]; rfl
              rw [hpv] at hc
              go_wp2_with fail
              exact ⟨⟨3, n, by omega, by go_num, by go_num, by rw [hc, ← HN.out]; rfl, by simp⟩, by simp [intOf]⟩
            · have hpv : pp 2 = false := by rw [hp]; rfl
              rw [hpv] at hc
              go_wp2_with fail
              exact ⟨⟨3, n, by omega, by go_num, by go_num, by rw [hc, ← HN.out]; rfl, by simp⟩, by simp [intOf]⟩
          · cases u6
            · have hpv : pp 2 = false := by rw [hp]; rfl
              rw [hpv] at hc
              go_wp2_with fail
              exact ⟨⟨3, n, by omega, by go_num, by go_num, by rw [hc, ← HN.out]; rfl, by simp⟩, by simp [intOf]⟩
            · have hpv : pp 2 = false := by rw [hp]; rfl
              rw [hpv] at hc
              go_wp2_with fail
              exact ⟨⟨3, n, by omega, by go_num, by go_num, by rw [hc, ← HN.out]; rfl, by simp⟩, by simp [intOf]⟩
      · simp only [Nat.reduceMul, Nat.reduceAdd, Nat.reduceMod] at hp
        have w0 : IntKind.i64.wrap ((n : Int) + 1) = (n : Int) + 1 := IntWalk.i64_in _ (by omega)
        generalize f 6 = u6 at *
        generalize f 7 = u7 at *
        generalize f 0 = u0 at *
        cases u6
        · cases u7
          · cases u0
            · have hpv : pp 3 = false := by rw [hp]; rfl
              rw [hpv] at hc
              go_wp2_with fail
              exact ⟨⟨4, n, by omega, by go_num, by go_num, by rw [hc, ← HN.out]; rfl, by simp⟩, by simp [intOf]⟩
            · have hpv : pp 3 = true := by rw [hp]; rfl
              rw [hpv] at hc
              go_wp2_with fail
              exact ⟨⟨4, n + 1, by omega, by go_num, by go_num, by rw [hc, ← HN.out]; rfl, by simp⟩, by simp [intOf]⟩
          · cases u0
            · have hpv : pp 3 = true := by rw [hp]; rfl
              rw [hpv] at hc
              go_wp2_with fail
              exact ⟨⟨4, n + 1, by omega, by go_num, by go_num, by rw [hc, ← HN.out]; rfl, by simp⟩, by simp [intOf]⟩
            · have hpv : pp 3 = true := by rw [hp]; rfl
              rw [hpv] at hc
              go_wp2_with fail
              exact ⟨⟨4, n + 1, by omega, by go_num, by go_num, by rw [hc, ← HN.out]; rfl, by simp⟩, by simp [intOf]⟩
        · cases u7
          · cases u0
            · have hpv : pp 3 = false := by rw [hp]; rfl
              rw [hpv] at hc
              go_wp2_with fail
              exact ⟨⟨4, n, by omega, by go_num, by go_num, by rw [hc, ← HN.out]; rfl, by simp⟩, by simp [intOf]⟩
            · have hpv : pp 3 = false := by rw [hp]; rfl
              rw [hpv] at hc
              go_wp2_with fail
              exact ⟨⟨4, n, by omega, by go_num, by go_num, by rw [hc, ← HN.out]; rfl, by simp⟩, by simp [intOf]⟩
          · cases u0
            · have hpv : pp 3 = false := by rw [hp]; rfl
              rw [hpv] at hc
              go_wp2_with fail
              exact ⟨⟨4, n, by omega, by go_num, by go_num, by rw [hc, ← HN.out]; rfl, by simp⟩, by simp [intOf]⟩
            · have hpv : pp 3 = false := by rw [hp]; rfl
              rw [hpv] at hc
              go_wp2_with fail
              exact ⟨⟨4, n, by omega, by go_num, by go_num, by rw [hc, ← HN.out]; rfl, by simp⟩, by simp [intOf]⟩
    · obtain rfl : k = 4 := by omega
      go_wp2_with fail
      go_ret
      exact ⟨ret_of (by rw [HN.out]; rfl), HE.out⟩
set_option maxRecDepth 100000 in
set_option maxHeartbeats 4000000 in
theorem cross_any (f : Nat → Bool) (w : World) : Calls Try.prog 38 #[.agg (rA f)] w fun e w' => e = .returned (.int .i64 (cntN (cP f) 8 : Nat)) ∧ Ext w w' := by
  have HB := Lib.hid (Blk.new w 93 (rA f))
  have HE := Lib.hid ((Ext.refl w).alloc (.cells (rA f) 93))
  have HP := Lib.hid (show ∀ k, cntN (cP f) (k + 1) = cntN (cP f) k + (if cP f k then 1 else 0) from fun _ => rfl)
  have HQ := Lib.hid (show ∀ k, cP f k = (!f k && f ((k + 1) % 8)) from fun _ => rfl)
  generalize cP f = pp at *
  go_enter Try.func38, Try.ntmps38
  go_wp2_with fail
  change Code.wp _ _ _ _ (w.alloc (.cells (rA f) 93))
  generalize w.alloc (.cells (rA f) 93) = V at *
  have c0 : V.cell? ⟨w.heap.size, 0, none⟩ = some (.bool (f 0)) := HB.out.cell 0
  have c1 : V.cell? ⟨w.heap.size, 1, none⟩ = some (.bool (f 1)) := HB.out.cell 1
  have c2 : V.cell? ⟨w.heap.size, 2, none⟩ = some (.bool (f 2)) := HB.out.cell 2
  have c3 : V.cell? ⟨w.heap.size, 3, none⟩ = some (.bool (f 3)) := HB.out.cell 3
  have c4 : V.cell? ⟨w.heap.size, 4, none⟩ = some (.bool (f 4)) := HB.out.cell 4
  have c5 : V.cell? ⟨w.heap.size, 5, none⟩ = some (.bool (f 5)) := HB.out.cell 5
  have c6 : V.cell? ⟨w.heap.size, 6, none⟩ = some (.bool (f 6)) := HB.out.cell 6
  have c7 : V.cell? ⟨w.heap.size, 7, none⟩ = some (.bool (f 7)) := HB.out.cell 7
  have oB := Old.mk HB.out.lt
  go_loopw [3, 4, 5] (fun s _ i wr => ∃ (k n : Nat), k ≤ 8 ∧ i = .int .i64 (1 * k : Nat) ∧ s = .int .i64 n ∧ n = cntN pp k ∧ wr = V) (fun s _ i _ => 8 - (intOf i).toNat)
  case atStart => exact ⟨0, 0, by omega, rfl, rfl, rfl, rfl⟩
  case round =>
    obtain ⟨k, n, hk, rfl, rfl, hn, rfl⟩ := hrel
    have hnb : n ≤ 8 := by rw [hn]; exact Nat.le_trans (cnt_le pp k) (by omega)
    have HN := Lib.hid hn
    clear hn
    have hp := HQ.out k
    have hc := HP.out k
    by_cases hk8 : k < 8
    · rcases (show k = 0 ∨ k = 1 ∨ k = 2 ∨ k = 3 ∨ k = 4 ∨ k = 5 ∨ k = 6 ∨ k = 7 by omega) with rfl | rfl | rfl | rfl | rfl | rfl | rfl | rfl
      · simp only [Nat.reduceAdd, Nat.reduceMod] at hp
        have w0 : IntKind.i64.wrap ((n : Int) + 1) = (n : Int) + 1 := IntWalk.i64_in _ (by omega)
        generalize f 0 = u0 at *
        generalize f 1 = u1 at *
        cases u0
        · cases u1
          · have hpv : pp 0 = false := by rw [hp]; rfl
            rw [hpv] at hc
            go_wp2_with fail
            exact ⟨⟨1, n, by omega, by go_num, by go_num, by rw [hc, ← HN.out]; rfl, by simp⟩, by simp [intOf]⟩
          · have hpv : pp 0 = true := by rw [hp]; rfl
            rw [hpv] at hc
            go_wp2_with fail
            exact ⟨⟨1, n + 1, by omega, by go_num, by go_num, by rw [hc, ← HN.out]; rfl, by simp⟩, by simp [intOf]⟩
        · cases u1
          · have hpv : pp 0 = false := by rw [hp]; rfl
            rw [hpv] at hc
            go_wp2_with fail
            exact ⟨⟨1, n, by omega, by go_num, by go_num, by rw [hc, ← HN.out]; rfl, by simp⟩, by simp [intOf]⟩
          · have hpv : pp 0 = false := by rw [hp]; rfl
            rw [hpv] at hc
            go_wp2_with fail
            exact ⟨⟨1, n, by omega, by go_num, by go_num, by rw [hc, ← HN.out]; rfl, by simp⟩, by simp [intOf]⟩
      · simp only [Nat.reduceAdd, Nat.reduceMod] at hp
        have w0 : IntKind.i64.wrap ((n : Int) + 1) = (n : Int) + 1 := IntWalk.i64_in _ (by omega)
        generalize f 1 = u1 at *
        generalize f 2 = u2 at *
        cases u1
        · cases u2
          · have hpv : pp 1 = false := by rw [hp]; rfl
            rw [hpv] at hc
            go_wp2_with fail
            exact ⟨⟨2, n, by omega, by go_num, by go_num, by rw [hc, ← HN.out]; rfl, by simp⟩, by simp [intOf]⟩
          · have hpv : pp 1 = true := by rw [hp]; rfl
            rw [hpv] at hc
            go_wp2_with fail
            exact ⟨⟨2, n + 1, by omega, by go_num, by go_num, by rw [hc, ← HN.out]; rfl, by simp⟩, by simp [intOf]⟩
        · cases u2
          · have hpv : pp 1 = false := by rw [hp]; rfl
            rw [hpv] at hc
            go_wp2_with fail
            exact ⟨⟨2, n, by omega, by go_num, by go_num, by rw [hc, ← HN.out]; rfl, by simp⟩, by simp [intOf]⟩
          · have hpv : pp 1 = false := by rw [hp]; rfl
            rw [hpv] at hc
            go_wp2_with fail
            exact ⟨⟨2, n, by omega, by go_num, by go_num, by rw [hc, ← HN.out]; rfl, by simp⟩, by simp [intOf]⟩
      · simp only [Nat.reduceAdd, Nat.reduceMod] at hp
        have w0 : IntKind.i64.wrap ((n : Int) + 1) = (n : Int) + 1 := IntWalk.i64_in _ (by omega)
        generalize f 2 = u2 at *
        generalize f 3 = u3 at *
        cases u2
        · cases u3
          · have hpv : pp 2 = false := by rw [hp]; rfl
            rw [hpv] at hc
            go_wp2_with fail
            exact ⟨⟨3, n, by omega, by go_num, by go_num, by rw [hc, ← HN.out]; rfl, by simp⟩, by simp [intOf]⟩
          · have hpv : pp 2 = true := by rw [hp]; rfl
            rw [hpv] at hc
            go_wp2_with fail
            exact ⟨⟨3, n + 1, by omega, by go_num, by go_num, by rw [hc, ← HN.out]; rfl, by simp⟩, by simp [intOf]⟩
        · cases u3
          · have hpv : pp 2 = false := by rw [hp]; rfl
            rw [hpv] at hc
            go_wp2_with fail
            exact ⟨⟨3, n, by omega, by go_num, by go_num, by rw [hc, ← HN.out]; rfl, by simp⟩, by simp [intOf]⟩
          · have hpv : pp 2 = false := by rw [hp]; rfl
            rw [hpv] at hc
            go_wp2_with fail
            exact ⟨⟨3, n, by omega, by go_num, by go_num, by rw [hc, ← HN.out]; rfl, by simp⟩, by simp [intOf]⟩
      · simp only [Nat.reduceAdd, Nat.reduceMod] at hp
        have w0 : IntKind.i64.wrap ((n : Int) + 1) = (n : Int) + 1 := IntWalk.i64_in _ (by omega)
        generalize f 3 = u3 at *
        generalize f 4 = u4 at *
        cases u3
        · cases u4
          · have hpv : pp 3 = false := by rw [hp]; rfl
            rw [hpv] at hc
            go_wp2_with fail
            exact ⟨⟨4, n, by omega, by go_num, by go_num, by rw [hc, ← HN.out]; rfl, by simp⟩, by simp [intOf]⟩
          · have hpv : pp 3 = true := by rw [hp]; rfl
            rw [hpv] at hc
            go_wp2_with fail
            exact ⟨⟨4, n + 1, by omega, by go_num, by go_num, by rw [hc, ← HN.out]; rfl, by simp⟩, by simp [intOf]⟩
        · cases u4
          · have hpv : pp 3 = false := by rw [hp]; rfl
            rw [hpv] at hc
            go_wp2_with fail
            exact ⟨⟨4, n, by omega, by go_num, by go_num, by rw [hc, ← HN.out]; rfl, by simp⟩, by simp [intOf]⟩
          · have hpv : pp 3 = false := by rw [hp]; rfl
            rw [hpv] at hc
            go_wp2_with fail
            exact ⟨⟨4, n, by omega, by go_num, by go_num, by rw [hc, ← HN.out]; rfl, by simp⟩, by simp [intOf]⟩
      · simp only [Nat.reduceAdd, Nat.reduceMod] at hp
        have w0 : IntKind.i64.wrap ((n : Int) + 1) = (n : Int) + 1 := IntWalk.i64_in _ (by omega)
        generalize f 4 = u4 at *
        generalize f 5 = u5 at *
        cases u4
        · cases u5
          · have hpv : pp 4 = false := by rw [hp]; rfl
            rw [hpv] at hc
            go_wp2_with fail
            exact ⟨⟨5, n, by omega, by go_num, by go_num, by rw [hc, ← HN.out]; rfl, by simp⟩, by simp [intOf]⟩
          · have hpv : pp 4 = true := by rw [hp]; rfl
            rw [hpv] at hc
            go_wp2_with fail
            exact ⟨⟨5, n + 1, by omega, by go_num, by go_num, by rw [hc, ← HN.out]; rfl, by simp⟩, by simp [intOf]⟩
        · cases u5
          · have hpv : pp 4 = false := by rw [hp]; rfl
            rw [hpv] at hc
            go_wp2_with fail
            exact ⟨⟨5, n, by omega, by go_num, by go_num, by rw [hc, ← HN.out]; rfl, by simp⟩, by simp [intOf]⟩
          · have hpv : pp 4 = false := by rw [hp]; rfl
            rw [hpv] at hc
            go_wp2_with fail
            exact ⟨⟨5, n, by omega, by go_num, by go_num, by rw [hc, ← HN.out]; rfl, by simp⟩, by simp [intOf]⟩
      · simp only [Nat.reduceAdd, Nat.reduceMod] at hp
        have w0 : IntKind.i64.wrap ((n : Int) + 1) = (n : Int) + 1 := IntWalk.i64_in _ (by omega)
        generalize f 5 = u5 at *
        generalize f 6 = u6 at *
        cases u5
        · cases u6
          · have hpv : pp 5 = false := by rw [hp]; rfl
            rw [hpv] at hc
            go_wp2_with fail
            exact ⟨⟨6, n, by omega, by go_num, by go_num, by rw [hc, ← HN.out]; rfl, by simp⟩, by simp [intOf]⟩
          · have hpv : pp 5 = true := by rw [hp]; rfl
            rw [hpv] at hc
            go_wp2_with fail
            exact ⟨⟨6, n + 1, by omega, by go_num, by go_num, by rw [hc, ← HN.out]; rfl, by simp⟩, by simp [intOf]⟩
        · cases u6
          · have hpv : pp 5 = false := by rw [hp]; rfl
            rw [hpv] at hc
            go_wp2_with fail
            exact ⟨⟨6, n, by omega, by go_num, by go_num, by rw [hc, ← HN.out]; rfl, by simp⟩, by simp [intOf]⟩
          · have hpv : pp 5 = false := by rw [hp]; rfl
            rw [hpv] at hc
            go_wp2_with fail
            exact ⟨⟨6, n, by omega, by go_num, by go_num, by rw [hc, ← HN.out]; rfl, by simp⟩, by simp [intOf]⟩
      · simp only [Nat.reduceAdd, Nat.reduceMod] at hp
        have w0 : IntKind.i64.wrap ((n : Int) + 1) = (n : Int) + 1 := IntWalk.i64_in _ (by omega)
        generalize f 6 = u6 at *
        generalize f 7 = u7 at *
        cases u6
        · cases u7
          · have hpv : pp 6 = false := by rw [hp]; rfl
            rw [hpv] at hc
            go_wp2_with fail
            exact ⟨⟨7, n, by omega, by go_num, by go_num, by rw [hc, ← HN.out]; rfl, by simp⟩, by simp [intOf]⟩
          · have hpv : pp 6 = true := by rw [hp]; rfl
            rw [hpv] at hc
            go_wp2_with fail
            exact ⟨⟨7, n + 1, by omega, by go_num, by go_num, by rw [hc, ← HN.out]; rfl, by simp⟩, by simp [intOf]⟩
        · cases u7
          · have hpv : pp 6 = false := by rw [hp]; rfl
            rw [hpv] at hc
            go_wp2_with fail
            exact ⟨⟨7, n, by omega, by go_num, by go_num, by rw [hc, ← HN.out]; rfl, by simp⟩, by simp [intOf]⟩
          · have hpv : pp 6 = false := by rw [hp]; rfl
            rw [hpv] at hc
            go_wp2_with fail
            exact ⟨⟨7, n, by omega, by go_num, by go_num, by rw [hc, ← HN.out]; rfl, by simp⟩, by simp [intOf]⟩
      · simp only [Nat.reduceAdd, Nat.reduceMod] at hp
        have w0 : IntKind.i64.wrap ((n : Int) + 1) = (n : Int) + 1 := IntWalk.i64_in _ (by omega)
        generalize f 7 = u7 at *
        generalize f 0 = u0 at *
        cases u7
        · cases u0
          · have hpv : pp 7 = false := by rw [hp]; rfl
            rw [hpv] at hc
            go_wp2_with fail
            exact ⟨⟨8, n, by omega, by go_num, by go_num, by rw [hc, ← HN.out]; rfl, by simp⟩, by simp [intOf]⟩
          · have hpv : pp 7 = true := by rw [hp]; rfl
            rw [hpv] at hc
            go_wp2_with fail
            exact ⟨⟨8, n + 1, by omega, by go_num, by go_num, by rw [hc, ← HN.out]; rfl, by simp⟩, by simp [intOf]⟩
        · cases u0
          · have hpv : pp 7 = false := by rw [hp]; rfl
            rw [hpv] at hc
            go_wp2_with fail
            exact ⟨⟨8, n, by omega, by go_num, by go_num, by rw [hc, ← HN.out]; rfl, by simp⟩, by simp [intOf]⟩
          · have hpv : pp 7 = false := by rw [hp]; rfl
            rw [hpv] at hc
            go_wp2_with fail
            exact ⟨⟨8, n, by omega, by go_num, by go_num, by rw [hc, ← HN.out]; rfl, by simp⟩, by simp [intOf]⟩
    · obtain rfl : k = 8 := by omega
      go_wp2_with fail
      go_ret
      exact ⟨ret_of (by rw [HN.out]; rfl), HE.out⟩
end Go.Proofs.Ytchplmenkdghcaa
