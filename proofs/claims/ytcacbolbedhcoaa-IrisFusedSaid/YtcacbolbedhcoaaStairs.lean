/- stairs: the ring of the chapter's examples. -/
import Derived.Test.YtcacbolbedhcoaaExtract
import Derived.Test.YtcacbolbedhcoaaArr
namespace Go.Proofs.Ytcacbolbedhcoaa
open Go.RowKit

theorem ring_get (r : Nat → Int) (k : Nat) (h : k < 64) : (ringA r)[k]? = some (.int .u8 (r k)) := by simp [ringA, h]
theorem ring_set (f : Nat → Int) (k : Nat) (v : Int) : (ringA f).setIfInBounds k (.int .u8 v) = ringA (fun i => if i = k then v else f i) := by
  unfold ringA
  rw [List.setIfInBounds_toArray]
  congr 1
  apply List.ext_getElem?
  intro i
  rw [List.getElem?_set]
  by_cases h : k = i
  · subst h
    by_cases h64 : k < 64
    · simp [h64]
    · simp [h64]
  · have : ¬ i = k := fun e => h e.symm
    by_cases h64 : i < 64
    · simp [h, h64, this]
    · simp [h, h64]
theorem ring_one (r : Nat → Int) : (ringA r).all (·.oneCell') = true := by
  unfold ringA; rw [List.all_toArray, List.all_eq_true]
  intro x hx
  obtain ⟨k, _, rfl⟩ := List.mem_map.1 hx
  rfl
theorem ring_zero : ringA (fun _ => 0) = #[.int .u8 0, .int .u8 0, .int .u8 0, .int .u8 0, .int .u8 0, .int .u8 0, .int .u8 0, .int .u8 0, .int .u8 0, .int .u8 0, .int .u8 0, .int .u8 0, .int .u8 0, .int .u8 0, .int .u8 0, .int .u8 0, .int .u8 0, .int .u8 0, .int .u8 0, .int .u8 0, .int .u8 0, .int .u8 0, .int .u8 0, .int .u8 0, .int .u8 0, .int .u8 0, .int .u8 0, .int .u8 0, .int .u8 0, .int .u8 0, .int .u8 0, .int .u8 0, .int .u8 0, .int .u8 0, .int .u8 0, .int .u8 0, .int .u8 0, .int .u8 0, .int .u8 0, .int .u8 0, .int .u8 0, .int .u8 0, .int .u8 0, .int .u8 0, .int .u8 0, .int .u8 0, .int .u8 0, .int .u8 0, .int .u8 0, .int .u8 0, .int .u8 0, .int .u8 0, .int .u8 0, .int .u8 0, .int .u8 0, .int .u8 0, .int .u8 0, .int .u8 0, .int .u8 0, .int .u8 0, .int .u8 0, .int .u8 0, .int .u8 0, .int .u8 0] := rfl
/-- the value of the n-th place of the stairs -/
def stp (n : Nat) : Int := min (10 * ((n % 16 : Nat) : Int)) 30
def stpK (k n : Nat) : Int := if n < k then stp n else 0
theorem stpK_zero : stpK 0 = fun _ => 0 := by funext n; simp [stpK]
theorem stpK_succ (k : Nat) : (fun i => if i = k then stp k else stpK k i) = stpK (k + 1) := by
  funext i
  unfold stpK
  by_cases h : i = k
  · subst h; simp
  · have : (i < k + 1) ↔ (i < k) := by omega
    simp [h, this]
theorem ring_congr {f g : Nat → Int} (h : ∀ i, i < 64 → f i = g i) : ringA f = ringA g := by
  unfold ringA
  congr 1
  apply List.map_congr_left
  intro i hi
  rw [h i (List.mem_range.1 hi)]
theorem stpK_all : ringA (stpK 64) = ringA stp := ring_congr fun i h => by simp [stpK, h]
theorem results_cell {P : Program} {fn : Func} {a : Tmp} {t : TypeId} {tmps : Array Value} {p : Addr} {v : Value} {w : World} (h : fn.results = #[.cell a t]) (h1 : tmps.getD a undef = .pointer (some p)) (hl : (loadVar t p).run P w = .ok v w) : (results fn tmps).run P w = .ok v w := by
  simp [results, h, h1, asAddr, hl, -Array.getD_eq_getD_getElem?]
theorem stp_in (n : Nat) : 0 ≤ stp n ∧ stp n ≤ 255 := by unfold stp; omega

set_option maxRecDepth 100000 in
set_option maxHeartbeats 1000000 in
theorem stairs_ok (w : World) : Calls Try.prog 62 #[] w fun e w' => e = .returned (.agg (ringA stp)) ∧ Ext w w' := by
  go_enter Try.func62, Try.ntmps62
  go_wp2_with fail
  rw [← ring_zero]
  have HR := Lib.hid ((Blk.new w 24 (ringA (fun _ => 0))).alloc (.cells (ringA (fun _ => 0)) 24))
  have HB := Lib.hid (Blk.new' (w.alloc (.cells (ringA (fun _ => 0)) 24)) 24 (ringA (fun _ => 0)) (w.heap.size + 1) (by simp))
  have HE := Lib.hid (((Ext.refl w).alloc (.cells (ringA (fun _ => 0)) 24)).alloc (.cells (ringA (fun _ => 0)) 24))
  generalize (w.alloc (.cells (ringA (fun _ => 0)) 24)).alloc (.cells (ringA (fun _ => 0)) 24) = W1 at *
  go_loopw [4] (fun i wr => ∃ (j : Nat), j ≤ 4 ∧ i = .int .i64 j ∧ Ext w wr ∧ Blk wr w.heap.size 24 (ringA (fun _ => 0)) ∧ Blk wr (w.heap.size + 1) 24 (ringA (stpK (16 * j)))) (fun i _ => 4 - (intOf i).toNat)
  case atStart => exact ⟨0, Nat.zero_le _, rfl, HE.out, HR.out, by rw [Nat.mul_zero, stpK_zero]; exact HB.out⟩
  case round =>
    obtain ⟨i, hi, rfl, hE, hR, hB⟩ := hrel
    obtain ⟨wo, rfl⟩ : ∃ wo : World, wo = wr := ⟨_, rfl⟩
    have HRo := Lib.hid hR
    have HBo := Lib.hid hB
    have HEo := Lib.hid hE
    clear hE hR hB
    by_cases hlt : i < 4
    · have hi2 : (i : Int) < 4 := by omega
      have hi3 : decide ((i : Int) < 4) = true := by simpa using hi2
      go_wp2_with fail
      go_loopw [7] (fun q wr => ∃ (k : Nat), k ≤ 16 ∧ q = .int .i64 k ∧ Ext w wr ∧ Blk wr w.heap.size 24 (ringA (fun _ => 0)) ∧ Blk wr (w.heap.size + 1) 24 (ringA (stpK (16 * i + k)))) (fun q _ => 16 - (intOf q).toNat)
      case atStart => exact ⟨0, Nat.zero_le _, rfl, HEo.out, HRo.out, HBo.out⟩
      case round =>
        obtain ⟨k, hk, rfl, hE, hR, hB⟩ := hrel
        have HRk := Lib.hid hR
        have HBk := Lib.hid hB
        have HEk := Lib.hid hE
        clear hE hR
        by_cases hlk : k < 16
        · have hk2 : (k : Int) < 16 := by omega
          have ef := hB.frozen
          have e2 : wr.cell? ⟨w.heap.size + 1, i * 16 + k, none⟩ = some (.int .u8 (stpK (16 * i + k) (i * 16 + k))) := (hB.cell _).trans (ring_get _ _ (by omega))
          have HS := Lib.hid (HBk.out.set_ (i * 16 + k) (.int .u8 (stp (16 * i + k))))
          rw [Nat.mul_comm i 16, ring_set, stpK_succ] at HS
          have h2 : (16 * i + k) % 16 = k := by omega
          clear hB
          by_cases c : (k : Int) ≤ 3
          · have Hv := Lib.hid (show stp (16 * i + k) = 10 * (k : Int) by unfold stp; rw [h2]; omega)
            have c2 : 10 * (k : Int) ≤ 30 := by omega
            have c3 : IntKind.u8.wrap (10 * (k : Int)) = 10 * (k : Int) := by rw [IntKind.wrap_u8]; omega
            have hm : min (10 * (k : Int)) 30 = 10 * (k : Int) := by omega
            rw [Hv.out] at HS
            go_wp2_with fail
            go_roundw
            case rel => exact ⟨k + 1, by omega, by go_num, HEk.out.setCell (p := ⟨w.heap.size + 1, i * 16 + k, none⟩) (Nat.le_succ _) _, HRk.out.far (p := ⟨w.heap.size + 1, i * 16 + k, none⟩) (by simp) _, by rw [← Nat.add_assoc, Nat.mul_comm i 16]; exact HS.out⟩
            case measure => simp [intOf]; omega
          · have Hv := Lib.hid (show stp (16 * i + k) = 30 by unfold stp; rw [h2]; omega)
            have c2 : 30 < 10 * (k : Int) := by omega
            have hm : min (10 * (k : Int)) 30 = 30 := by omega
            rw [Hv.out] at HS
            go_wp2_with fail
            go_roundw
            case rel => exact ⟨k + 1, by omega, by go_num, HEk.out.setCell (p := ⟨w.heap.size + 1, i * 16 + k, none⟩) (Nat.le_succ _) _, HRk.out.far (p := ⟨w.heap.size + 1, i * 16 + k, none⟩) (by simp) _, by rw [← Nat.add_assoc, Nat.mul_comm i 16]; exact HS.out⟩
            case measure => simp [intOf]; omega
        · obtain rfl : k = 16 := by omega
          clear hB
          go_wp2_with fail
          go_roundw
          case rel => exact ⟨i + 1, by omega, by go_num, HEk.out, HRk.out, by have e : 16 * (i + 1) = 16 * i + 16 := (by omega); rw [e]; exact HBk.out⟩
          case measure => simp [intOf]; omega
    · obtain rfl : i = 4 := by omega
      go_wp2_with (first | (refine wpList_load_row rfl 24 (.tmp 1) rfl (w.heap.size + 1) rfl 24 (ringA (stpK 64)) (0, 0) (.array 4 22) HBo.out Try.underlying24 rfl (by rw [ring_size]; kernel_rfl) ?_) | (refine wpList_store_row rfl 24 (.tmp 0) (.tmp 20) rfl w.heap.size rfl 24 (ringA (fun _ => 0)) (ringA (stpK 64)) rfl HRo.out (by rw [ring_size]; kernel_rfl) (by rw [ring_size, ring_size]) (ring_one _) ?_))
      have HF := Lib.hid (HRo.out.row (ringA (stpK 64)))
      have HEf := Lib.hid (HEo.out.row (g := w.heap.size) (Nat.le_refl _) (ringA (stpK 64)))
      generalize wo.setRow w.heap.size (ringA (stpK 64)) = Wf at *
      have hl : (loadVar 24 ⟨w.heap.size, 0, none⟩).run Try.prog Wf = .ok (.agg (ringA (stpK 64))) Wf := run_loadVar_row _ _ _ _ _ (0, 0) _ HF.out Try.underlying24 rfl (by rw [ring_size]; kernel_rfl)
      exact bodyPost_ret (v := .agg (ringA (stpK 64))) (results_cell Try.results62 rfl hl) rfl ⟨ret_of (by rw [stpK_all]), HEf.out⟩
end Go.Proofs.Ytcacbolbedhcoaa
