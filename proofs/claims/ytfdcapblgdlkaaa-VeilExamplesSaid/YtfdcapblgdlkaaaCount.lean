/- Sums of bits less two times products. -/
import Derived.Test.YtfdcapblgdlkaaaMasks
namespace Go.Proofs.Ytfdcapblgdlkaaa
open Go.RowKit

def cntS (f g : Nat → Int) : Nat → Int
  | 0 => 0
  | k + 1 => cntS f g k + (f k - 2 * g k)
theorem run_index22 (f : Nat → Int) (k : Nat) (h : k < 15) (w : World) : (Instr.index 22 (.agg (A15 f)) (.int .i64 (k : Int))).run Try.prog w = .ok (.int .u8 (f k)) w := by
  have hi : (Try.prog.info? 5).map (·.size) = some 1 := by kernel_rfl
  cases hq : Try.prog.info? 5 with
  | none => rw [hq] at hi; cases hi
  | some i =>
    have hs : i.size = 1 := by rw [hq] at hi; simpa using hi
    simp [Instr.index, asIntOf, run_underlying Try.underlying22, run_underlying Try.underlying5, sizeOf, typeInfo, hq, hs, part, isAgg, A15_at f k h]
    intro h'; omega
set_option maxRecDepth 100000 in
set_option maxHeartbeats 1000000 in
theorem count_any (f g : Nat → Int) (hf : ∀ i, i < 15 → 0 ≤ f i ∧ f i < 256) (hg : ∀ i, i < 15 → 0 ≤ g i ∧ g i < 256) (w : World) : Calls Try.prog 86 #[.agg (A15 f), .agg (A15 g)] w fun e w' => e = .returned (.int .i64 (cntS f g 15 % 31)) ∧ Ext w w' := by
  have H1 := Lib.hid ((Blk.new w 22 (A15 f)).alloc (.cells (A15 g) 22))
  have H2 := Lib.hid (Blk.new' (w.alloc (.cells (A15 f) 22)) 22 (A15 g) (w.heap.size + 1) (by simp))
  have HE := Lib.hid (((Ext.refl w).alloc (.cells (A15 f) 22)).alloc (.cells (A15 g) 22))
  go_enter Try.func86, Try.ntmps86
  go_wp2_with (refine wpList_load_row rfl 22 (.tmp 2) rfl w.heap.size rfl 22 (A15 f) (0, 0) _ H1.out Try.underlying22 rfl info22 ?_)
  generalize (w.alloc (.cells (A15 f) 22)).alloc (.cells (A15 g) 22) = W at *
  go_loopw [5, 6, 7, 9] (fun s _ _ i wr => ∃ (k : Nat) (z : World), k ≤ 15 ∧ i = .int .i64 k ∧ wr = ext W z ∧ s = .int .i64 (cntS f g k % 31)) (fun _ _ _ i _ => 15 - (intOf i).toNat)
  case atStart => exact ⟨0, W, by omega, rfl, (ext_of (Ext.refl W)).symm, rfl⟩
  case round =>
    obtain ⟨k, z, hk, rfl, rfl, rfl⟩ := hrel
    by_cases hk15 : k < 15
    · have hk2 : (k : Int) < 15 := by omega
      have c2 : W.cell? ⟨w.heap.size + 1, k, none⟩ = some (.int .u8 (g k)) := by rw [H2.out.cell]; exact A15_at g k hk15
      have o2 := Old.mk H2.out.lt
      have hi := fun w => run_index22 f k hk15 w
      have bf := hf k hk15
      have bg := hg k hk15
      have HS := Lib.hid (show cntS f g (k + 1) = cntS f g k + (f k - 2 * g k) from rfl)
      generalize cntS f g k = c at *
      have hc : 0 ≤ c % 31 ∧ c % 31 < 31 := by omega
      generalize hcc : c % 31 = cm at *
      generalize f k = fk at *
      generalize g k = gk at *
      have C1 := Lib.hid (fun w => plus_any cm fk (by omega) (by omega) w)
      have C2 := Lib.hid (fun w => times_any 2 gk (by omega) (by omega) w)
      have C3 := Lib.hid (fun w => minus_any ((cm + fk) % 31) ((2 * gk) % 31) (by omega) (by omega) w)
      have HV := Lib.hid (show ((cm + fk) % 31 - (2 * gk) % 31) % 31 = (c + (fk - 2 * gk)) % 31 by omega)
      have wa : IntKind.i64.wrap fk = fk := IntWalk.i64_in _ (by omega)
      have wb : IntKind.i64.wrap gk = gk := IntWalk.i64_in _ (by omega)
      generalize (cm + fk) % 31 = p1 at *
      generalize (2 * gk) % 31 = p2 at *
      clear hcc
      go_wp2_with fail
      refine wp_region_ext (by kernel_rfl) (by kernel_rfl) ?_
      repeat (go_big_quiet_step (first | (go_at_call 64; exact Calls.quiet_same (C1.out _)) | (go_at_call 63; exact Calls.quiet_same (C2.out _)) | (go_at_call 61; exact Calls.quiet_same (C3.out _))))
      refine wpQuiet_nil ?_
      rintro _ ⟨z2, rfl⟩
      go_wp2_with fail
      refine ⟨⟨k + 1, _, by omega, by go_num, (ext_of ((Ext.ext_self W z).ext z2)).symm, by rw [HS.out, ← HV.out]⟩, by simp [intOf]; omega⟩
    · obtain rfl : k = 15 := by omega
      go_wp2_with fail
      go_ret
      exact ⟨rfl, HE.out.ext _⟩
end Go.Proofs.Ytfdcapblgdlkaaa
