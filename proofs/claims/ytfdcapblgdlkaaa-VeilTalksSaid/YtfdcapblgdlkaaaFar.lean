/- In how many bits words differ; each number is once in an order. -/
import Derived.Test.YtfdcapblgdlkaaaKeyLaw2
namespace Go.Proofs.Ytfdcapblgdlkaaa
open Go.RowKit

set_option maxRecDepth 100000 in
set_option maxHeartbeats 1000000 in
theorem Far_any (x y : BitVec 16) (w : World) : Calls Try.prog 43 #[.int .u16 (uv x), .int .u16 (uv y)] w fun e w' => e = .returned (.int .i64 (far16 x y)) ∧ w = w' := by
  have HF := Lib.hid (show far16 x y = sumF (bitI (x ^^^ y)) 16 from rfl)
  have HX := uv_xor x y
  generalize x ^^^ y = v at *
  have HI := Lib.hid (fun k => sumF_in (bitI v) (fun i => bitI_in v i) k)
  go_enter Try.func43, Try.ntmps43
  go_wp2_with fail
  go_loopw [5, 6] (fun s i wr => ∃ k : Nat, k ≤ 16 ∧ i = .int .i64 k ∧ s = .int .i64 (sumF (bitI v) k) ∧ wr = w) (fun _ i _ => 16 - (intOf i).toNat)
  case atStart => exact ⟨0, by omega, rfl, rfl, rfl⟩
  case round =>
    obtain ⟨k, hk, rfl, rfl, rfl⟩ := hrel
    by_cases hk16 : k < 16
    · have hk2 : (k : Int) < 16 := by omega
      have C := Lib.hid (fun w => bit_any v k (by omega) w)
      have h1 := HI.out k
      have h2 := bitI_in v k
      have hs := Lib.hid (show sumF (bitI v) (k + 1) = sumF (bitI v) k + bitI v k from rfl)
      generalize bitI v k = b at *
      generalize sumF (bitI v) k = s at *
      go_wp2_with (go_at_call 67; refine Calls.same (C.out _) ?_)
      refine ⟨⟨k + 1, by omega, by go_num, ?_, ?_⟩, by simp [intOf]; omega⟩
      · rw [hs.out]
      · first | rfl | trivial
    · obtain rfl : k = 16 := by omega
      go_wp2_with fail
      go_ret
      exact ⟨ret_of (by rw [HF.out]; rfl), rfl⟩
theorem count_range : ∀ (n k : Nat), k < n → (List.range n).count k = 1 := by
  intro n
  induction n with
  | zero => intro k h; omega
  | succ n ih =>
    intro k h
    rw [List.range_succ, List.count_append]
    rcases Nat.lt_or_ge k n with h1 | h1
    · rw [ih k h1, List.count_singleton]
      have : (n == k) = false := by simp; omega
      rw [this]; rfl
    · obtain rfl : k = n := by omega
      rw [List.count_eq_zero.2 (by simp), List.count_singleton]; simp
theorem once {l : List Nat} {n : Nat} (h : l.Perm (List.range n)) (k : Nat) (hk : k < n) : l.count k = 1 := by rw [h.count_eq, count_range n k hk]
theorem count_take (l : List Nat) (k m : Nat) (hm : m < l.length) : (l.take (m + 1)).count k = (l.take m).count k + if l.getD m 0 = k then 1 else 0 := by
  rw [List.take_succ_eq_append_getElem hm, List.count_append, List.count_singleton, List.getD_eq_getElem?_getD, List.getElem?_eq_getElem hm]
  simp only [Option.getD_some, beq_iff_eq]
end Go.Proofs.Ytfdcapblgdlkaaa
