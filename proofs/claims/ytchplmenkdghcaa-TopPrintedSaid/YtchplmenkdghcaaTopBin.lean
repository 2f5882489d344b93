/- Sizes, checks: of what is valid. -/
import Derived.Test.YtchplmenkdghcaaTopLeaf
import Derived.Test.YtchplmenkdghcaaSlices
import Derived.Test.YtchplmenkdghcaaMatched
import Derived.Test.YtchplmenkdghcaaPlace
namespace Go.Proofs.Ytchplmenkdghcaa
open Go.RowKit

theorem count_any (n W H : Nat) (hW : W ≤ 20) (hH : H ≤ 20) (hn : n = W * H) (p q : Addr) (w : World) (h1 : w.cell? p = some (.int .i64 W)) (h2 : w.cell? q = some (.int .i64 H)) : Calls Try.prog 55 #[.int .i64 n, .pointer (some p), .pointer (some q)] w fun e w' => e = .returned (.bool false) ∧ w = w' := by
  have hm : (W : Int) * H = ((n : Nat) : Int) := by rw [hn]; simp
  have hle : n ≤ 400 := by rw [hn]; exact Nat.le_trans (Nat.mul_le_mul hW hH) (by omega)
  have wm : IntKind.i64.wrap ((n : Nat) : Int) = ((n : Nat) : Int) := IntWalk.i64_in _ (by omega)
  have hb : ((n : Int) != (n : Int)) = false := by simp
  clear hn hle
  go_enter Try.func55, Try.ntmps55
  go_wp2_with fail
  go_ret
  exact ⟨rfl, rfl⟩
set_option maxRecDepth 100000 in
set_option maxHeartbeats 2000000 in
theorem indexFunc_any (N n W H : Nat) (hN : N ≤ 2) (hW : W ≤ 20) (hH : H ≤ 20) (hn : n = W * H) (p q : Addr) (g c : Nat) (w : World) (hg : g < w.heap.size) (hc : ∀ j, j < N → w.cell? ⟨g, j, none⟩ = some (.int .i64 n)) (h1 : w.cell? p = some (.int .i64 W)) (h2 : w.cell? q = some (.int .i64 H)) :
    Calls Try.prog 57 #[.slice (some ⟨g, 0, none⟩) N c, .func (.func 55) #[] #[.pointer (some p), .pointer (some q)]] w fun e w' => e = .returned (.int .i64 (-1)) ∧ w = w' := by
  have HC := Lib.hid hc
  have CN := Lib.hid (fun w h1 h2 => count_any n W H hW hH hn p q w h1 h2)
  have HP := Lib.hid (And.intro h1 h2)
  clear hc hW hH hn h1 h2
  go_enter Try.func57, Try.ntmps57
  go_wp2_with fail
  go_loopw [5, 8] (fun _ i wr => ∃ k : Nat, k ≤ N ∧ i = .int .i64 k ∧ wr = w) (fun _ i _ => N - (intOf i).toNat)
  case atStart => exact ⟨0, by omega, rfl, rfl⟩
  case round =>
    obtain ⟨k, hk, rfl, rfl⟩ := hrel
    by_cases hk8 : k < N
    · have hk2 : (k : Int) < (N : Int) := by omega
      have c0 := HC.out k hk8
      have og := Old.mk hg
      go_wp2_with fail
      refine Calls.same (CN.out _ HP.out.1 HP.out.2) ?_
      go_wp2_with fail
      exact ⟨⟨k + 1, by omega, by go_num, by simp⟩, by simp [intOf]; omega⟩
    · have hk2 : ¬ (k : Int) < (N : Int) := by omega
      go_wp2_with fail
      go_ret
      exact ⟨rfl, rfl⟩
theorem containsFunc_any (N n W H : Nat) (hN : N ≤ 2) (hW : W ≤ 20) (hH : H ≤ 20) (hn : n = W * H) (p q : Addr) (g c : Nat) (w : World) (hg : g < w.heap.size) (hc : ∀ j, j < N → w.cell? ⟨g, j, none⟩ = some (.int .i64 n)) (h1 : w.cell? p = some (.int .i64 W)) (h2 : w.cell? q = some (.int .i64 H)) :
    Calls Try.prog 54 #[.slice (some ⟨g, 0, none⟩) N c, .func (.func 55) #[] #[.pointer (some p), .pointer (some q)]] w fun e w' => e = .returned (.bool false) ∧ w = w' := by
  have C := Lib.hid (indexFunc_any N n W H hN hW hH hn p q g c w hg hc h1 h2)
  clear hW hH hn hc h1 h2
  go_enter Try.func54, Try.ntmps54
  go_wp2_with fail
  refine Calls.same C.out ?_
  go_wp2_with fail
  go_ret
  exact ⟨rfl, rfl⟩
set_option maxRecDepth 100000 in
set_option maxHeartbeats 2000000 in
theorem sizedP_any (N n W H : Nat) (hN : N ≤ 2) (hW : 1 ≤ W ∧ W ≤ 20) (hH : 1 ≤ H ∧ H ≤ 20) (hn : n = W * H) (g c : Nat) (w : World) (hg : g < w.heap.size) (hc : ∀ j, j < N → w.cell? ⟨g, j, none⟩ = some (.int .i64 n)) :
    Calls Try.prog 45 #[.int .i64 W, .int .i64 H, .slice (some ⟨g, 0, none⟩) N c] w fun e w' => e = .returned (.bool true) ∧ Ext w w' := by
  have C1 := fun w => withinP_any W 1 20 w
  rw [show inB (W : Int) 1 20 = true from inB_iff.2 (by omega)] at C1
  have C2 := fun w => withinP_any H 1 20 w
  rw [show inB (H : Int) 1 20 = true from inB_iff.2 (by omega)] at C2
  have HE := Lib.hid (((Ext.refl w).alloc (.cells #[.int .i64 W] 3)).alloc (.cells #[.int .i64 H] 3))
  have C3 := Lib.hid (containsFunc_any N n W H hN hW.2 hH.2 hn ⟨w.heap.size, 0, none⟩ ⟨w.heap.size + 1, 0, none⟩ g c ((w.alloc (.cells #[.int .i64 W] 3)).alloc (.cells #[.int .i64 H] 3)) (Nat.lt_of_lt_of_le hg HE.out.size) (fun j hj => (HE.out.cell (by exact hg)).trans (hc j hj)) (((Blk.new w 3 #[.int .i64 W]).alloc _).cell 0) ((Blk.new' (w.alloc (.cells #[.int .i64 W] 3)) 3 #[.int .i64 H] (w.heap.size + 1) (by simp)).cell 0))
  replace C1 := Lib.hid C1
  replace C2 := Lib.hid C2
  clear hW hH hn hc
  go_enter Try.func45, Try.ntmps45
  go_wp2_with fail
  refine Calls.same (C1.out _) ?_
  go_wp2_with fail
  refine Calls.same (C2.out _) ?_
  go_wp2_with fail
  refine Calls.same C3.out ?_
  go_wp2_with fail
  go_ret
  exact ⟨rfl, HE.out⟩
set_option maxRecDepth 100000 in
set_option maxHeartbeats 2000000 in
theorem check30_any (W H n : Nat) (A : Option Addr) (c : Nat) (hW : 1 ≤ W ∧ W ≤ 20) (hH : 1 ≤ H ∧ H ≤ 20) (hn : n = W * H) (w : World) : Calls Try.prog 30 #[.agg #[.int .i64 W, .int .i64 H, .slice A n c]] w fun e w' => e = .returned (.int .i64 0) ∧ Ext w w' := by
  have HE := Lib.hid (((Ext.refl w).alloc (.cells #[.int .i64 W, .int .i64 H, .slice A n c] 24)).alloc (.cells #[.int .i64 n] 3))
  have C := Lib.hid (sizedP_any 1 n W H (by omega) hW hH hn (w.heap.size + 1) 1 ((w.alloc (.cells #[.int .i64 W, .int .i64 H, .slice A n c] 24)).alloc (.cells #[.int .i64 n] 3)) (by simp) (fun j hj => by
    obtain rfl : j = 0 := by omega
    exact (Blk.new' (w.alloc (.cells #[.int .i64 W, .int .i64 H, .slice A n c] 24)) 3 #[.int .i64 n] (w.heap.size + 1) (by simp)).cell 0))
  clear hW hH hn
  go_enter Try.func30, Try.ntmps30
  go_wp2_with fail
  refine Calls.ext C.out fun z1 => ?_
  go_wp2_with fail
  go_ret
  exact ⟨rfl, HE.out.ext z1⟩
set_option maxRecDepth 100000 in
set_option maxHeartbeats 2000000 in
theorem check43_any (W H n : Nat) (A : Option Addr) (c : Nat) (hW : 1 ≤ W ∧ W ≤ 20) (hH : 1 ≤ H ∧ H ≤ 20) (hn : n = W * H) (w : World) : Calls Try.prog 43 #[.agg #[.int .i64 W, .int .i64 H, .slice A n c]] w fun e w' => e = .returned (.int .i64 0) ∧ Ext w w' := by
  have HE := Lib.hid (((Ext.refl w).alloc (.cells #[.int .i64 W, .int .i64 H, .slice A n c] 33)).alloc (.cells #[.int .i64 n] 3))
  have C := Lib.hid (sizedP_any 1 n W H (by omega) hW hH hn (w.heap.size + 1) 1 ((w.alloc (.cells #[.int .i64 W, .int .i64 H, .slice A n c] 33)).alloc (.cells #[.int .i64 n] 3)) (by simp) (fun j hj => by
    obtain rfl : j = 0 := by omega
    exact (Blk.new' (w.alloc (.cells #[.int .i64 W, .int .i64 H, .slice A n c] 33)) 3 #[.int .i64 n] (w.heap.size + 1) (by simp)).cell 0))
  clear hW hH hn
  go_enter Try.func43, Try.ntmps43
  go_wp2_with fail
  refine Calls.ext C.out fun z1 => ?_
  go_wp2_with fail
  go_ret
  exact ⟨rfl, HE.out.ext z1⟩
end Go.Proofs.Ytchplmenkdghcaa
/- A valid device. -/
namespace Go.Proofs.Ytchplmenkdghcaa
open Go.RowKit

/-- a slice of numbers of 8 bits -/
def Us (w : World) (A : Option Addr) (n : Nat) (f : Nat → Int) : Prop := ∃ g off, A = some ⟨g, off, none⟩ ∧ g < w.heap.size ∧ ∀ k, k < n → w.cell? ⟨g, off + k, none⟩ = some (.int .u8 (f k))
theorem Us.grow {w w' : World} {A : Option Addr} {n : Nat} {f : Nat → Int} (h : Us w A n f) (hE : Ext w w') : Us w' A n f := by
  obtain ⟨g, off, e, hg, hc⟩ := h
  exact ⟨g, off, e, Nat.lt_of_lt_of_le hg hE.size, fun k hk => (hE.cell (by exact hg)).trans (hc k hk)⟩
set_option maxRecDepth 100000 in
set_option maxHeartbeats 2000000 in
theorem check44_any (W H n : Nat) (A B : Option Addr) (c d : Nat) (hW : 1 ≤ W ∧ W ≤ 20) (hH : 1 ≤ H ∧ H ≤ 20) (hn : n = W * H) (w : World) (hD : Us w A n fun _ => 40) (hL : Us w B n fun _ => 200) : Calls Try.prog 44 #[.agg #[.int .i64 W, .int .i64 H, .slice A n c, .slice B n d]] w fun e w' => e = .returned (.int .i64 0) ∧ Ext w w' := by
  have HE := Lib.hid (((Ext.refl w).alloc (.cells #[.int .i64 W, .int .i64 H, .slice A n c, .slice B n d] 35)).alloc (.cells #[.int .i64 n, .int .i64 n] 3))
  have HB := Lib.hid ((Blk.new w 35 #[.int .i64 W, .int .i64 H, .slice A n c, .slice B n d]).alloc (.cells #[.int .i64 n, .int .i64 n] 3))
  have C := Lib.hid (sizedP_any 2 n W H (by omega) hW hH hn (w.heap.size + 1) 2 ((w.alloc (.cells #[.int .i64 W, .int .i64 H, .slice A n c, .slice B n d] 35)).alloc (.cells #[.int .i64 n, .int .i64 n] 3)) (by simp) (fun j hj => by
    have hb := Blk.new' (w.alloc (.cells #[.int .i64 W, .int .i64 H, .slice A n c, .slice B n d] 35)) 3 #[.int .i64 n, .int .i64 n] (w.heap.size + 1) (by simp)
    rcases (show j = 0 ∨ j = 1 by omega) with rfl | rfl
    · exact hb.cell 0
    · exact hb.cell 1))
  obtain ⟨g, off, rfl, hg, hc⟩ := hD
  obtain ⟨g2, off2, rfl, hg2, hc2⟩ := hL
  have HC := Lib.hid hc
  have HC2 := Lib.hid hc2
  have hnb : n ≤ 400 := by rw [hn]; exact Nat.le_trans (Nat.mul_le_mul hW.2 hH.2) (by omega)
  clear hW hH hn hc hc2
  go_enter Try.func44, Try.ntmps44
  go_wp2_with fail
  refine Calls.ext C.out fun z1 => ?_
  have HE2 := Lib.hid (HE.out.ext z1)
  have HB2 := Lib.hid (HB.out.ext z1)
  generalize ext ((w.alloc (.cells #[.int .i64 W, .int .i64 H, .slice (some ⟨g, off, none⟩) n c, .slice (some ⟨g2, off2, none⟩) n d] 35)).alloc (.cells #[.int .i64 n, .int .i64 n] 3)) z1 = V at *
  have b2 : V.cell? ⟨w.heap.size, 2, none⟩ = some (.slice (some ⟨g, off, none⟩) n c) := HB2.out.cell 2
  have b3 : V.cell? ⟨w.heap.size, 3, none⟩ = some (.slice (some ⟨g2, off2, none⟩) n d) := HB2.out.cell 3
  have oB := Old.mk HB2.out.lt
  go_wp2_with fail
  go_loopw [3, 4, 21] (fun _ _ i wr => ∃ k : Nat, k ≤ n ∧ i = .int .i64 k ∧ wr = V) (fun _ _ i _ => n - (intOf i).toNat)
  case atStart => exact ⟨0, by omega, rfl, rfl⟩
  case round =>
    obtain ⟨k, hk, rfl, rfl⟩ := hrel
    by_cases hk8 : k < n
    · have hk2 : (k : Int) < (n : Int) := by omega
      have c0 : wr.cell? ⟨g, off + k, none⟩ = some (.int .u8 40) := (HE2.out.cell (by exact hg)).trans (HC.out k hk8)
      have c1 : wr.cell? ⟨g2, off2 + k, none⟩ = some (.int .u8 200) := (HE2.out.cell (by exact hg2)).trans (HC2.out k hk8)
      have o1 := Old.mk (Nat.lt_of_lt_of_le hg HE2.out.size)
      have o2 := Old.mk (Nat.lt_of_lt_of_le hg2 HE2.out.size)
      go_wp2_with fail
      exact ⟨⟨k + 1, by omega, by go_num, by simp⟩, by simp [intOf]; omega⟩
    · have hk2 : ¬ (k : Int) < (n : Int) := by omega
      go_wp2_with fail
      go_ret
      exact ⟨rfl, HE2.out⟩
end Go.Proofs.Ytchplmenkdghcaa
/- Twice the values less the device's. -/
namespace Go.Proofs.Ytchplmenkdghcaa
open Go.RowKit

def offA (px : Nat → Int) (n k : Nat) : Array Value := ((List.range n).map fun i => Value.int .i64 (if i < k then 2 * px i - 240 else 0)).toArray
theorem offA_at (px : Nat → Int) {n : Nat} (k : Nat) {i : Nat} (hi : i < n) : (offA px n k)[i]? = some (.int .i64 (if i < k then 2 * px i - 240 else 0)) := by
  unfold offA
  rw [List.getElem?_toArray, List.getElem?_map, List.getElem?_range hi]
  rfl
theorem offA_zero (px : Nat → Int) (n : Nat) : offA px n 0 = Array.replicate n (.int .i64 0) := by
  apply Array.ext_getElem?
  intro i
  rcases Nat.lt_or_ge i n with h | h
  · rw [offA_at px 0 h, Array.getElem?_replicate, if_pos h, if_neg (by omega)]
  · rw [Array.getElem?_eq_none (by simp [offA]; exact h), Array.getElem?_eq_none (by simp; exact h)]
theorem offA_set (px : Nat → Int) {n k : Nat} (hk : k < n) : (offA px n k).setIfInBounds k (.int .i64 (2 * px k - 240)) = offA px n (k + 1) := by
  apply Array.ext_getElem?
  intro i
  rw [Array.getElem?_setIfInBounds]
  rcases Nat.lt_or_ge i n with h | h
  · rw [offA_at px k h, offA_at px (k + 1) h]
    by_cases e : k = i
    · subst e
      rw [if_pos rfl, if_pos (by simp [offA]; exact h), if_pos (by omega)]
    · rw [if_neg e]
      by_cases e2 : i < k
      · rw [if_pos e2, if_pos (by omega)]
      · rw [if_neg e2, if_neg (by omega)]
  · rw [if_neg (by omega), Array.getElem?_eq_none (by simp [offA]; exact h), Array.getElem?_eq_none (by simp [offA]; exact h)]
/-- a slice of the call's own -/
def RetO (px : Nat → Int) (n : Nat) (w : World) (e : Ending) (w' : World) : Prop := ∃ g, e = .returned (.tuple #[.slice (some ⟨g, 0, none⟩) n n, .int .i64 0]) ∧ w.heap.size ≤ g ∧ Blk w' g 3 (offA px n n) ∧ Ext w w'
set_option maxRecDepth 100000 in
set_option maxHeartbeats 4000000 in
theorem offsets_any (W H n : Nat) (P A B : Option Addr) (cp c d : Nat) (px : Nat → Int) (hpx : ∀ i, i < n → 0 ≤ px i ∧ px i < 256) (hW : 1 ≤ W ∧ W ≤ 20) (hH : 1 ≤ H ∧ H ≤ 20) (hn : n = W * H) (w : World) (hP : Us w P n px) (hD : Us w A n fun _ => 40) (hL : Us w B n fun _ => 200) :
    Calls Try.prog 29 #[.agg #[.int .i64 W, .int .i64 H, .slice P n cp], .agg #[.int .i64 W, .int .i64 H, .slice A n c, .slice B n d]] w (RetO px n w) := by
  have HE := Lib.hid (((Ext.refl w).alloc (.cells #[.int .i64 W, .int .i64 H, .slice P n cp] 33)).alloc (.cells #[.int .i64 W, .int .i64 H, .slice A n c, .slice B n d] 35))
  have H2 := Lib.hid ((Blk.new w 33 #[.int .i64 W, .int .i64 H, .slice P n cp]).alloc (.cells #[.int .i64 W, .int .i64 H, .slice A n c, .slice B n d] 35))
  have H3 := Lib.hid (Blk.new' (w.alloc (.cells #[.int .i64 W, .int .i64 H, .slice P n cp] 33)) 35 #[.int .i64 W, .int .i64 H, .slice A n c, .slice B n d] (w.heap.size + 1) (by simp))
  have C1 := Lib.hid (fun w => check43_any W H n P cp hW hH hn w)
  have C2 := Lib.hid (fun W' (hE : Ext w W') => check44_any W H n A B c d hW hH hn W' (hD.grow hE) (hL.grow hE))
  obtain ⟨gp, op, rfl, hgp, hcp⟩ := hP
  obtain ⟨g1, o1, rfl, hg1, hc1⟩ := hD
  obtain ⟨g2, o2, rfl, hg2, hc2⟩ := hL
  have HCP := Lib.hid hcp
  have HC1 := Lib.hid hc1
  have HC2 := Lib.hid hc2
  have hnb : n ≤ 400 := by rw [hn]; exact Nat.le_trans (Nat.mul_le_mul hW.2 hH.2) (by omega)
  have bW : ((W : Int) != (W : Int)) = false := by simp
  have bH : ((H : Int) != (H : Int)) = false := by simp
  clear hW hH hn hcp hc1 hc2
  go_enter Try.func29, Try.ntmps29
  go_wp2_with fail
  refine Calls.ext (C1.out _) fun z1 => ?_
  go_wp2_with fail
  refine Calls.ext (C2.out _ (HE.out.ext z1)) fun z2 => ?_
  have K2 := Lib.hid ((H2.out.ext z1).ext z2)
  have K3 := Lib.hid ((H3.out.ext z1).ext z2)
  have KE := Lib.hid ((HE.out.ext z1).ext z2)
  generalize ext (ext ((w.alloc (.cells #[.int .i64 W, .int .i64 H, .slice (some ⟨gp, op, none⟩) n cp] 33)).alloc (.cells #[.int .i64 W, .int .i64 H, .slice (some ⟨g1, o1, none⟩) n c, .slice (some ⟨g2, o2, none⟩) n d] 35)) z1) z2 = V at *
  clear H2 H3 HE
  have b0 : V.cell? ⟨w.heap.size, 0, none⟩ = some (.int .i64 W) := K2.out.cell 0
  have b1 : V.cell? ⟨w.heap.size, 1, none⟩ = some (.int .i64 H) := K2.out.cell 1
  have b2 : V.cell? ⟨w.heap.size, 2, none⟩ = some (.slice (some ⟨gp, op, none⟩) n cp) := K2.out.cell 2
  have e0 : V.cell? ⟨w.heap.size + 1, 0, none⟩ = some (.int .i64 W) := K3.out.cell 0
  have e1 : V.cell? ⟨w.heap.size + 1, 1, none⟩ = some (.int .i64 H) := K3.out.cell 1
  have oS := Old.mk K2.out.lt
  have oD := Old.mk K3.out.lt
  go_wp2_with (at_make; refine wpList_make_blk _ rfl (.tmp 34) (.tmp 34) 72 rfl 3 (.int .i64 0) zInfoI n (by omega) rfl rfl ?_; intro z0 hB0; have o0 := Old.mk hB0.lt)
  have hgo := K3.out.lt
  have hsz := KE.out.size
  rw [← offA_zero px n] at hB0
  have HB0 := Lib.hid hB0
  have N2 := Lib.hid (K2.out.ext z0)
  have N3 := Lib.hid (K3.out.ext z0)
  have NE := Lib.hid (KE.out.ext z0)
  clear hB0 o0 b0 b1 b2 e0 e1 oS oD K2 K3 KE
  generalize ext V z0 = V1 at *
  generalize V.heap.size = go at *
  go_loopw [8, 9, 39] (fun _ _ i wr => ∃ k : Nat, k ≤ n ∧ i = .int .i64 k ∧ Blk wr go 3 (offA px n k) ∧ Blk wr w.heap.size 33 #[.int .i64 W, .int .i64 H, .slice (some ⟨gp, op, none⟩) n cp] ∧ Blk wr (w.heap.size + 1) 35 #[.int .i64 W, .int .i64 H, .slice (some ⟨g1, o1, none⟩) n c, .slice (some ⟨g2, o2, none⟩) n d] ∧ Ext w wr) (fun _ _ i _ => n - (intOf i).toNat)
  case atStart => exact ⟨0, by omega, rfl, HB0.out, N2.out, N3.out, NE.out⟩
  case round =>
    obtain ⟨k, hk, rfl, bO, b2, b3, bE⟩ := hrel
    have MO := Lib.hid bO
    have M2 := Lib.hid b2
    have M3 := Lib.hid b3
    have ME := Lib.hid bE
    clear bO b2 b3 bE HB0 N2 N3 NE
    by_cases hk8 : k < n
    · have hk2 : (k : Int) < (n : Int) := by omega
      have hp := hpx k hk8
      have HS := Lib.hid (show (offA px n k).setIfInBounds k (.int .i64 (2 * px k - 40 - 200)) = offA px n (k + 1) by rw [show 2 * px k - 40 - 200 = 2 * px k - 240 by omega]; exact offA_set px hk8)
      have c0 : wr.cell? ⟨gp, op + k, none⟩ = some (.int .u8 (px k)) := (ME.out.cell (by exact hgp)).trans (HCP.out k hk8)
      have c1 : wr.cell? ⟨g1, o1 + k, none⟩ = some (.int .u8 40) := (ME.out.cell (by exact hg1)).trans (HC1.out k hk8)
      have c2 : wr.cell? ⟨g2, o2 + k, none⟩ = some (.int .u8 200) := (ME.out.cell (by exact hg2)).trans (HC2.out k hk8)
      have cO : wr.cell? ⟨go, k, none⟩ = some (.int .i64 0) := by rw [MO.out.cell, offA_at px k hk8, if_neg (by omega)]
      have s2 : wr.cell? ⟨w.heap.size, 2, none⟩ = some (.slice (some ⟨gp, op, none⟩) n cp) := M2.out.cell 2
      have t2 : wr.cell? ⟨w.heap.size + 1, 2, none⟩ = some (.slice (some ⟨g1, o1, none⟩) n c) := M3.out.cell 2
      have t3 : wr.cell? ⟨w.heap.size + 1, 3, none⟩ = some (.slice (some ⟨g2, o2, none⟩) n d) := M3.out.cell 3
      have fO := MO.out.frozen
      have p0 := Old.mk (Nat.lt_of_lt_of_le hgp ME.out.size)
      have p1 := Old.mk (Nat.lt_of_lt_of_le hg1 ME.out.size)
      have p2 := Old.mk (Nat.lt_of_lt_of_le hg2 ME.out.size)
      have p3 := Old.mk M2.out.lt
      have p4 := Old.mk M3.out.lt
      have p5 := Old.mk MO.out.lt
      generalize px k = v at *
      have w0 : IntKind.i64.wrap v = v := IntWalk.i64_in _ (by omega)
      have w1 : IntKind.i64.wrap (2 * v) = 2 * v := IntWalk.i64_in _ (by omega)
      have w2 : IntKind.i64.wrap (2 * v - 40) = 2 * v - 40 := IntWalk.i64_in _ (by omega)
      have w3 : IntKind.i64.wrap (2 * v - 40 - 200) = 2 * v - 40 - 200 := IntWalk.i64_in _ (by omega)
      go_wp2_with fail
      refine wp_region_tail 20 (by kernel_rfl) (by kernel_rfl) ?_
      simp only [List.take_succ_cons, List.take_zero, List.drop_succ_cons, List.drop_zero]
      repeat still_step
      refine wpStill_nil ?_
      go_wp2_with fail
      have q := MO.out.set_ k (.int .i64 (2 * v - 40 - 200))
      rw [HS.out] at q
      exact ⟨⟨k + 1, by omega, by go_num, q.drew, (M2.out.far (p := ⟨go, k, none⟩) (by show w.heap.size ≠ go; omega) _).drew, (M3.out.far (p := ⟨go, k, none⟩) (by show w.heap.size + 1 ≠ go; omega) _).drew, (ME.out.setCell (p := ⟨go, k, none⟩) (by show w.heap.size ≤ go; omega) _).drew⟩, by simp [intOf]; omega⟩
    · obtain rfl : k = n := by omega
      have hk2 : ¬ (k : Int) < (k : Int) := by omega
      go_wp2_with fail
      refine bodyPost_ret (v := .tuple #[.slice (some ⟨go, 0, none⟩) k k, .int .i64 0]) (by simp [results, Try.results29, go_sem]) rfl ⟨go, rfl, by omega, MO.out, ME.out⟩
end Go.Proofs.Ytchplmenkdghcaa
/- The trace of a sample. -/
namespace Go.Proofs.Ytchplmenkdghcaa
open Go.RowKit

theorem infoBl : ElemInfo Try.prog 22 4 1 1 := elemInfo (z := .bool false) Try.underlying22 (by kernel_rfl) rfl (by decide)
theorem trunc_below {w W : World} {n : Nat} (h : Ext w W) (h1 : w.heap.size ≤ n) (h2 : n ≤ W.heap.size) : Ext w (trunc W n) :=
  ⟨h.os, h.tape, h.output, by rw [trunc_size h2]; exact h1, fun b hb => (trunc_at W n b (by omega)).trans (h.block b hb)⟩
theorem own_down {w : World} {B B' : Nat} {e : TypeId} {sz n : Nat} {v : Value} {xs : List Value} (h : w.ownsRow B e sz v n xs) (hb : B' ≤ B) : w.ownsRow B' e sz v n xs := by
  refine ⟨h.1, ?_⟩
  rcases h.2 with h2 | ⟨g, cap, cur, hv, hg, r⟩
  · exact .inl h2
  · exact .inr ⟨g, cap, cur, hv, Nat.le_trans hb hg, r⟩
def blsV (R : List Bool) : List Value := R.map Value.bool
/-- a trace whose pixels the call owns -/
def RetT (W H : Nat) (R : List Bool) (w : World) (e : Ending) (w' : World) : Prop := ∃ A c, e = .returned (.tuple #[.agg #[.int .i64 W, .int .i64 H, .slice A R.length c], .int .i64 0]) ∧ w'.ownsRow w.heap.size 4 1 (.slice A R.length c) R.length (blsV R) ∧ Ext w w'
def binL (px : Nat → Int) (n : Nat) : List Bool := (List.range n).map fun i => decide (2 * px i - 240 < 0)
set_option maxRecDepth 100000 in
set_option maxHeartbeats 4000000 in
theorem binary_any (W H n : Nat) (P A B : Option Addr) (cp c d : Nat) (px : Nat → Int) (hpx : ∀ i, i < n → 0 ≤ px i ∧ px i < 256) (hW : 1 ≤ W ∧ W ≤ 20) (hH : 1 ≤ H ∧ H ≤ 20) (hn : n = W * H) (w : World) (hP : Us w P n px) (hD : Us w A n fun _ => 40) (hL : Us w B n fun _ => 200) :
    Calls Try.prog 14 #[.agg #[.int .i64 W, .int .i64 H, .slice P n cp], .agg #[.int .i64 W, .int .i64 H, .slice A n c, .slice B n d]] w (RetT W H (binL px n) w) := by
  have hnb : n ≤ 400 := by rw [hn]; exact Nat.le_trans (Nat.mul_le_mul hW.2 hH.2) (by omega)
  have HE := Lib.hid ((((Ext.refl w).alloc (.cells #[.int .i64 W, .int .i64 H, .slice P n cp] 33)).alloc (.cells #[.int .i64 W, .int .i64 H, .slice A n c, .slice B n d] 35)).alloc (.cells #[.int .i64 0, .int .i64 0, .slice none 0 0] 24))
  have H2 := Lib.hid (((Blk.new w 33 #[.int .i64 W, .int .i64 H, .slice P n cp]).alloc (.cells #[.int .i64 W, .int .i64 H, .slice A n c, .slice B n d] 35)).alloc (.cells #[.int .i64 0, .int .i64 0, .slice none 0 0] 24))
  have H4 := Lib.hid (Blk.new' ((w.alloc (.cells #[.int .i64 W, .int .i64 H, .slice P n cp] 33)).alloc (.cells #[.int .i64 W, .int .i64 H, .slice A n c, .slice B n d] 35)) 24 #[.int .i64 0, .int .i64 0, .slice none 0 0] (w.heap.size + 1 + 1) (by simp))
  have CO := Lib.hid (fun W' (hE : Ext w W') => offsets_any W H n P A B cp c d px hpx hW hH hn W' (hP.grow hE) (hD.grow hE) (hL.grow hE))
  have HPX := Lib.hid hpx
  clear hP hD hL hW hH hn hpx
  go_enter Try.func14, Try.ntmps14
  go_wp2_with fail
  refine (CO.out _ HE.out).mono ?_
  rintro _ V0 ⟨go, rfl, hgo, hBO, hE0⟩
  have KE := Lib.hid (HE.out.trans hE0)
  have K2 := Lib.hid (H2.out.grow hE0)
  have K4 := Lib.hid (H4.out.grow hE0)
  have KO := Lib.hid hBO
  have hg2 : w.heap.size + 1 + 1 < go := Nat.lt_of_lt_of_le H4.out.lt hgo
  clear hE0 hBO hgo HE H2 H4
  have b0 : V0.cell? ⟨w.heap.size, 0, none⟩ = some (.int .i64 W) := K2.out.cell 0
  have b1 : V0.cell? ⟨w.heap.size, 1, none⟩ = some (.int .i64 H) := K2.out.cell 1
  have oS := Old.mk K2.out.lt
  go_wp2_with fail
  have N8 := Lib.hid (Blk.new V0 24 #[.int .i64 W, .int .i64 H, .slice none 0 0])
  have N4 := Lib.hid (K4.out.alloc (.cells #[.int .i64 W, .int .i64 H, .slice none 0 0] 24))
  have NO := Lib.hid (KO.out.alloc (.cells #[.int .i64 W, .int .i64 H, .slice none 0 0] 24))
  have NE := Lib.hid (KE.out.alloc (.cells #[.int .i64 W, .int .i64 H, .slice none 0 0] 24))
  have l1 := KO.out.lt
  have l2 := N8.out.lt
  have l3 := KE.out.size
  clear b0 b1 oS K2 K4 KO KE
  generalize V0.alloc (.cells #[.int .i64 W, .int .i64 H, .slice none 0 0] 24) = V at *
  generalize V0.heap.size = g8 at *
  obtain ⟨Bs, hBs⟩ : ∃ Bs, Bs = V.heap.size := ⟨_, rfl⟩
  have hB8 : g8 < Bs := by omega
  have hBo : go < Bs := by omega
  have hB0 : Bs ≤ V.heap.size := by omega
  have hw8 : w.heap.size + 1 + 1 < g8 := by omega
  have hgo8 : go < g8 := l1
  clear hBs l1 l2 l3
  go_loopw [10, 28] (fun _ i wr => ∃ (k : Nat) (v : Value), k ≤ n ∧ i = .int .i64 k ∧ Blk wr g8 24 #[.int .i64 W, .int .i64 H, v] ∧ wr.ownsRow Bs 4 1 v k (blsV (binL px k)) ∧ Blk wr (w.heap.size + 1 + 1) 24 #[.int .i64 0, .int .i64 0, .slice none 0 0] ∧ Blk wr go 3 (offA px n n) ∧ Ext w wr ∧ Bs ≤ wr.heap.size) (fun _ i _ => n - (intOf i).toNat)
  case atStart => exact ⟨0, .slice none 0 0, by omega, rfl, N8.out, own_nil _ _ _ _, N4.out, NO.out, NE.out, hB0⟩
  case round =>
    obtain ⟨k, v, hk, rfl, m8, mv, m4, mO, mE, hBw⟩ := hrel
    have M8 := Lib.hid m8
    have MV := Lib.hid mv
    have M4 := Lib.hid m4
    have MO := Lib.hid mO
    have ME := Lib.hid mE
    clear m8 mv m4 mO mE N8 N4 NO NE
    by_cases hk8 : k < n
    · have hk2 : (k : Int) < (n : Int) := by omega
      have hp := HPX.out k hk8
      have c0 : wr.cell? ⟨go, k, none⟩ = some (.int .i64 (2 * px k - 240)) := by rw [MO.out.cell, offA_at px n hk8, if_pos hk8]
      have c8 : wr.cell? ⟨g8, 2, none⟩ = some v := M8.out.cell 2
      have oO := Old.mk MO.out.lt
      have o8 := Old.mk M8.out.lt
      have HL := Lib.hid (show blsV (binL px (k + 1)) = blsV (binL px k) ++ [.bool (decide (2 * px k - 240 < 0))] by simp [blsV, binL, List.range_succ])
      generalize hbb : decide (2 * px k - 240 < 0) = bb at *
      generalize 2 * px k - 240 = vv at *
      clear hp
      go_wp2_with (at_builtin; refine wpList_append_keep rfl (trunc (wr.alloc (.cells #[.bool bb] 4)) Bs) (trunc_ext (by simp; omega)) infoBl (.tmp 33) (.tmp 36) rfl v k (blsV (binL px k)) rfl (by rw [trunc_size (by simp; omega)]; exact own_grow MV.out ((Ext.refl wr).alloc _)) _ 1 1 [.bool bb] rfl (by decide) (Slc.of_blk (cs := #[.bool bb]) (t := 4) (Blk.new wr 4 #[.bool bb]) rfl) (by simp [Value.oneCell']) (by omega) (by decide) ?_; intro A2 c2 z3 hown2 hkeep; have HB5 := Lib.hid ((trunc_blk (M8.out.alloc (.cells #[.bool bb] 4)) hB8).ext z3); have c101 := HB5.out.cell 2; have f101 := HB5.out.frozen 2)
      have hsz : Bs ≤ (wr.alloc (.cells #[.bool bb] 4)).heap.size := by simp; omega
      rw [trunc_size hsz] at hown2
      have q8 := HB5.out.set_ 2 (.slice A2 (k + 1) c2)
      have q4 := ((trunc_blk (M4.out.alloc (.cells #[.bool bb] 4)) (show w.heap.size + 1 + 1 < Bs by omega)).ext z3).far (p := ⟨g8, 2, none⟩) (by show w.heap.size + 1 + 1 ≠ g8; omega) (.slice A2 (k + 1) c2)
      have qO := ((trunc_blk (MO.out.alloc (.cells #[.bool bb] 4)) hBo).ext z3).far (p := ⟨g8, 2, none⟩) (by show go ≠ g8; omega) (.slice A2 (k + 1) c2)
      have qE := ((trunc_below (ME.out.alloc (.cells #[.bool bb] 4)) (show w.heap.size ≤ Bs by omega) hsz).ext z3).setCell (p := ⟨g8, 2, none⟩) (by show w.heap.size ≤ g8; omega) (.slice A2 (k + 1) c2)
      have qV := ownsRow_setCell_below (a := ⟨g8, 2, none⟩) hown2 (by exact hB8) (.slice A2 (k + 1) c2)
      rw [← HL.out] at qV
      exact ⟨⟨k + 1, _, by omega, by go_num, q8, qV, q4, qO, qE, by have h1 := (Ext.ext_self (trunc (wr.alloc (.cells #[.bool bb] 4)) Bs) z3).size; rw [trunc_size hsz] at h1; simpa using h1⟩, by simp [intOf]; omega⟩
    · obtain rfl : k = n := by omega
      have hk2 : ¬ (k : Int) < (k : Int) := by omega
      have d0 : wr.cell? ⟨g8, 0, none⟩ = some (.int .i64 W) := M8.out.cell 0
      have d1 : wr.cell? ⟨g8, 1, none⟩ = some (.int .i64 H) := M8.out.cell 1
      have d2 : wr.cell? ⟨g8, 2, none⟩ = some v := M8.out.cell 2
      have t0 : wr.cell? ⟨w.heap.size + 1 + 1, 0, none⟩ = some (.int .i64 0) := M4.out.cell 0
      have t1 : wr.cell? ⟨w.heap.size + 1 + 1, 1, none⟩ = some (.int .i64 0) := M4.out.cell 1
      have t2 : wr.cell? ⟨w.heap.size + 1 + 1, 2, none⟩ = some (.slice none 0 0) := M4.out.cell 2
      have tf := M4.out.frozen
      have o8 := Old.mk M8.out.lt
      have o4 := Old.mk M4.out.lt
      obtain ⟨A2, c2, rfl⟩ := own_slice MV.out
      go_wp2_with fail
      have qE := ((ME.out.setCell (p := ⟨w.heap.size + 1 + 1, 0, none⟩) (by show w.heap.size ≤ w.heap.size + 1 + 1; omega) (.int .i64 W)).setCell (p := ⟨w.heap.size + 1 + 1, 1, none⟩) (by show w.heap.size ≤ w.heap.size + 1 + 1; omega) (.int .i64 H)).setCell (p := ⟨w.heap.size + 1 + 1, 2, none⟩) (by show w.heap.size ≤ w.heap.size + 1 + 1; omega) (.slice A2 k c2)
      have qV := ownsRow_setCell_below (a := ⟨w.heap.size + 1 + 1, 2, none⟩) (ownsRow_setCell_below (a := ⟨w.heap.size + 1 + 1, 1, none⟩) (ownsRow_setCell_below (a := ⟨w.heap.size + 1 + 1, 0, none⟩) MV.out (by show w.heap.size + 1 + 1 < Bs; omega) (.int .i64 W)) (by show w.heap.size + 1 + 1 < Bs; omega) (.int .i64 H)) (by show w.heap.size + 1 + 1 < Bs; omega) (.slice A2 k c2)
      have q4 := ((M4.out.set_ 0 (.int .i64 W)).set_ 1 (.int .i64 H)).set_ 2 (.slice A2 k c2)
      simp only [List.setIfInBounds_toArray, List.set_cons_zero, List.set_cons_succ] at q4
      have r0 := q4.cell 0
      have r1 := q4.cell 1
      have r2 := q4.cell 2
      have hbl : (binL px k).length = k := by simp [binL]
      refine bodyPost_ret (v := .tuple #[.agg #[.int .i64 W, .int .i64 H, .slice A2 k c2], .int .i64 0]) (by simp [results, Try.results14, go_sem, r0, r1, r2]) rfl ⟨A2, c2, by rw [hbl], by rw [hbl]; exact own_down qV (by omega), qE⟩
end Go.Proofs.Ytchplmenkdghcaa
/- Copies of traces. -/
namespace Go.Proofs.Ytchplmenkdghcaa
open Go.RowKit

theorem own_empty {w : World} {base g : Nat} {e : TypeId} (sz : Nat) (hb : base ≤ g) (h : Blk w g e #[]) : w.ownsRow base e sz (.slice (some ⟨g, 0, none⟩) 0 0) 0 [] :=
  ⟨by simp, .inr ⟨g, 0, #[], rfl, hb, h, Nat.le_refl _, by simp [maxLen], by simp, by simp⟩⟩
theorem blF_slc {w : World} {A : Option Addr} {R : List Bool} (h : Bls w A R) : Slc w 1 A R.length (blsV R) := by
  refine ⟨by simp [blsV], fun hn => ?_⟩
  rcases h with h | ⟨g, off, e, hg, hc⟩
  · rw [h] at hn; cases hn
  · refine ⟨g, off, e, hg, fun j u hu => ?_⟩
    unfold blsV at hu
    rw [List.getElem?_map] at hu
    cases hr : R[j]? with
    | none => rw [hr] at hu; cases hu
    | some x =>
      rw [hr] at hu
      injection hu with hu
      have := hc j x hr 0 u (by rw [← hu]; rfl)
      simpa using this
theorem bls_of_own {w : World} {B : Nat} {A : Option Addr} {R : List Bool} {c : Nat} (h : w.ownsRow B 4 1 (.slice A R.length c) R.length (blsV R)) : Bls w A R := by
  have hs := Slc.of_own h
  rcases R with _ | ⟨r0, R⟩
  · exact .inl rfl
  · obtain ⟨g, off, e, hg, hc⟩ := hs.2 (by simp)
    refine .inr ⟨g, off, e, hg, fun k x hk j u hu => ?_⟩
    have hj : j = 0 := by
      have := (List.getElem?_eq_some_iff.1 hu).1
      simp [blF] at this
      exact this
    subst hj
    have hu2 : u = .bool x := by
      simp [blF] at hu
      exact hu.symm
    subst hu2
    have := hc k (.bool x) (by unfold blsV; rw [List.getElem?_map, hk]; rfl)
    simpa using this
set_option maxRecDepth 100000 in
set_option maxHeartbeats 2000000 in
theorem clone_any (R : List Bool) (A : Option Addr) (c : Nat) (hn : 0 < R.length ∧ R.length ≤ 400) (w : World) (hB : Bls w A R) : Calls Try.prog 31 #[.slice A R.length c] w fun e w' => ∃ A' c', e = .returned (.slice A' R.length c') ∧ w'.ownsRow w.heap.size 4 1 (.slice A' R.length c') R.length (blsV R) ∧ Ext w w' := by
  have HS := Lib.hid (blF_slc hB)
  have HO := Lib.hid (show ∀ u ∈ blsV R, u.oneCell' = true from fun u hu => by
    obtain ⟨x, -, rfl⟩ := List.mem_map.1 hu
    rfl)
  obtain ⟨g, off, rfl⟩ : ∃ g off, A = some ⟨g, off, none⟩ := by
    rcases hB with h | ⟨g, off, e, -⟩
    · rw [h] at hn; cases hn.1
    · exact ⟨g, off, e⟩
  obtain ⟨h1, h2⟩ := hn
  clear hB
  generalize blsV R = xs at *
  generalize R.length = n at *
  have he : ∀ w, Sem.run Try.prog (binOp BinOp.eql 22 (Value.slice (some { block := g, off := off }) n c) (Value.slice none 0 0)) w = .ok (.bool false) w := fun w => by kernel_rfl
  go_enter Try.func31, Try.ntmps31
  go_wp2_with (at_builtin; refine wpList_append_keep rfl w (by exact (Ext.refl _).alloc _) infoBl (.tmp 5) (.tmp 6) rfl _ 0 [] rfl (by exact own_empty 1 (Nat.le_refl _) (Blk.new _ 4 #[])) (some ⟨g, off, none⟩) n c xs rfl h1 (by exact HS.out.grow ((Ext.refl _).alloc _)) HO.out (by omega) (by decide) ?_; intro A2 c2 z2 hown2 hkeep)
  rw [Nat.zero_add, List.nil_append] at hown2
  go_ret
  exact ⟨A2, c2, by simp, hown2, Ext.ext_self w z2⟩
end Go.Proofs.Ytchplmenkdghcaa
/- The trace of a noisy sample is the one that was drawn. Plain laws. -/
namespace Go.Proofs.Ytchplmenkdghcaa
open Go.RowKit
/-- the noise of a pixel -/
def noiseF (l : List Int) (i : Nat) : Int := if i < l.length then Int.tmod (l.getD i 0) 51 else 0
theorem noise_in (l : List Int) (i : Nat) : -50 ≤ noiseF l i ∧ noiseF l i ≤ 50 := by
  unfold noiseF
  split
  · have h1 := Int.tmod_lt_of_pos (l.getD i 0) (b := 51) (by omega)
    have h2 := Int.lt_tmod_of_pos (l.getD i 0) (b := 51) (by omega)
    omega
  · omega
def sampF (W H : Nat) (T : List Bool) (w dx dy : Nat) (l : List Int) (i : Nat) : Int :=
  (if isT W H T (((i % w : Nat) : Int) - dx) (((i / w : Nat) : Int) - dy) then 60 else 180) + noiseF l i
theorem samp_in (W H : Nat) (T : List Bool) (w dx dy : Nat) (l : List Int) (i : Nat) : 0 ≤ sampF W H T w dx dy l i ∧ sampF W H T w dx dy l i < 256 := by
  have := noise_in l i
  unfold sampF
  split <;> omega
theorem bin_pad (W H : Nat) (T : List Bool) (w h dx dy : Nat) (l : List Int) : binL (sampF W H T w dx dy l) (w * h) = padL W H T w h dx dy := by
  unfold binL padL
  refine List.map_congr_left fun i _ => ?_
  have := noise_in l i
  unfold sampF
  cases isT W H T (((i % w : Nat) : Int) - dx) (((i / w : Nat) : Int) - dy)
  · simp; omega
  · simp; omega
end Go.Proofs.Ytchplmenkdghcaa
