/- The neighbours of a pixel. -/
import Derived.Test.YtchplmenkdghcaaTopLeaf
import Derived.Deep.WholeRow
import Derived.Laws.Tables
import Derived.ChangeKeysEq
import Derived.DeepKeys
import Derived.Test.YtchplmenkdghcaaSlices
namespace Go.Proofs.Ytchplmenkdghcaa
open Go.RowKit

theorem setRow_heap (w : World) (g i : Nat) (cs : Array Value) (h : i ≠ g) : (w.setRow g cs).heap[i]? = w.heap[i]? := by
  simp only [World.setRow]
  rw [Array.getElem?_modify, if_neg (fun e => h e.symm)]
theorem setRow_size (w : World) (g : Nat) (cs : Array Value) : (w.setRow g cs).heap.size = w.heap.size := by
  simp [World.setRow]
theorem Blk.row {w : World} {g : Nat} {t : TypeId} {c : Array Value} (h : Blk w g t c) (c' : Array Value) : Blk (w.setRow g c') g t c' := by
  unfold Blk at h ⊢
  simp [World.setRow, Array.getElem?_modify, h]
theorem Blk.rowFar {w : World} {g k : Nat} {t : TypeId} {c : Array Value} (h : Blk w g t c) (hk : g ≠ k) (c' : Array Value) : Blk (w.setRow k c') g t c := by
  unfold Blk at h ⊢
  rw [setRow_heap _ _ _ _ hk, h]
theorem Ext.row {w0 w : World} {g : Nat} (h : Ext w0 w) (hg : w0.heap.size ≤ g) (cs : Array Value) : Ext w0 (w.setRow g cs) :=
  ⟨h.os, h.tape, h.output, by rw [setRow_size]; exact h.size, fun b hb => by rw [setRow_heap _ _ _ _ (by omega)]; exact h.block b hb⟩
/-- eight bools -/
def rA (f : Nat → Bool) : Array Value := #[.bool (f 0), .bool (f 1), .bool (f 2), .bool (f 3), .bool (f 4), .bool (f 5), .bool (f 6), .bool (f 7)]
theorem rA_at (f : Nat → Bool) {k : Nat} (hk : k < 8) : (rA f)[k]? = some (.bool (f k)) := by
  rcases (show k = 0 ∨ k = 1 ∨ k = 2 ∨ k = 3 ∨ k = 4 ∨ k = 5 ∨ k = 6 ∨ k = 7 by omega) with rfl | rfl | rfl | rfl | rfl | rfl | rfl | rfl <;> rfl
theorem rA_set (f : Nat → Bool) {k : Nat} (hk : k < 8) (b : Bool) : (rA f).setIfInBounds k (.bool b) = rA fun d => if d = k then b else f d := by
  rcases (show k = 0 ∨ k = 1 ∨ k = 2 ∨ k = 3 ∨ k = 4 ∨ k = 5 ∨ k = 6 ∨ k = 7 by omega) with rfl | rfl | rfl | rfl | rfl | rfl | rfl | rfl <;> rfl
theorem rA_congr {f g : Nat → Bool} (h : ∀ d, d < 8 → f d = g d) : rA f = rA g := by
  unfold rA
  rw [h 0 (by omega), h 1 (by omega), h 2 (by omega), h 3 (by omega), h 4 (by omega), h 5 (by omega), h 6 (by omega), h 7 (by omega)]
theorem rA_size (f : Nat → Bool) : (rA f).size = 8 := rfl
def stepsV : Array Value := #[.int .i64 1, .int .i64 0, .int .i64 1, .int .i64 1, .int .i64 0, .int .i64 1, .int .i64 (-1), .int .i64 1, .int .i64 (-1), .int .i64 0, .int .i64 (-1), .int .i64 (-1), .int .i64 0, .int .i64 (-1), .int .i64 1, .int .i64 (-1)]
theorem st_in (k : Nat) : (-1 ≤ stX k ∧ stX k ≤ 1) ∧ (-1 ≤ stY k ∧ stY k ≤ 1) := by
  rcases (show k = 0 ∨ k = 1 ∨ k = 2 ∨ k = 3 ∨ k = 4 ∨ k = 5 ∨ k = 6 ∨ k = 7 ∨ 8 ≤ k by omega) with rfl | rfl | rfl | rfl | rfl | rfl | rfl | rfl | h
  all_goals first | decide | skip
  unfold stX stY
  rw [List.getD_eq_getElem?_getD, List.getD_eq_getElem?_getD, List.getElem?_eq_none (by simpa using h), List.getElem?_eq_none (by simpa using h)]
  decide
theorem run_step {k : Nat} (hk : k < 8) (w : World) : (Instr.index 109 (.agg stepsV) (.int .i64 (k : Int))).run Try.prog w = .ok (.agg #[.int .i64 (stX k), .int .i64 (stY k)]) w := by
  rcases (show k = 0 ∨ k = 1 ∨ k = 2 ∨ k = 3 ∨ k = 4 ∨ k = 5 ∨ k = 6 ∨ k = 7 by omega) with rfl | rfl | rfl | rfl | rfl | rfl | rfl | rfl <;> kernel_rfl
set_option maxRecDepth 100000 in
set_option maxHeartbeats 2000000 in
theorem steps_any (w : World) : Calls Try.prog 47 #[] w fun e w' => e = .returned (.agg stepsV) ∧ Ext w w' := by
  go_enter Try.func47, Try.ntmps47
  go_wp2_with fail
  have HE := Lib.hid ((Ext.refl w).alloc (.cells stepsV 109))
  exact bodyPost_ret (v := .agg stepsV) (by simp [results, Try.results47, go_sem, stepsV]) rfl ⟨rfl, HE.out⟩
set_option maxRecDepth 100000 in
set_option maxHeartbeats 4000000 in
theorem around_any (W H : Nat) (R : List Bool) (A : Option Addr) (c : Nat) (x y : Int) (hW : W ≤ 20) (hH : H ≤ 20) (hl : R.length = W * H) (hx : -100 ≤ x ∧ x ≤ 100) (hy : -100 ≤ y ∧ y ≤ 100) (w : World) (hB : Bls w A R) :
    Calls Try.prog 33 #[.agg #[.int .i64 W, .int .i64 H, .slice A R.length c], .int .i64 x, .int .i64 y] w fun e w' => e = .returned (.agg (rA (ringT W H R x y))) ∧ Ext w w' := by
  have CI := Lib.hid (fun (a b : Int) W' (hE : Ext w W') => isP_any W H R A c a b hW hH hl W' (Sl.grow hB hE))
  have CS := Lib.hid (fun w => steps_any w)
  have HR := Lib.hid (show ∀ d, ringT W H R x y d = isT W H R (x + stX d) (y + stY d) from fun _ => rfl)
  generalize ringT W H R x y = rg at *
  have HC0 := Lib.hid (((Blk.new w 24 #[.int .i64 W, .int .i64 H, .slice A R.length c]).alloc (.cells (rA fun _ => false) 93)).alloc (.cells (rA fun _ => false) 93))
  have HB6 := Lib.hid ((Blk.new' (w.alloc (.cells #[.int .i64 W, .int .i64 H, .slice A R.length c] 24)) 93 (rA fun _ => false) (w.heap.size + 1) (by simp)).alloc (.cells (rA fun _ => false) 93))
  have HB7 := Lib.hid (Blk.new' ((w.alloc (.cells #[.int .i64 W, .int .i64 H, .slice A R.length c] 24)).alloc (.cells (rA fun _ => false) 93)) 93 (rA fun _ => false) (w.heap.size + 1 + 1) (by simp))
  have HE := Lib.hid ((((Ext.refl w).alloc (.cells #[.int .i64 W, .int .i64 H, .slice A R.length c] 24)).alloc (.cells (rA fun _ => false) 93)).alloc (.cells (rA fun _ => false) 93))
  clear hl hB
  generalize R.length = n at *
  go_enter Try.func33, Try.ntmps33
  go_wp2_with fail
  change Calls _ _ _ (((w.alloc (.cells #[.int .i64 W, .int .i64 H, .slice A n c] 24)).alloc (.cells (rA fun _ => false) 93)).alloc (.cells (rA fun _ => false) 93)) _
  refine Calls.ext (CS.out _) fun z0 => ?_
  have K0 := Lib.hid (HC0.out.ext z0)
  have K6 := Lib.hid (HB6.out.ext z0)
  have K7 := Lib.hid (HB7.out.ext z0)
  have KE := Lib.hid (HE.out.ext z0)
  clear HC0 HB6 HB7 HE
  generalize ext (((w.alloc (.cells #[.int .i64 W, .int .i64 H, .slice A n c] 24)).alloc (.cells (rA fun _ => false) 93)).alloc (.cells (rA fun _ => false) 93)) z0 = V at *
  go_wp2_with fail
  go_loopw [8, 9, 11] (fun _ _ i wr => ∃ k : Nat, k ≤ 8 ∧ i = .int .i64 k ∧ Blk wr w.heap.size 24 #[.int .i64 W, .int .i64 H, .slice A n c] ∧ Blk wr (w.heap.size + 1) 93 (rA fun _ => false) ∧ Blk wr (w.heap.size + 1 + 1) 93 (rA fun d => decide (d < k) && rg d) ∧ Ext w wr) (fun _ _ i _ => 8 - (intOf i).toNat)
  case atStart => exact ⟨0, by omega, rfl, K0.out, K6.out, by rw [show (fun d => decide (d < 0) && rg d) = fun _ => false by funext d; simp]; exact K7.out, KE.out⟩
  case round =>
    obtain ⟨k, hk, rfl, b0, b6, b7, bE⟩ := hrel
    have N0 := Lib.hid b0
    have N6 := Lib.hid b6
    have N7 := Lib.hid b7
    have NE := Lib.hid bE
    clear b0 b6 b7 bE K0 K6 K7 KE
    by_cases hk8 : k < 8
    · have hk2 : (k : Int) < 8 := by omega
      have hst := st_in k
      have hrk := HR.out k
      have hi := fun w => run_step hk8 w
      have HPut := Lib.hid (show (rA fun d => decide (d < k) && rg d).setIfInBounds k (.bool (rg k)) = rA fun d => decide (d < k + 1) && rg d by
        rw [rA_set _ hk8]
        refine rA_congr fun d _ => ?_
        by_cases e : d = k
        · subst e; rw [if_pos rfl, decide_eq_true (by omega)]; rfl
        · rw [if_neg e]
          congr 1
          exact decide_eq_decide.2 (by omega))
      have c7 : wr.cell? ⟨w.heap.size + 1 + 1, k, none⟩ = some (.bool false) := by
        rw [N7.out.cell, rA_at _ hk8, decide_eq_false (by omega)]; rfl
      generalize stX k = sx at *
      generalize stY k = sy at *
      have C := Lib.hid (fun W' hE => hrk ▸ CI.out (x + sx) (y + sy) W' hE)
      generalize rg k = rk at *
      have w1 : IntKind.i64.wrap (x + sx) = x + sx := IntWalk.i64_in _ (by omega)
      have w2 : IntKind.i64.wrap (y + sy) = y + sy := IntWalk.i64_in _ (by omega)
      have d0 : wr.cell? ⟨w.heap.size, 0, none⟩ = some (.int .i64 W) := N0.out.cell 0
      have d1 : wr.cell? ⟨w.heap.size, 1, none⟩ = some (.int .i64 H) := N0.out.cell 1
      have d2 : wr.cell? ⟨w.heap.size, 2, none⟩ = some (.slice A n c) := N0.out.cell 2
      have f7 := N7.out.frozen
      have o0 := Old.mk N0.out.lt
      have o7 := Old.mk N7.out.lt
      clear hrk hst
      go_wp2_with fail
      have E2 := Lib.hid (NE.out.alloc (.cells #[.int .i64 sx, .int .i64 sy] 95))
      refine Calls.ext (C.out _ E2.out) fun z1 => ?_
      have M0 := Lib.hid ((N0.out.alloc (.cells #[.int .i64 sx, .int .i64 sy] 95)).ext z1)
      have M6 := Lib.hid ((N6.out.alloc (.cells #[.int .i64 sx, .int .i64 sy] 95)).ext z1)
      have M7 := Lib.hid ((N7.out.alloc (.cells #[.int .i64 sx, .int .i64 sy] 95)).ext z1)
      have ME := Lib.hid (E2.out.ext z1)
      go_wp2_with fail
      have q7 := M7.out.set_ k (.bool rk)
      rw [HPut.out] at q7
      exact ⟨⟨k + 1, by omega, by go_num, M0.out.far (p := ⟨w.heap.size + 1 + 1, k, none⟩) (by show w.heap.size ≠ w.heap.size + 1 + 1; omega) _, M6.out.far (p := ⟨w.heap.size + 1 + 1, k, none⟩) (by show w.heap.size + 1 ≠ w.heap.size + 1 + 1; omega) _, q7, ME.out.setCell (p := ⟨w.heap.size + 1 + 1, k, none⟩) (by show w.heap.size ≤ w.heap.size + 1 + 1; omega) _⟩, by simp [intOf]; omega⟩
    · obtain rfl : k = 8 := by omega
      have n7 := N7.out
      rw [rA_congr (g := rg) (fun d hd => by rw [decide_eq_true hd]; rfl)] at n7
      have L7 := Lib.hid n7
      clear n7 N7
      have i93 : (Try.prog.info? 93).map (·.size) = some (rA rg).size := by rw [rA_size]; kernel_rfl
      have i1 : (rA rg).all (·.oneCell') = true := by simp [rA, Value.oneCell']
      go_wp2_with (first | (refine wpList_load_row rfl 93 (.tmp 7) rfl (w.heap.size + 1 + 1) rfl 93 (rA rg) (0, 0) _ L7.out Try.underlying93 rfl i93 ?_) | (refine wpList_store_row rfl 93 (.tmp 6) (.tmp 28) rfl (w.heap.size + 1) (rA rg) rfl rfl 93 (rA fun _ => false) N6.out i93 rfl i1 ?_))
      exact bodyPost_ret (results_cell_row rfl _ _ (w.heap.size + 1) 93 (rA rg) (0, 0) _ rfl (N6.out.row (rA rg)) Try.underlying93 rfl i93) rfl ⟨rfl, NE.out.row (by omega) _⟩
end Go.Proofs.Ytchplmenkdghcaa
/- Lonely pixels; the first neighbour. -/
namespace Go.Proofs.Ytchplmenkdghcaa
open Go.RowKit

def rL (f : Nat → Bool) : List Lit := [.bool (f 0), .bool (f 1), .bool (f 2), .bool (f 3), .bool (f 4), .bool (f 5), .bool (f 6), .bool (f 7)]
theorem kt_93 : Try.prog.keyTypeAt 10 93 = true := by kernel_rfl
theorem cells_93 : Try.prog.cellsOf 93 = 8 := by kernel_rfl
theorem key_93 (f : Nat → Bool) : Try.prog.keyLits 10 93 (rA f).toList = some (rL f) := by kernel_rfl
theorem form_93 (f : Nat → Bool) : (Value.agg (rA f)).formed Try.prog 93 = true := by kernel_rfl
def eqB (f g : Nat → Bool) : Bool := (f 0 == g 0) && ((f 1 == g 1) && ((f 2 == g 2) && ((f 3 == g 3) && ((f 4 == g 4) && ((f 5 == g 5) && ((f 6 == g 6) && (f 7 == g 7)))))))
theorem eq93 (f g : Nat → Bool) (w : World) : (Op.equalIn 10000 93 (.agg (rA f)) (.agg (rA g))).run Try.prog w = .ok (eqB f g) w := by
  obtain ⟨r, hr, hi⟩ := run_equalIn_deep 9990 10 93 kt_93 w 10 10 (.agg (rA f)) (.agg (rA g)) (rL f) (rL g) (form_93 f) (form_93 g) (key_93 f) (key_93 g)
  have e : r = eqB f g := by
    rw [Bool.eq_iff_iff, hi]
    simp only [rL, eqB, List.cons.injEq, Lit.bool.injEq, Bool.and_eq_true, beq_iff_eq, and_true]
  rw [← e]
  exact hr
theorem run_idx93 (f : Nat → Bool) {k : Nat} (hk : k < 8) (w : World) : (Instr.index 93 (.agg (rA f)) (.int .i64 (k : Int))).run Try.prog w = .ok (.bool (f k)) w := by
  rcases (show k = 0 ∨ k = 1 ∨ k = 2 ∨ k = 3 ∨ k = 4 ∨ k = 5 ∨ k = 6 ∨ k = 7 by omega) with rfl | rfl | rfl | rfl | rfl | rfl | rfl | rfl <;> kernel_rfl
theorem lone8 : ∀ b0 b1 b2 b3 b4 b5 b6 b7 : Bool,
    (b0 = true → decide ((([b0, b1, b2, b3, b4, b5, b6, b7]).filter id).length ≤ 1) = ((b0 == true) && ((b1 == false) && ((b2 == false) && ((b3 == false) && ((b4 == false) && ((b5 == false) && ((b6 == false) && (b7 == false))))))))) ∧
    (b0 = false → b1 = true → decide ((([b0, b1, b2, b3, b4, b5, b6, b7]).filter id).length ≤ 1) = ((b0 == false) && ((b1 == true) && ((b2 == false) && ((b3 == false) && ((b4 == false) && ((b5 == false) && ((b6 == false) && (b7 == false))))))))) ∧
    (b0 = false → b1 = false → b2 = true → decide ((([b0, b1, b2, b3, b4, b5, b6, b7]).filter id).length ≤ 1) = ((b0 == false) && ((b1 == false) && ((b2 == true) && ((b3 == false) && ((b4 == false) && ((b5 == false) && ((b6 == false) && (b7 == false))))))))) ∧
    (b0 = false → b1 = false → b2 = false → b3 = true → decide ((([b0, b1, b2, b3, b4, b5, b6, b7]).filter id).length ≤ 1) = ((b0 == false) && ((b1 == false) && ((b2 == false) && ((b3 == true) && ((b4 == false) && ((b5 == false) && ((b6 == false) && (b7 == false))))))))) ∧
    (b0 = false → b1 = false → b2 = false → b3 = false → b4 = true → decide ((([b0, b1, b2, b3, b4, b5, b6, b7]).filter id).length ≤ 1) = ((b0 == false) && ((b1 == false) && ((b2 == false) && ((b3 == false) && ((b4 == true) && ((b5 == false) && ((b6 == false) && (b7 == false))))))))) ∧
    (b0 = false → b1 = false → b2 = false → b3 = false → b4 = false → b5 = true → decide ((([b0, b1, b2, b3, b4, b5, b6, b7]).filter id).length ≤ 1) = ((b0 == false) && ((b1 == false) && ((b2 == false) && ((b3 == false) && ((b4 == false) && ((b5 == true) && ((b6 == false) && (b7 == false))))))))) ∧
    (b0 = false → b1 = false → b2 = false → b3 = false → b4 = false → b5 = false → b6 = true → decide ((([b0, b1, b2, b3, b4, b5, b6, b7]).filter id).length ≤ 1) = ((b0 == false) && ((b1 == false) && ((b2 == false) && ((b3 == false) && ((b4 == false) && ((b5 == false) && ((b6 == true) && (b7 == false))))))))) ∧
    (b0 = false → b1 = false → b2 = false → b3 = false → b4 = false → b5 = false → b6 = false → b7 = true → decide ((([b0, b1, b2, b3, b4, b5, b6, b7]).filter id).length ≤ 1) = ((b0 == false) && ((b1 == false) && ((b2 == false) && ((b3 == false) && ((b4 == false) && ((b5 == false) && ((b6 == false) && (b7 == true))))))))) := by
  intro b0 b1 b2 b3 b4 b5 b6 b7
  cases b0 <;> cases b1 <;> cases b2 <;> cases b3 <;> cases b4 <;> cases b5 <;> cases b6 <;> cases b7 <;> refine ⟨?_, ?_, ?_, ?_, ?_, ?_, ?_, ?_⟩ <;> intros <;> first | rfl | contradiction
theorem lonely_at (f : Nat → Bool) {k : Nat} (hk : k < 8) (h0 : ∀ j, j < k → f j = false) (h1 : f k = true) : lonelyF ((List.range 8).map f) = eqB f fun d => decide (d = k) := by
  obtain ⟨a0, a1, a2, a3, a4, a5, a6, a7⟩ := lone8 (f 0) (f 1) (f 2) (f 3) (f 4) (f 5) (f 6) (f 7)
  show decide ((([f 0, f 1, f 2, f 3, f 4, f 5, f 6, f 7]).filter id).length ≤ 1) = _
  rcases (show k = 0 ∨ k = 1 ∨ k = 2 ∨ k = 3 ∨ k = 4 ∨ k = 5 ∨ k = 6 ∨ k = 7 by omega) with rfl | rfl | rfl | rfl | rfl | rfl | rfl | rfl
  · exact a0 h1
  · exact a1 (h0 0 (by omega)) h1
  · exact a2 (h0 0 (by omega)) (h0 1 (by omega)) h1
  · exact a3 (h0 0 (by omega)) (h0 1 (by omega)) (h0 2 (by omega)) h1
  · exact a4 (h0 0 (by omega)) (h0 1 (by omega)) (h0 2 (by omega)) (h0 3 (by omega)) h1
  · exact a5 (h0 0 (by omega)) (h0 1 (by omega)) (h0 2 (by omega)) (h0 3 (by omega)) (h0 4 (by omega)) h1
  · exact a6 (h0 0 (by omega)) (h0 1 (by omega)) (h0 2 (by omega)) (h0 3 (by omega)) (h0 4 (by omega)) (h0 5 (by omega)) h1
  · exact a7 (h0 0 (by omega)) (h0 1 (by omega)) (h0 2 (by omega)) (h0 3 (by omega)) (h0 4 (by omega)) (h0 5 (by omega)) (h0 6 (by omega)) h1
set_option maxRecDepth 100000 in
set_option maxHeartbeats 4000000 in
theorem lonely_any (f : Nat → Bool) (w : World) : Calls Try.prog 35 #[.agg (rA f)] w fun e w' => e = .returned (.bool (lonelyF ((List.range 8).map f))) ∧ Ext w w' := by
  have HB := Lib.hid (Blk.new w 93 (rA f))
  have HE := Lib.hid ((Ext.refl w).alloc (.cells (rA f) 93))
  have i93 : ∀ f : Nat → Bool, (Try.prog.info? 93).map (·.size) = some (rA f).size := fun f => by rw [rA_size]; kernel_rfl
  have HL := Lib.hid (fun (k : Nat) (hk : k < 8) h0 h1 => lonely_at f hk h0 h1)
  have HZ := Lib.hid (show (∀ j, j < 8 → f j = false) → lonelyF ((List.range 8).map f) = true from fun h => by
    show decide ((([f 0, f 1, f 2, f 3, f 4, f 5, f 6, f 7]).filter id).length ≤ 1) = true
    rw [h 0 (by omega), h 1 (by omega), h 2 (by omega), h 3 (by omega), h 4 (by omega), h 5 (by omega), h 6 (by omega), h 7 (by omega)]
    rfl)
  generalize lonelyF ((List.range 8).map f) = res at *
  go_enter Try.func35, Try.ntmps35
  go_wp2_with (refine wpList_load_row rfl 93 (.tmp 1) rfl w.heap.size rfl 93 (rA f) (0, 0) _ HB.out Try.underlying93 rfl (i93 f) ?_)
  generalize w.alloc (.cells (rA f) 93) = V at *
  go_loopw [3, 4, 7] (fun _ _ i wr => ∃ k : Nat, k ≤ 8 ∧ i = .int .i64 k ∧ wr = V ∧ ∀ j, j < k → f j = false) (fun _ _ i _ => 8 - (intOf i).toNat)
  case atStart => exact ⟨0, by omega, rfl, rfl, fun j hj => by omega⟩
  case round =>
    obtain ⟨k, hk, rfl, rfl, h0⟩ := hrel
    have H0 := Lib.hid h0
    clear h0
    by_cases hk8 : k < 8
    · have hk2 : (k : Int) < 8 := by omega
      have hi := fun w => run_idx93 f hk8 w
      cases hf : f k
      · rw [hf] at hi
        go_wp2_with fail
        exact ⟨⟨k + 1, by omega, by go_num, by simp, fun j hj => by
          rcases Nat.lt_or_ge j k with h | h
          · exact H0.out j h
          · obtain rfl : j = k := by omega
            exact hf⟩, by simp [intOf]; omega⟩
      · rw [hf] at hi
        have HV := Lib.hid (HL.out k hk8 H0.out hf)
        have hlt := HB.out.lt
        have hX : ([Value.bool false, Value.bool false, Value.bool false, Value.bool false, Value.bool false, Value.bool false, Value.bool false, Value.bool false].set k (Value.bool true)).toArray = rA (fun d => decide (d = k)) := by
          rcases (show k = 0 ∨ k = 1 ∨ k = 2 ∨ k = 3 ∨ k = 4 ∨ k = 5 ∨ k = 6 ∨ k = 7 by omega) with rfl | rfl | rfl | rfl | rfl | rfl | rfl | rfl <;> rfl
        have hn := Blk.new wr 93 (([Value.bool false, Value.bool false, Value.bool false, Value.bool false, Value.bool false, Value.bool false, Value.bool false, Value.bool false].set k (Value.bool true)).toArray)
        have HN2 := Lib.hid (show Blk (wr.alloc (.cells (([Value.bool false, Value.bool false, Value.bool false, Value.bool false, Value.bool false, Value.bool false, Value.bool false, Value.bool false].set k (Value.bool true)).toArray) 93)) wr.heap.size 93 (rA fun d => decide (d = k)) from by rw [hX] at hn ⊢; exact hn)
        have HEr := Lib.hid (HE.out.alloc (.cells (([Value.bool false, Value.bool false, Value.bool false, Value.bool false, Value.bool false, Value.bool false, Value.bool false, Value.bool false].set k (Value.bool true)).toArray) 93))
        have hq := fun w => eq93 f (fun d => decide (d = k)) w
        have e93 : Try.prog.eqGuardType Try.prog.depth 93 = false := by kernel_rfl
        clear hf hn hX
        go_wp2_with (first | (refine wpList_load_row rfl 93 (.tmp 1) rfl w.heap.size rfl 93 (rA f) (0, 0) _ (HB.out.alloc _) Try.underlying93 rfl (i93 f) ?_) | (refine wpList_load_row rfl 93 (.tmp 5) rfl wr.heap.size rfl 93 (rA fun d => decide (d = k)) (0, 0) _ HN2.out Try.underlying93 rfl (i93 _) ?_))
        go_ret
        exact ⟨ret_of (by rw [HV.out]; rfl), HEr.out⟩
    · obtain rfl : k = 8 := by omega
      have HV := Lib.hid (HZ.out H0.out)
      go_wp2_with fail
      go_ret
      exact ⟨ret_of (by rw [HV.out]; rfl), HE.out⟩
end Go.Proofs.Ytchplmenkdghcaa
/- The first neighbour; copies of traces. -/
namespace Go.Proofs.Ytchplmenkdghcaa
open Go.RowKit

def firstF (r : List Bool) : Int := if r.any id then ((r.findIdx id : Nat) : Int) else -1
theorem first_at (f : Nat → Bool) {k : Nat} (hk : k < 8) (h0 : ∀ j, j < k → f j = false) (h1 : f k = true) : firstF ((List.range 8).map f) = (k : Int) := by
  show firstF [f 0, f 1, f 2, f 3, f 4, f 5, f 6, f 7] = (k : Int)
  unfold firstF
  rcases (show k = 0 ∨ k = 1 ∨ k = 2 ∨ k = 3 ∨ k = 4 ∨ k = 5 ∨ k = 6 ∨ k = 7 by omega) with rfl | rfl | rfl | rfl | rfl | rfl | rfl | rfl
  · rw [h1]; rfl
  · rw [h0 0 (by omega), h1]; rfl
  · rw [h0 0 (by omega), h0 1 (by omega), h1]; rfl
  · rw [h0 0 (by omega), h0 1 (by omega), h0 2 (by omega), h1]; rfl
  · rw [h0 0 (by omega), h0 1 (by omega), h0 2 (by omega), h0 3 (by omega), h1]; rfl
  · rw [h0 0 (by omega), h0 1 (by omega), h0 2 (by omega), h0 3 (by omega), h0 4 (by omega), h1]; rfl
  · rw [h0 0 (by omega), h0 1 (by omega), h0 2 (by omega), h0 3 (by omega), h0 4 (by omega), h0 5 (by omega), h1]; rfl
  · rw [h0 0 (by omega), h0 1 (by omega), h0 2 (by omega), h0 3 (by omega), h0 4 (by omega), h0 5 (by omega), h0 6 (by omega), h1]; rfl
theorem first_no (f : Nat → Bool) (h : ∀ j, j < 8 → f j = false) : firstF ((List.range 8).map f) = -1 := by
  show firstF [f 0, f 1, f 2, f 3, f 4, f 5, f 6, f 7] = -1
  rw [h 0 (by omega), h 1 (by omega), h 2 (by omega), h 3 (by omega), h 4 (by omega), h 5 (by omega), h 6 (by omega), h 7 (by omega)]
  rfl
set_option maxRecDepth 100000 in
set_option maxHeartbeats 4000000 in
theorem index_any (f : Nat → Bool) (g c : Nat) (w : World) (hB : Blk w g 93 (rA f)) : Calls Try.prog 37 #[.slice (some ⟨g, 0, none⟩) 8 c, .bool true] w fun e w' => e = .returned (.int .i64 (firstF ((List.range 8).map f))) ∧ w = w' := by
  have HB := Lib.hid hB
  have HL := Lib.hid (fun (k : Nat) (hk : k < 8) h0 h1 => first_at f hk h0 h1)
  have HZ := Lib.hid (first_no f)
  generalize firstF ((List.range 8).map f) = res at *
  clear hB
  go_enter Try.func37, Try.ntmps37
  go_wp2_with fail
  go_loopw [5, 8] (fun _ i wr => ∃ k : Nat, k ≤ 8 ∧ i = .int .i64 k ∧ wr = w ∧ ∀ j, j < k → f j = false) (fun _ i _ => 8 - (intOf i).toNat)
  case atStart => exact ⟨0, by omega, rfl, rfl, fun j hj => by omega⟩
  case round =>
    obtain ⟨k, hk, rfl, rfl, h0⟩ := hrel
    have H0 := Lib.hid h0
    clear h0
    by_cases hk8 : k < 8
    · have hk2 : (k : Int) < 8 := by omega
      have c0 : wr.cell? ⟨g, k, none⟩ = some (.bool (f k)) := by rw [HB.out.cell, rA_at f hk8]
      have og := Old.mk HB.out.lt
      cases hf : f k
      · rw [hf] at c0
        go_wp2_with fail
        exact ⟨⟨k + 1, by omega, by go_num, by simp, fun j hj => by
          rcases Nat.lt_or_ge j k with h | h
          · exact H0.out j h
          · obtain rfl : j = k := by omega
            exact hf⟩, by simp [intOf]; omega⟩
      · rw [hf] at c0
        have HV := Lib.hid (HL.out k hk8 H0.out hf)
        clear hf
        go_wp2_with fail
        go_ret
        exact ⟨ret_of (by rw [HV.out]; rfl), rfl⟩
    · obtain rfl : k = 8 := by omega
      have HV := Lib.hid (HZ.out H0.out)
      go_wp2_with fail
      go_ret
      exact ⟨ret_of (by rw [HV.out]; rfl), rfl⟩
end Go.Proofs.Ytchplmenkdghcaa
