/- The moves of a class, as the reference lists them (39). -/
import Derived.Test.YthejomcibobieaaCopies
import Derived.Test.YthejomcibobieaaRefTry
namespace Go.Proofs.Ythejomcibobieaa
open Go.RowKit

abbrev Mv.cellsL (m : Mv) : List Value := [.int .i64 m.turn, .int .i64 m.dx, .int .i64 m.dy]
theorem mv_len (m : Mv) : m.cellsL.length = 3 := rfl
theorem infoV : ElemInfo Try.prog 75 26 3 24 := elemInfo (z := .agg #[.int .i64 0, .int .i64 0, .int .i64 0]) Try.underlying75 (by kernel_rfl) rfl (by decide)
def rowM (S : Nat) (n dy : Int) (k : Nat) : List Mv := (List.range k).map fun (i : Nat) => ⟨n, (i : Int) - S, dy⟩
def planeM (S : Nat) (n : Int) (k : Nat) : List Mv := (List.range k).flatMap fun (j : Nat) => rowM S n ((j : Int) - S) (2 * S + 1)
def movesM (T S k : Nat) : List Mv := (List.range k).flatMap fun (t : Nat) => planeM S ((t : Int) - T) (2 * S + 1)
theorem rowM_succ (S : Nat) (n dy : Int) (k : Nat) : rowM S n dy (k + 1) = rowM S n dy k ++ [⟨n, (k : Int) - S, dy⟩] := by simp [rowM, List.range_succ]
theorem planeM_succ (S : Nat) (n : Int) (k : Nat) : planeM S n (k + 1) = planeM S n k ++ rowM S n ((k : Int) - S) (2 * S + 1) := by simp [planeM, List.range_succ]
theorem movesM_succ (T S k : Nat) : movesM T S (k + 1) = movesM T S k ++ planeM S ((k : Int) - T) (2 * S + 1) := by simp [movesM, List.range_succ]
theorem rowM_len (S : Nat) (n dy : Int) (k : Nat) : (rowM S n dy k).length = k := by simp [rowM]
theorem planeM_len (S : Nat) (n : Int) : ∀ k, (planeM S n k).length = k * (2 * S + 1)
  | 0 => by simp [planeM]
  | k + 1 => by rw [planeM_succ, List.length_append, planeM_len S n k, rowM_len]; exact (Nat.succ_mul k _).symm
theorem movesM_len (T S : Nat) : ∀ k, (movesM T S k).length = k * ((2 * S + 1) * (2 * S + 1))
  | 0 => by simp [movesM]
  | k + 1 => by rw [movesM_succ, List.length_append, movesM_len T S k, planeM_len]; exact (Nat.succ_mul k _).symm
theorem mem_moves {T S : Nat} {v : Mv} : v ∈ movesM T S (2 * T + 1) ↔ (-(T : Int) ≤ v.turn ∧ v.turn ≤ T) ∧ (-(S : Int) ≤ v.dx ∧ v.dx ≤ S) ∧ (-(S : Int) ≤ v.dy ∧ v.dy ≤ S) := by
  simp only [movesM, planeM, rowM, List.mem_flatMap, List.mem_map, List.mem_range]
  constructor
  · rintro ⟨a, ha, b, hb, d, hd, rfl⟩
    dsimp only
    omega
  · rintro ⟨h1, h2, h3⟩
    exact ⟨(v.turn + T).toNat, by omega, (v.dy + S).toNat, by omega, (v.dx + S).toNat, by omega, Mv.ext_ (by dsimp only; omega) (by dsimp only; omega) (by dsimp only; omega)⟩
theorem small_len {T S k m i : Nat} (hT : T ≤ 3) (hS : S ≤ 4) (hk : k < 2 * T + 1) (hm : m < 2 * S + 1) (hi : i < 2 * S + 1) (n dy : Int) : (movesM T S k ++ planeM S n m ++ rowM S n dy i).length ≤ 1000 := by
  rw [List.length_append, List.length_append, movesM_len, planeM_len, rowM_len]
  have h1 : (2 * S + 1) * (2 * S + 1) ≤ 9 * 9 := Nat.mul_le_mul (by omega) (by omega)
  have h2 : k * ((2 * S + 1) * (2 * S + 1)) ≤ 6 * 81 := Nat.mul_le_mul (by omega) (by omega)
  have h3 : m * (2 * S + 1) ≤ 8 * 9 := Nat.mul_le_mul (by omega) (by omega)
  omega
set_option maxRecDepth 100000 in
set_option maxHeartbeats 4000000 in
theorem moves_any (c : Cl) (T S : Nat) (hT : T ≤ 3) (hS : S ≤ 4) (h1 : c.turns = T) (h2 : c.shift = S) (w : World) :
    Calls Try.prog 39 #[c.val] w (RetS 26 3 (movesM T S (2 * T + 1)).length (flatG Mv.cellsL (movesM T S (2 * T + 1))) w) := by
  obtain ⟨ct, cs, ce, cr, cp⟩ := c
  dsimp only at h1 h2
  subst h1 h2
  have wT : IntKind.i64.wrap (-(T : Int)) = -(T : Int) := IntWalk.i64_in _ (by omega)
  have wS : IntKind.i64.wrap (-(S : Int)) = -(S : Int) := IntWalk.i64_in _ (by omega)
  go_enter Try.func39, Try.ntmps39
  go_wp2_with fail
  have HX := Lib.hid (Blk.new w 38 #[.int .i64 T, .int .i64 S, .int .i64 ce, .int .i64 cr, .int .i64 cp])
  have HE := Lib.hid ((Ext.refl w).alloc (.cells #[.int .i64 T, .int .i64 S, .int .i64 ce, .int .i64 cr, .int .i64 cp] 38))
  generalize w.alloc (.cells #[.int .i64 T, .int .i64 S, .int .i64 ce, .int .i64 cr, .int .i64 cp] 38) = V at *
  go_loopw [3, 4, 5, 6] (fun s t _ _ wr => ∃ (k : Nat) (uv : Value), uv = s ∧ k ≤ 2 * T + 1 ∧ t = .int .i64 ((k : Int) - T) ∧ wr.ownsRow V.heap.size 26 3 s (movesM T S k).length (flatG Mv.cellsL (movesM T S k)) ∧ Ext V wr) (fun _ t _ _ _ => 2 * T + 1 - (intOf t + T).toNat)
  case atStart => exact ⟨0, _, rfl, by omega, by simp, own_nil _ _ _ _, Ext.refl _⟩
  case round =>
    obtain ⟨k, uv, rfl, hk, rfl, hown, hE2⟩ := hrel
    have HOwn := Lib.hid hown
    have HE2 := Lib.hid hE2
    have c0 : wr.cell? ⟨w.heap.size, 0, none⟩ = some (.int .i64 T) := (HX.out.grow hE2).cell 0
    have c1 : wr.cell? ⟨w.heap.size, 1, none⟩ = some (.int .i64 S) := (HX.out.grow hE2).cell 1
    have oX := Old.mk (HX.out.grow hE2).lt
    clear hown hE2
    by_cases hk1 : k < 2 * T + 1
    · have g1 : decide ((k : Int) - (T : Int) ≤ (T : Int)) = true := by simp; omega
      have w1 : IntKind.i64.wrap ((k : Int) - (T : Int) + 1) = ((k + 1 : Nat) : Int) - T := (IntWalk.i64_in _ (by omega)).trans (by omega)
      go_wp2_with fail
      go_loopw [3, 5, 6] (fun s t _ wr => ∃ (m : Nat) (uv2 : Value), uv2 = s ∧ m ≤ 2 * S + 1 ∧ t = .int .i64 ((m : Int) - S) ∧ wr.ownsRow V.heap.size 26 3 s (movesM T S k ++ planeM S ((k : Int) - T) m).length (flatG Mv.cellsL (movesM T S k ++ planeM S ((k : Int) - T) m)) ∧ Ext V wr) (fun _ t _ _ => 2 * S + 1 - (intOf t + S).toNat)
      case atStart => exact ⟨0, _, rfl, by omega, by simp, by rw [show planeM S ((k : Int) - T) 0 = [] from rfl, List.append_nil]; exact HOwn.out, HE2.out⟩
      case round =>
        clear c0 c1 oX HOwn HE2
        obtain ⟨m, uv2, rfl, hm, rfl, hown, hE2⟩ := hrel
        have HOwn := Lib.hid hown
        have HE2 := Lib.hid hE2
        have c0 : wr.cell? ⟨w.heap.size, 0, none⟩ = some (.int .i64 T) := (HX.out.grow hE2).cell 0
        have c1 : wr.cell? ⟨w.heap.size, 1, none⟩ = some (.int .i64 S) := (HX.out.grow hE2).cell 1
        have oX := Old.mk (HX.out.grow hE2).lt
        clear hown hE2
        by_cases hm1 : m < 2 * S + 1
        · have g2 : decide ((m : Int) - (S : Int) ≤ (S : Int)) = true := by simp; omega
          have w2 : IntKind.i64.wrap ((m : Int) - (S : Int) + 1) = ((m + 1 : Nat) : Int) - S := (IntWalk.i64_in _ (by omega)).trans (by omega)
          go_wp2_with fail
          go_loopw [3, 6] (fun s t wr => ∃ (i : Nat) (uv3 : Value), uv3 = s ∧ i ≤ 2 * S + 1 ∧ t = .int .i64 ((i : Int) - S) ∧ wr.ownsRow V.heap.size 26 3 s (movesM T S k ++ planeM S ((k : Int) - T) m ++ rowM S ((k : Int) - T) ((m : Int) - S) i).length (flatG Mv.cellsL (movesM T S k ++ planeM S ((k : Int) - T) m ++ rowM S ((k : Int) - T) ((m : Int) - S) i)) ∧ Ext V wr) (fun _ t _ => 2 * S + 1 - (intOf t + S).toNat)
          case atStart => exact ⟨0, _, rfl, by omega, by simp, by rw [show rowM S ((k : Int) - T) ((m : Int) - S) 0 = [] from rfl, List.append_nil]; exact HOwn.out, HE2.out⟩
          case round =>
            clear c0 c1 oX HOwn HE2
            obtain ⟨i, uv3, rfl, hi, rfl, hown, hE2⟩ := hrel
            have HOwn := Lib.hid hown
            have HE2 := Lib.hid hE2
            have c0 : wr.cell? ⟨w.heap.size, 0, none⟩ = some (.int .i64 T) := (HX.out.grow hE2).cell 0
            have c1 : wr.cell? ⟨w.heap.size, 1, none⟩ = some (.int .i64 S) := (HX.out.grow hE2).cell 1
            have oX := Old.mk (HX.out.grow hE2).lt
            clear hown hE2
            by_cases hi1 : i < 2 * S + 1
            · have g3 : decide ((i : Int) - (S : Int) ≤ (S : Int)) = true := by simp; omega
              have w3 : IntKind.i64.wrap ((i : Int) - (S : Int) + 1) = ((i + 1 : Nat) : Int) - S := (IntWalk.i64_in _ (by omega)).trans (by omega)
              have hle := small_len hT hS hk1 hm1 hi1 ((k : Int) - T) ((m : Int) - S)
              have HR := Lib.hid (rowM_succ S ((k : Int) - T) ((m : Int) - S) i)
              have HOwn2 := HOwn
              go_wp2_with (at_builtin; refine wpList_append_ext rfl V (by exact HE2.out.alloc _) infoV (.tmp 34) (.tmp 39) rfl _ _ _ rfl (by exact own_grow HOwn2.out ((Ext.refl _).alloc _)) _ 1 1 [.int .i64 ((k : Int) - T), .int .i64 ((i : Int) - S), .int .i64 ((m : Int) - S)] rfl (Slc.of_blk (cs := #[.int .i64 ((k : Int) - T), .int .i64 ((i : Int) - S), .int .i64 ((m : Int) - S)]) (t := 26) (Blk.new wr 26 #[.int .i64 ((k : Int) - T), .int .i64 ((i : Int) - S), .int .i64 ((m : Int) - S)]) rfl) (by simp [Value.oneCell']) (by omega) (by omega) ?_; intro A2 c2 z3 hown2)
              refine ⟨⟨i + 1, _, rfl, by omega, by first | rfl | (congr 1; omega), ?_, Ext.ext_self V z3⟩, by simp [intOf]; omega⟩
              have e := flatG_app (f := Mv.cellsL) (movesM T S k ++ planeM S ((k : Int) - T) m ++ rowM S ((k : Int) - T) ((m : Int) - S) i) [⟨(k : Int) - T, (i : Int) - S, (m : Int) - S⟩]
              rw [HR.out, ← List.append_assoc, List.length_append, e]
              simp only [List.length_append, Nat.add_assoc, List.length_singleton] at hown2 ⊢
              exact hown2
            · obtain rfl : i = 2 * S + 1 := by omega
              have g3 : decide (((2 * S + 1 : Nat) : Int) - (S : Int) ≤ (S : Int)) = false := by simp; omega
              go_wp2_with fail
              exact ⟨⟨m + 1, _, rfl, by omega, by first | rfl | (congr 1; omega), by rw [planeM_succ, ← List.append_assoc]; exact HOwn.out, HE2.out⟩, by simp [intOf]; omega⟩
        · obtain rfl : m = 2 * S + 1 := by omega
          have g2 : decide (((2 * S + 1 : Nat) : Int) - (S : Int) ≤ (S : Int)) = false := by simp; omega
          go_wp2_with fail
          exact ⟨⟨k + 1, _, rfl, by omega, by first | rfl | (congr 1; omega), by rw [movesM_succ]; exact HOwn.out, HE2.out⟩, by simp [intOf]; omega⟩
    · obtain rfl : k = 2 * T + 1 := by omega
      have g1 : decide (((2 * T + 1 : Nat) : Int) - (T : Int) ≤ (T : Int)) = false := by simp; omega
      obtain ⟨A3, c3, rfl⟩ := own_slice HOwn.out
      go_wp2_with fail
      go_ret
      exact ⟨A3, c3, rfl, own_mono HOwn.out (HE.out.size), HE.out.trans HE2.out⟩
end Go.Proofs.Ythejomcibobieaa
