/- The reference: choices, and how many words are alike. -/
import Derived.Test.YtcacbolbedhcoaaAlike
import Derived.Test.YtcacbolbedhcoaaSlices
import Derived.Deep.RegionHeld3
namespace Go.Proofs.Ytcacbolbedhcoaa
open Go.RowKit

def u64s (l : List Nat) : List Value := l.map fun (x : Nat) => Value.int .u64 (x : Int)
theorem u64s_append (l m : List Nat) : u64s (l ++ m) = u64s l ++ u64s m := by simp [u64s]
theorem u64s_len (l : List Nat) : (u64s l).length = l.length := by simp [u64s]
theorem infoU : ElemInfo Try.prog 115 25 1 8 := elemInfo Try.underlying115 (z := .int .u64 0) (by kernel_rfl) rfl (by omega)
theorem own_blk {w : World} {base g n : Nat} {e : TypeId} {cs : Array Value} (hb : base ≤ g) (h : Blk w g e cs) (hn : cs.size = n) (hm : n ≤ 1000) : w.ownsRow base e 1 (.slice (some ⟨g, 0, none⟩) n n) n cs.toList :=
  ⟨by simp [hn], .inr ⟨g, n, cs, rfl, hb, h, Nat.le_refl _, by simp [maxLen]; omega, by simp [hn], by rw [Nat.mul_one, List.take_of_length_le (by simp [hn])]⟩⟩

theorem nbr_len : ∀ l : List Nat, (nbr l).length = l.length - 1
  | [] => rfl
  | [_] => rfl
  | _ :: b :: r => by simp only [nbr, List.length_cons]; rw [nbr_len (b :: r)]; simp
theorem nbr_at : ∀ (l : List Nat) (j : Nat) (h : j + 1 < l.length), (nbr l)[j]? = some (l[j] + l[j + 1])
  | a :: b :: r, 0, _ => by simp [nbr]
  | a :: b :: r, j + 1, h => by
    have := nbr_at (b :: r) j (by simpa using h)
    simp only [nbr, List.getElem?_cons_succ]
    rw [this]; simp

/-- the row that is being made -/
def halfRow (i j : Nat) : List Nat := 1 :: (nbr (rowN i)).take (j - 1)
theorem half_one (i : Nat) : halfRow i 1 = [1] := by simp [halfRow]
theorem half_len (i j : Nat) (hi : i ≤ 62) (h1 : 1 ≤ j) (h2 : j ≤ i + 1) : (halfRow i j).length = j := by
  have := row_len i (by omega)
  simp [halfRow, nbr_len, this]; omega
theorem half_succ (i j : Nat) (hi : i ≤ 62) (h1 : 1 ≤ j) (h2 : j < i + 1) (hl : j < (rowN i).length) : halfRow i (j + 1) = halfRow i j ++ [(rowN i)[j - 1] + (rowN i)[j]] := by
  have hr := row_len i (by omega)
  have ha := nbr_at (rowN i) (j - 1) (by omega)
  have hlt := (List.getElem?_eq_some_iff.1 ha)
  unfold halfRow
  have e : j + 1 - 1 = (j - 1) + 1 := by omega
  rw [e, List.take_succ_eq_append_getElem hlt.1, hlt.2]
  have e2 : j - 1 + 1 = j := by omega
  simp [e2]
theorem half_all (i : Nat) (hi : i ≤ 62) : halfRow i (i + 1) ++ [1] = rowN (i + 1) := by
  have hr := row_len i (by omega)
  unfold halfRow
  rw [List.take_of_length_le (by rw [nbr_len, hr]; omega)]
  rfl
theorem nbr_lt (i j : Nat) (hi : i ≤ 62) (hl : j < (rowN i).length) : (rowN i)[j - 1] + (rowN i)[j] < 18446744073709551616 := by
  have h1 := row_sum i (by omega)
  have h2 : ∀ (l : List Nat) (k : Nat) (h : k < l.length), l[k] ≤ l.sum := by
    intro l
    induction l with
    | nil => intro k h; simp at h
    | cons a r ih => intro k h; cases k with
      | zero => simp
      | succ k => simp only [List.getElem_cons_succ, List.sum_cons]; have := ih k (by simpa using h); omega
  have a1 := h2 (rowN i) (j - 1) (by omega)
  have a2 := h2 (rowN i) j hl
  have : 2 ^ i ≤ 2 ^ 62 := Nat.pow_le_pow_right (by omega) hi
  omega

set_option maxRecDepth 100000 in
set_option maxHeartbeats 1000000 in
theorem choose_any (n k : Nat) (hn : n ≤ 63) (hk : k ≤ n) (w : World) : Calls Try.prog 52 #[.int .i64 n, .int .i64 k] w fun e w' => e = .returned (.int .u64 (chN n k)) ∧ Ext w w' := by
  go_enter Try.func52, Try.ntmps52
  go_wp2_with fail
  go_loopw [5, 6] (fun row i wr => ∃ (j : Nat) (A : Option Addr) (c : Nat) (z : World), j ≤ n ∧ i = .int .i64 j ∧ row = .slice A (j + 1) c ∧ wr = ext w z ∧ (ext w z).ownsRow w.heap.size 25 1 (.slice A (j + 1) c) (j + 1) (u64s (rowN j))) (fun _ i _ => n - (intOf i).toNat)
  case atStart => exact ⟨0, some ⟨w.heap.size, 0, none⟩, 1, w.alloc (.cells #[.int .u64 1] 25), Nat.zero_le _, rfl, rfl, (ext_of ((Ext.refl w).alloc _)).symm, by rw [ext_of ((Ext.refl w).alloc _)]; exact own_blk (Nat.le_refl _) (Blk.new w 25 #[.int .u64 1]) rfl (by omega)⟩
  case round =>
    obtain ⟨i, A, c, z, hi, rfl, rfl, rfl, hown⟩ := hrel
    have hlen := row_len i (by omega)
    have HO := Lib.hid hown
    have hsl := (Slc.of_own hown).2 (by omega)
    obtain ⟨b, off, rfl, hb, hcell⟩ := hsl
    clear hown
    by_cases hlt : i < n
    · have HE := Lib.hid ((Ext.refl w).ext z)
      have hb' := Old.mk hb
      have HC := Lib.hid hcell
      clear hcell hb
      generalize ext w z = W at *
      go_wp2_with fail
      go_loopw [7, 8] (fun nx j wr => ∃ (m : Nat) (B : Option Addr) (d : Nat) (y : World), 1 ≤ m ∧ m ≤ i + 1 ∧ j = .int .i64 m ∧ nx = .slice B m d ∧ wr = ext W y ∧ (ext W y).ownsRow W.heap.size 25 1 (.slice B m d) m (u64s (halfRow i m))) (fun _ j _ => i + 1 - (intOf j).toNat)
      case atStart => exact ⟨1, some ⟨W.heap.size, 0, none⟩, 1, W.alloc (.cells #[.int .u64 1] 25), Nat.le_refl _, by omega, rfl, rfl, (ext_of ((Ext.refl W).alloc _)).symm, by rw [ext_of ((Ext.refl W).alloc _), half_one]; exact own_blk (Nat.le_refl _) (Blk.new W 25 #[.int .u64 1]) rfl (by omega)⟩
      case round =>
        obtain ⟨m, B, d, y, hm1, hm2, rfl, rfl, rfl, hownB⟩ := hrel
        have HOB := Lib.hid hownB
        clear hownB
        by_cases hlt2 : m < i + 1
        · obtain ⟨m, rfl⟩ : ∃ m', m = m' + 1 := ⟨m - 1, by omega⟩
          have hml : m + 1 < (rowN i).length := by omega
          have c1 := HC.out m (.int .u64 ((rowN i)[m] : Nat)) (by simp [u64s, List.getElem?_eq_getElem (show m < (rowN i).length by omega)])
          have c2 := HC.out (m + 1) (.int .u64 ((rowN i)[m + 1] : Nat)) (by simp [u64s, List.getElem?_eq_getElem hml])
          have hnl := nbr_lt i (m + 1) (by omega) hml
          have Hs := Lib.hid (half_succ i (m + 1) (by omega) hm1 hlt2 hml)
          simp only [Nat.add_sub_cancel] at hnl Hs
          have hw0 : IntKind.u64.wrap (((rowN i)[m] : Nat) + ((rowN i)[m + 1] : Nat) : Int) = (((rowN i)[m] : Nat) : Int) + (((rowN i)[m + 1] : Nat) : Int) := by rw [IntKind.wrap_u64]; omega
          generalize (rowN i)[m] = p at *
          generalize (rowN i)[m + 1] = q at *
          go_wp2_with fail
          have hwm : IntKind.i64.wrap (m : Int) = (m : Int) := IntWalk.i64_in _ (by omega)
          have hx1 : (m : Int) < (i : Int) + 1 := by omega
          have hx2 : (m : Int) + 1 < (i : Int) + 1 := by omega
          have hx3 : m < i + 1 := by omega
          have hx4 : m < i := by omega
          have hx5 : (0 : Int) ≤ (m : Int) + 1 := by omega
          have hx6 : ((m : Int) + 1).toNat = m + 1 := by omega
          have HE2 := Lib.hid ((Ext.refl W).ext y)
          have g1 : (ext W y).cell? ⟨b, off + m, none⟩ = some (.int .u64 p) := (HE2.out.cell (old_lt hb')).trans c1
          have g2 : (ext W y).cell? ⟨b, off + (m + 1), none⟩ = some (.int .u64 q) := (HE2.out.cell (old_lt hb')).trans c2
          have hb2 : Nonempty (Old b (ext W y)) := inferInstance
          generalize hV : ext W y = V at *
          clear hV
          go_region_held3 (fun w' => w'.cell? ⟨b, off + m, none⟩ = some (.int .u64 p) ∧ w'.cell? ⟨b, off + (m + 1), none⟩ = some (.int .u64 q)) (simp [go_sem, g1, g2, c1, c2]) (first
            | (refine step_append_ext rfl W (by repeat' (first | with_reducible exact HE2.out | with_reducible refine Ext.alloc ?_ _ | with_reducible refine Ext.ext ?_ _ | with_reducible refine Ext.drew ?_)) infoU (.tmp 22) (.tmp 33) rfl (.slice B (m + 1) d) (m + 1) (u64s (halfRow i (m + 1))) rfl (by exact own_grow HOB.out ((Ext.refl _).drew.alloc _)) _ 1 1 [.int .u64 ((p : Int) + (q : Int))] rfl (Slc.of_blk (cs := #[.int .u64 ((p : Int) + (q : Int))]) (t := 25) (by repeat' (first | with_reducible exact Blk.new' _ _ _ _ (by simp) | with_reducible refine Blk.ext ?_ _ | with_reducible refine Blk.drew ?_ | with_reducible refine Blk.alloc ?_ _)) rfl) (by simp [Value.oneCell']) (by omega) (by omega) ?_
               intro B2 d2 z7 hown2))
          all_goals
            go_wp2_with fail
            go_roundw
            case rel =>
              refine ⟨m + 1 + 1, B2, d2, z7, by omega, by omega, by go_num, rfl, rfl, ?_⟩
              rw [Hs.out, u64s_append]
              have e : u64s [p + q] = [.int .u64 ((p : Int) + (q : Int))] := by simp [u64s]
              rw [e]; exact hown2
            case measure => simp [intOf]; omega
        · have hme : m = i + 1 := by omega
          subst hme
          have HE2 := Lib.hid ((Ext.refl W).ext y)
          have Ha := Lib.hid (half_all i (by omega))
          go_wp2_with (at_builtin; refine wpList_append_ext rfl W (by exact HE2.out.alloc _) infoU (.tmp 35) (.tmp 36) rfl _ (i + 1) (u64s (halfRow i (i + 1))) rfl (by exact own_grow HOB.out ((Ext.refl _).alloc _)) _ 1 1 [.int .u64 1] rfl (Slc.of_blk (cs := #[.int .u64 1]) (t := 25) (Blk.new' _ _ _ _ (by simp)) rfl) (by simp [Value.oneCell']) (by omega) (by omega) ?_; intro B2 d2 z7 hown2)
          go_roundw
          case rel =>
            refine ⟨i + 1, B2, d2, ext W z7, by omega, by go_num, rfl, (ext_of (HE.out.ext z7)).symm, ?_⟩
            rw [ext_of (HE.out.ext z7), ← Ha.out, u64s_append]
            exact own_mono hown2 HE.out.size
          case measure => simp [intOf]; omega
    · have hin : i = n := by omega
      subst hin
      have hb' := Old.mk hb
      have hkl : k < (rowN i).length := by omega
      have c1 := hcell k (.int .u64 ((rowN i)[k] : Nat)) (by simp [u64s, List.getElem?_eq_getElem hkl])
      have Hv := Lib.hid (show chN i k = (rowN i)[k] by simp [chN, List.getElem?_eq_getElem hkl])
      clear hcell hb
      generalize (rowN i)[k] = v at *
      go_wp2_with fail
      go_ret
      exact ⟨ret_of (by rw [Hv.out]; rfl), (Ext.refl w).ext z⟩
theorem alikeV_is (d k : Int) : ∃ x e : Int, alikeV d k = .tuple #[.int .u64 x, .int .i64 e] := by
  unfold alikeV; split <;> exact ⟨_, _, rfl⟩
set_option maxRecDepth 100000 in
set_option maxHeartbeats 1000000 in
theorem refAlike_any (den k : Int) (w : World) : Calls Try.prog 26 #[.int .i64 den, .int .i64 k] w fun e w' => e = .returned (alikeV den k) ∧ Ext w w' := by
  cases hb : inB den 0 63 && inB k 0 den
  · have Hv := Lib.hid (show alikeV den k = .tuple #[.int .u64 0, .int .i64 2] by simp [alikeV, hb])
    rcases and_cases' _ _ hb with h1 | ⟨h1, h2⟩
    all_goals
      clear hb
      go_enter Try.func26, Try.ntmps26
      go_wp2_with (go_at_call 46; refine Calls.same (refWithin_any _ _ _ _) ?_)
      go_ret2
      exact ⟨ret_of Hv.out.symm, Ext.refl w⟩
  · rw [Bool.and_eq_true] at hb
    have h1 : 0 ≤ den ∧ den ≤ 63 := by simpa [inB] using hb.1
    have h2 : 0 ≤ k ∧ k ≤ den := by simpa [inB] using hb.2
    have Hv0 := Lib.hid (show alikeV den k = .tuple #[.int .u64 (sumN den.toNat k.toNat), .int .i64 0] by simp [alikeV, hb])
    obtain ⟨d, rfl⟩ := Int.eq_ofNat_of_zero_le h1.1
    obtain ⟨n, rfl⟩ := Int.eq_ofNat_of_zero_le h2.1
    have Hv : Hid (alikeV d n = .tuple #[.int .u64 (sumN d n), .int .i64 0]) := Lib.hid (by simpa using Hv0.out)
    have hd : d ≤ 63 := by omega
    have hn : n ≤ d := by omega
    have hb1 := hb.1
    have hb2 := hb.2
    clear Hv0 h1 h2 hb
    go_enter Try.func26, Try.ntmps26
    go_wp2_with (go_at_call 46; refine Calls.same (refWithin_any _ _ _ _) ?_)
    go_loopw [6, 7] (fun s i wr => ∃ (j : Nat) (z : World), j ≤ n + 1 ∧ i = .int .i64 j ∧ s = .int .u64 (((rowN d).take j).sum : Nat) ∧ wr = ext w z) (fun _ i _ => n + 1 - (intOf i).toNat)
    case atStart => exact ⟨0, w, Nat.zero_le _, rfl, rfl, (ext_of (Ext.refl w)).symm⟩
    case round =>
      obtain ⟨j, z, hj, rfl, rfl, rfl⟩ := hrel
      by_cases hlt : j < n + 1
      · have hs := sum_take d j hd (by omega)
        have hsl := sum_lt d j hd
        have hsum : (((((rowN d).take j).sum : Nat) : Int) + (chN d j : Int)) = ((sumN d j : Nat) : Int) := by rw [← hs]; simp
        have HW := Lib.hid (show IntKind.u64.wrap (((((rowN d).take j).sum : Nat) : Int) + (chN d j : Int)) = ((sumN d j : Nat) : Int) by rw [hsum, IntKind.wrap_u64]; omega)
        have HS := Lib.hid (show (sumN d j) = ((rowN d).take (j + 1)).sum from rfl)
        have C := Lib.hid (fun w => choose_any d j hd (by omega) w)
        clear hs hsum hsl
        generalize chN d j = c at *
        go_wp2_with (go_at_call 52; refine Calls.ext (C.out _) fun z2 => ?_)
        go_roundw
        case rel => exact ⟨j + 1, _, by omega, by go_num, by rw [← HS.out, ← HW.out], (ext_of (((Ext.refl w).ext z).ext z2)).symm⟩
        case measure => simp [intOf]; omega
      · obtain rfl : j = n + 1 := by omega
        have HS := Lib.hid (show (sumN d n) = ((rowN d).take (n + 1)).sum from rfl)
        go_wp2_with fail
        go_ret2
        exact ⟨ret_of (by rw [Hv.out, HS.out]; rfl), (Ext.refl w).ext z⟩
end Go.Proofs.Ytcacbolbedhcoaa
