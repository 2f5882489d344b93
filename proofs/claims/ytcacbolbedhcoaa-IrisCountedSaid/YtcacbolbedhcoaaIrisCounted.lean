/- Proved: for all numbers den and k, the call of whorllaw03.IrisCounted returns true and leaves its arguments as they were. No conditions. -/
import Derived.Test.YtcacbolbedhcoaaAlive
import Derived.Test.YtcacbolbedhcoaaPure
import Derived.Test.YtcacbolbedhcoaaChoose
import Derived.Test.YtcacbolbedhcoaaArgs
namespace Go.Proofs.Ytcacbolbedhcoaa
open Go.Joins Go.ChangeShapes Go.WideShapes Go.RowKit Go.Deep Go.ChangeAt

/-! sums of a row -/
theorem ch_pascal (d j : Nat) (hd : d + 1 ≤ 63) (hj : j + 1 ≤ d) : chN (d + 1) (j + 1) = chN d j + chN d (j + 1) := by
  have hl := row_len d (by omega)
  have hn := nbr_len (rowN d)
  have hat := nbr_at (rowN d) j (by omega)
  unfold chN
  rw [show rowN (d + 1) = 1 :: nbr (rowN d) ++ [1] from rfl, List.getD_eq_getElem?_getD, List.getD_eq_getElem?_getD, List.getD_eq_getElem?_getD]
  rw [List.cons_append, List.getElem?_cons_succ, List.getElem?_append_left (by omega), hat]
  rw [List.getElem?_eq_getElem (by omega), List.getElem?_eq_getElem (by omega)]
  rfl
theorem sum_whole (d k : Nat) (hd : d ≤ 63) (hk : d ≤ k) : sumN d k = 2 ^ d := by
  unfold sumN
  rw [List.take_of_length_le (by rw [row_len d hd]; omega), row_sum d hd]
theorem sum_pascal (d : Nat) (hd : d + 1 ≤ 63) : ∀ k, sumN (d + 1) (k + 1) = sumN d (k + 1) + sumN d k := by
  intro k
  by_cases h : k + 1 ≤ d
  · induction k with
    | zero =>
      rw [sum_succ (d + 1) 0 hd (by omega), sum_zero (d + 1) hd, sum_succ d 0 (by omega) (by omega), sum_zero d (by omega), ch_pascal d 0 hd h, ch_zero d (by omega)]
      omega
    | succ k ih =>
      have h1 := ih (by omega)
      rw [sum_succ (d + 1) (k + 1) hd (by omega), h1, sum_succ d (k + 1) (by omega) (by omega), ch_pascal d (k + 1) hd h]
      have h2 := sum_succ d k (by omega) (by omega)
      omega
  · rw [sum_whole (d + 1) (k + 1) hd (by omega), sum_whole d (k + 1) (by omega) (by omega)]
    rw [sum_whole d k (by omega) (by omega), Nat.pow_succ]
    omega

/-! words of few bits, counted -/
def pn (w n : Nat) : Nat := (bitsOf w n).sum
theorem pn_low (w n : Nat) : pn w (n + 1) = (w.testBit 0).toNat + pn (w / 2) n := by unfold pn; rw [bits_succ]; simp
theorem pn_top (w n : Nat) (h : w < 2 ^ n) : pn w (n + 1) = pn w n := by
  unfold pn bitsOf
  rw [List.range_succ, List.map_append, List.sum_append]
  simp [Nat.testBit_lt_two_pow h]
theorem pn_half (w : Nat) (h : w < 2 ^ 63) : pn w 64 = w % 2 + pn (w / 2) 64 := by
  have h1 : w / 2 < 2 ^ 63 := by omega
  rw [pn_low, pn_top _ _ h1]
  congr 1
  rw [Nat.testBit_zero]
  rcases Nat.mod_two_eq_zero_or_one w with h | h <;> simp [h]
def cntK (k : Nat) : Nat → Nat
  | 0 => 0
  | n + 1 => cntK k n + if pn n 64 ≤ k then 1 else 0
theorem cnt_double (k n : Nat) (h : n < 2 ^ 60) : cntK (k + 1) (2 * n) = cntK (k + 1) n + cntK k n := by
  induction n with
  | zero => rfl
  | succ n ih =>
    have h1 : 2 * (n + 1) = 2 * n + 1 + 1 := by omega
    rw [h1]
    simp only [cntK]
    rw [ih (by omega), pn_half (2 * n + 1) (by omega), pn_half (2 * n) (by omega)]
    have e1 : (2 * n + 1) % 2 = 1 := by omega
    have e2 : (2 * n + 1) / 2 = n := by omega
    have e3 : (2 * n) % 2 = 0 := by omega
    have e4 : (2 * n) / 2 = n := by omega
    rw [e1, e2, e3, e4]
    have e5 : (1 + pn n 64 ≤ k + 1) ↔ pn n 64 ≤ k := by omega
    have e6 : (0 + pn n 64 ≤ k + 1) ↔ pn n 64 ≤ k + 1 := by omega
    simp only [e5, e6]
    omega
theorem cnt_double0 (n : Nat) (h : n < 2 ^ 60) : cntK 0 (2 * n) = cntK 0 n := by
  induction n with
  | zero => rfl
  | succ n ih =>
    have h1 : 2 * (n + 1) = 2 * n + 1 + 1 := by omega
    rw [h1]
    simp only [cntK]
    rw [ih (by omega), pn_half (2 * n + 1) (by omega), pn_half (2 * n) (by omega)]
    have e1 : (2 * n + 1) % 2 = 1 := by omega
    have e2 : (2 * n + 1) / 2 = n := by omega
    have e3 : (2 * n) % 2 = 0 := by omega
    have e4 : (2 * n) / 2 = n := by omega
    rw [e1, e2, e3, e4]
    have e5 : ¬ (1 + pn n 64 ≤ 0) := by omega
    have e6 : (0 + pn n 64 ≤ 0) ↔ pn n 64 ≤ 0 := by omega
    simp only [e5, e6, if_false]
    omega
theorem cnt_all (d : Nat) (hd : d ≤ 10) : ∀ k, cntK k (2 ^ d) = sumN d k := by
  induction d with
  | zero =>
    intro k
    rw [sum_whole 0 k (by omega) (by omega)]
    have : pn 0 64 = 0 := by decide
    simp [cntK, this]
  | succ d ih =>
    intro k
    have hp : 2 ^ d < 2 ^ 60 := Nat.pow_lt_pow_right (by omega) (by omega)
    rw [Nat.pow_succ, Nat.mul_comm]
    cases k with
    | zero => rw [cnt_double0 _ hp, ih (by omega), sum_zero _ (by omega), sum_zero _ (by omega)]
    | succ k => rw [cnt_double _ _ hp, ih (by omega), ih (by omega), sum_pascal d (by omega)]
theorem cnt_le (k n : Nat) : cntK k n ≤ n := by
  induction n with
  | zero => exact Nat.le_refl _
  | succ n ih => simp only [cntK]; split <;> omega
theorem onesN_any (x : Nat) (hx : x < 18446744073709551616) (w : World) : Calls Try.prog 41 #[.int .u64 (x : Int)] w fun e w' => e = .returned (.int .i64 (pn x 64 : Nat)) ∧ w = w' := by
  have h := ones_any (BitVec.ofNat 64 x) w
  have e1 : (BitVec.ofNat 64 x).toNat = x := by rw [BitVec.toNat_ofNat]; exact Nat.mod_eq_of_lt hx
  rw [cpop_eq, e1] at h
  unfold uw at h
  rw [e1] at h
  exact h
theorem alike_in {d k : Nat} (hd : d ≤ 63) (hk : k ≤ d) : alikeV (d : Int) (k : Int) = .tuple #[.int .u64 (sumN d k), .int .i64 0] := by
  unfold alikeV
  have h : (inB (d : Int) 0 63 && inB (k : Int) 0 (d : Int)) = true := by simp [inB]; omega
  rw [if_pos h]; rfl
theorem alike_out {d k : Int} (h : ¬ (0 ≤ d ∧ d ≤ 63 ∧ 0 ≤ k ∧ k ≤ d)) : alikeV d k = .tuple #[.int .u64 0, .int .i64 2] := by
  unfold alikeV
  have h : (inB d 0 63 && inB k 0 d) = false := by
    cases hq : (inB d 0 63 && inB k 0 d)
    · rfl
    · exfalso; apply h; simp [inB] at hq; omega
  rw [h]; rfl

set_option maxRecDepth 100000 in
set_option maxHeartbeats 4000000 in
theorem irisCounted_walk (den k : Int) (w : World) : Calls Try.prog 14 #[.int .i64 den, .int .i64 k] w fun e w' => e = .returned (.bool true) ∧ Ext w w' := by
  by_cases h : 0 ≤ den ∧ den ≤ 63 ∧ 0 ≤ k ∧ k ≤ den
  rotate_left
  · have C1 := Lib.hid (fun w => alike_out h ▸ Alike_any den k w)
    clear h
    go_enter Try.func14, Try.ntmps14
    go_wp2_with (first | (go_at_call 38; refine Calls.ext (alive_any _) fun z => ?_) | (go_at_call 25; refine Calls.ext (C1.out _) fun z => ?_))
    go_ret
    refine ⟨rfl, ?_⟩
    repeat' (first | with_reducible exact Ext.refl _ | with_reducible refine Ext.alloc ?_ _ | with_reducible refine Ext.ext ?_ _)
  obtain ⟨h1, h2, h3, h4⟩ := h
  obtain ⟨d, rfl⟩ := Int.eq_ofNat_of_zero_le h1
  obtain ⟨q, rfl⟩ := Int.eq_ofNat_of_zero_le h3
  have hv := alike_in (d := d) (k := q) (by omega) (by omega)
  have C1 := Lib.hid (fun w => hv ▸ Alike_any (d : Int) (q : Int) w)
  clear hv
  have hN63 : 2 ^ d < 2 ^ 64 := Nat.pow_lt_pow_right (by omega) (by omega)
  have hN10 : d ≤ 10 → 2 ^ d ≤ 2 ^ 10 := fun h => Nat.pow_le_pow_right (by omega) h
  have hN0 : 0 < 2 ^ d := Nat.pow_pos (by omega)
  have hN1 : d = 0 → 2 ^ d = 1 := by rintro rfl; rfl
  have h5 : (2 : Int) ^ d = ((2 ^ d : Nat) : Int) := by push_cast; rfl
  have hlt := sum_lt d q (by omega)
  -- the value for k = 0 and for k = den
  have hz : q = 0 → sumN d q = 1 := by rintro rfl; exact sum_zero d (by omega)
  have hw : q = d → sumN d q = 2 ^ d := by rintro rfl; exact sum_whole q q (by omega) (Nat.le_refl _)
  have hc : d ≤ 10 → cntK q (2 ^ d) = sumN d q := fun h => cnt_all d h q
  have hp : 0 < d ∧ 0 < q ∧ q < d → sumN d q = sumN (d - 1) q + sumN (d - 1) (q - 1) := by
    rintro ⟨p1, p2, p3⟩
    obtain ⟨d, rfl⟩ : ∃ e, d = e + 1 := ⟨d - 1, by omega⟩
    obtain ⟨q, rfl⟩ : ∃ e, q = e + 1 := ⟨q - 1, by omega⟩
    exact sum_pascal d (by omega) q
  generalize 2 ^ d = N at *
  have hN : IntKind.u64.wrap (2 ^ d) = (N : Int) := by rw [h5, IntKind.wrap_u64]; omega
  clear h5
  have h3 : (q : Int) ≤ (d : Int) := h4
  generalize sumN d q = n at *
  by_cases hq : q = 0
  · -- k = 0
    have hb0 : ((q : Int) == 0) = true := by simp; omega
    have hb1 : decide ((0 : Int) < (q : Int)) = false := by simp; omega
    have hb2 : decide (0 < q) = false := by simp; omega
    obtain rfl := hz hq
    clear hz hw hp
    by_cases hd : d = 0
    · have hb3 : ((q : Int) == (d : Int)) = true := by simp; omega
      have hb4 : decide ((0 : Int) < (d : Int)) = false := by simp; omega
      have hb5 : decide (0 < d) = false := by simp; omega
      obtain rfl := hN1 hd
      have hbig2 : decide ((10 : Int) < (d : Int)) = false := by simp; omega
      have hbig3 : decide (10 < d) = false := by simp; omega
      have HC := Lib.hid (hc (by omega))
      have HQ := Lib.hid hq
      clear hc hN10 hN1 hd hq
      go_enter Try.func14, Try.ntmps14
      go_wp2_with (go_at_call 38; refine Calls.ext (alive_any _) fun z => ?_)
      refine Calls.ext (C1.out _) fun z2 => ?_
      go_wp2_with fail
      have HE := Lib.hid (((Ext.refl w).ext z).ext z2)
      generalize ext (ext w z) z2 = W at *
      go_loopw [12, 13] (fun c i wr => ∃ x : Nat, x ≤ 1 ∧ i = .int .u64 x ∧ c = .int .u64 (cntK q x : Nat) ∧ Ext w wr) (fun _ i _ => 1 - (intOf i).toNat)
      case atStart => exact ⟨0, Nat.zero_le _, rfl, rfl, HE.out⟩
      case round =>
        obtain ⟨x, hx, rfl, rfl, hE⟩ := hrel
        have HEx := Lib.hid hE
        clear hE
        by_cases hlx : x < 1
        · have hlx2 : (x : Int) < 1 := by omega
          have hcl := cnt_le q x
          have C2 := Lib.hid (onesN_any x (by omega))
          by_cases hpn : pn x 64 ≤ q
          · have hs : cntK q (x + 1) = cntK q x + 1 := by simp only [cntK, if_pos hpn]
            have HS := Lib.hid hs
            clear hs
            have hpn2 : decide (((pn x 64 : Nat) : Int) ≤ ((q : Nat) : Int)) = true := by simp; omega
            generalize cntK q x = c at *
            generalize pn x 64 = p at *
            go_wp2_with (go_at_call 41; refine Calls.same (C2.out _) ?_)
            go_roundw
            case rel => exact ⟨x + 1, by omega, by go_num, by rw [HS.out]; go_num, HEx.out⟩
            case measure => simp [intOf]; omega
          · have hs : cntK q (x + 1) = cntK q x := by simp only [cntK, if_neg hpn, Nat.add_zero]
            have HS := Lib.hid hs
            clear hs
            have hpn2 : decide (((pn x 64 : Nat) : Int) ≤ ((q : Nat) : Int)) = false := by simp; omega
            generalize cntK q x = c at *
            generalize pn x 64 = p at *
            go_wp2_with (go_at_call 41; refine Calls.same (C2.out _) ?_)
            go_roundw
            case rel => exact ⟨x + 1, by omega, by go_num, by rw [HS.out], HEx.out⟩
            case measure => simp [intOf]; omega
        · obtain rfl : x = 1 := by omega
          rw [HC.out]
          go_wp2_with fail
          go_ret
          exact ⟨rfl, HEx.out⟩
    · have hd1 : ((q : Int) == (d : Int)) = false := by simp; omega
      have hd2 : decide ((0 : Int) < (d : Int)) = true := by simp; omega
      have hd3 : decide (0 < d) = true := by simp; omega
      have HQ := Lib.hid hq
      clear hN1 hq
      by_cases hbig : 10 < d
      · have hbig2 : decide ((10 : Int) < (d : Int)) = true := by simp; omega
        have hbig3 : decide (10 < d) = true := by simp; omega
        clear hc hN10
        go_enter Try.func14, Try.ntmps14
        go_wp2_with (go_at_call 38; refine Calls.ext (alive_any _) fun z => ?_)
        refine Calls.ext (C1.out _) fun z2 => ?_
        go_wp2_with fail
        go_ret
        refine ⟨rfl, ?_⟩
        repeat' (first | with_reducible exact Ext.refl _ | with_reducible refine Ext.alloc ?_ _ | with_reducible refine Ext.ext ?_ _)
      · have HC := Lib.hid (hc (by omega))
        have hN10' := hN10 (by omega)
        have hbig2 : decide ((10 : Int) < (d : Int)) = false := by simp; omega
        have hbig3 : decide (10 < d) = false := by simp; omega
        clear hc hN10
        go_enter Try.func14, Try.ntmps14
        go_wp2_with (go_at_call 38; refine Calls.ext (alive_any _) fun z => ?_)
        refine Calls.ext (C1.out _) fun z2 => ?_
        go_wp2_with fail
        have HE := Lib.hid (((Ext.refl w).ext z).ext z2)
        generalize ext (ext w z) z2 = W at *
        go_loopw [12, 13] (fun c i wr => ∃ x : Nat, x ≤ N ∧ i = .int .u64 x ∧ c = .int .u64 (cntK q x : Nat) ∧ Ext w wr) (fun _ i _ => N - (intOf i).toNat)
        case atStart => exact ⟨0, Nat.zero_le _, rfl, rfl, HE.out⟩
        case round =>
          obtain ⟨x, hx, rfl, rfl, hE⟩ := hrel
          have HEx := Lib.hid hE
          clear hE
          by_cases hlx : x < N
          · have hlx2 : (x : Int) < (N : Int) := by omega
            have hcl := cnt_le q x
            have C2 := Lib.hid (onesN_any x (by omega))
            by_cases hpn : pn x 64 ≤ q
            · have hs : cntK q (x + 1) = cntK q x + 1 := by simp only [cntK, if_pos hpn]
              have HS := Lib.hid hs
              clear hs
              have hpn2 : decide (((pn x 64 : Nat) : Int) ≤ ((q : Nat) : Int)) = true := by simp; omega
              generalize cntK q x = c at *
              generalize pn x 64 = p at *
              go_wp2_with (go_at_call 41; refine Calls.same (C2.out _) ?_)
              go_roundw
              case rel => exact ⟨x + 1, by omega, by go_num, by rw [HS.out]; go_num, HEx.out⟩
              case measure => simp [intOf]; omega
            · have hs : cntK q (x + 1) = cntK q x := by simp only [cntK, if_neg hpn, Nat.add_zero]
              have HS := Lib.hid hs
              clear hs
              have hpn2 : decide (((pn x 64 : Nat) : Int) ≤ ((q : Nat) : Int)) = false := by simp; omega
              generalize cntK q x = c at *
              generalize pn x 64 = p at *
              go_wp2_with (go_at_call 41; refine Calls.same (C2.out _) ?_)
              go_roundw
              case rel => exact ⟨x + 1, by omega, by go_num, by rw [HS.out], HEx.out⟩
              case measure => simp [intOf]; omega
          · obtain rfl : x = N := by omega
            rw [HC.out]
            go_wp2_with fail
            go_ret
            exact ⟨rfl, HEx.out⟩
  by_cases hqd : q = d
  · obtain rfl := hqd
    obtain rfl : N = n := (hw rfl).symm
    have hd1 : ((q : Int) == 0) = false := by simp; omega
    have hd2 : decide ((0 : Int) < (q : Int)) = true := by simp; omega
    have hd3 : decide (0 < q) = true := by simp; omega
    clear hz hw hp hN1
    by_cases hbig : 10 < q
    · have hbig2 : decide ((10 : Int) < (q : Int)) = true := by simp; omega
      have hbig3 : decide (10 < q) = true := by simp; omega
      clear hc hN10
      go_enter Try.func14, Try.ntmps14
      go_wp2_with (go_at_call 38; refine Calls.ext (alive_any _) fun z => ?_)
      refine Calls.ext (C1.out _) fun z2 => ?_
      go_wp2_with fail
      go_ret
      refine ⟨rfl, ?_⟩
      repeat' (first | with_reducible exact Ext.refl _ | with_reducible refine Ext.alloc ?_ _ | with_reducible refine Ext.ext ?_ _)
    · have HC := Lib.hid (hc (by omega))
      have hN10' := hN10 (by omega)
      have hbig2 : decide ((10 : Int) < (q : Int)) = false := by simp; omega
      have hbig3 : decide (10 < q) = false := by simp; omega
      clear hc hN10
      go_enter Try.func14, Try.ntmps14
      go_wp2_with (go_at_call 38; refine Calls.ext (alive_any _) fun z => ?_)
      refine Calls.ext (C1.out _) fun z2 => ?_
      go_wp2_with fail
      have HE := Lib.hid (((Ext.refl w).ext z).ext z2)
      generalize ext (ext w z) z2 = W at *
      go_loopw [12, 13] (fun c i wr => ∃ x : Nat, x ≤ N ∧ i = .int .u64 x ∧ c = .int .u64 (cntK q x : Nat) ∧ Ext w wr) (fun _ i _ => N - (intOf i).toNat)
      case atStart => exact ⟨0, Nat.zero_le _, rfl, rfl, HE.out⟩
      case round =>
        obtain ⟨x, hx, rfl, rfl, hE⟩ := hrel
        have HEx := Lib.hid hE
        clear hE
        by_cases hlx : x < N
        · have hlx2 : (x : Int) < (N : Int) := by omega
          have hcl := cnt_le q x
          have C2 := Lib.hid (onesN_any x (by omega))
          by_cases hpn : pn x 64 ≤ q
          · have hs : cntK q (x + 1) = cntK q x + 1 := by simp only [cntK, if_pos hpn]
            have HS := Lib.hid hs
            clear hs
            have hpn2 : decide (((pn x 64 : Nat) : Int) ≤ ((q : Nat) : Int)) = true := by simp; omega
            generalize cntK q x = c at *
            generalize pn x 64 = p at *
            go_wp2_with (go_at_call 41; refine Calls.same (C2.out _) ?_)
            go_roundw
            case rel => exact ⟨x + 1, by omega, by go_num, by rw [HS.out]; go_num, HEx.out⟩
            case measure => simp [intOf]; omega
          · have hs : cntK q (x + 1) = cntK q x := by simp only [cntK, if_neg hpn, Nat.add_zero]
            have HS := Lib.hid hs
            clear hs
            have hpn2 : decide (((pn x 64 : Nat) : Int) ≤ ((q : Nat) : Int)) = false := by simp; omega
            generalize cntK q x = c at *
            generalize pn x 64 = p at *
            go_wp2_with (go_at_call 41; refine Calls.same (C2.out _) ?_)
            go_roundw
            case rel => exact ⟨x + 1, by omega, by go_num, by rw [HS.out], HEx.out⟩
            case measure => simp [intOf]; omega
        · obtain rfl : x = N := by omega
          rw [HC.out]
          go_wp2_with fail
          go_ret
          exact ⟨rfl, HEx.out⟩
  have hd1 : ((q : Int) == 0) = false := by simp; omega
  have hd2 : ((q : Int) == (d : Int)) = false := by simp; omega
  have hd3 : decide ((0 : Int) < (d : Int)) = true := by simp; omega
  have hd4 : decide ((0 : Int) < (q : Int)) = true := by simp; omega
  have hd5 : decide ((q : Int) < (d : Int)) = true := by simp; omega
  have hd6 : decide (0 < d) = true := by simp; omega
  have hd7 : decide (0 < q) = true := by simp; omega
  have hd8 : decide (q < d) = true := by simp; omega
  have hsum := hp ⟨by omega, by omega, by omega⟩
  have v1 := alike_in (d := d - 1) (k := q) (by omega) (by omega)
  have v2 := alike_in (d := d - 1) (k := q - 1) (by omega) (by omega)
  have ed : ((d - 1 : Nat) : Int) = (d : Int) - 1 := by omega
  have eq : ((q - 1 : Nat) : Int) = (q : Int) - 1 := by omega
  rw [ed] at v1 v2
  rw [eq] at v2
  have D1 := Lib.hid (fun w => v1 ▸ Alike_any ((d : Int) - 1) (q : Int) w)
  have D2 := Lib.hid (fun w => v2 ▸ Alike_any ((d : Int) - 1) ((q : Int) - 1) w)
  clear v1 v2 ed eq hz hw hp hN1
  generalize sumN (d - 1) q = n1 at *
  generalize sumN (d - 1) (q - 1) = n2 at *
  obtain rfl := hsum
  by_cases hbig : 10 < d
  · have hbig2 : decide ((10 : Int) < (d : Int)) = true := by simp; omega
    have hbig3 : decide (10 < d) = true := by simp; omega
    clear hc hN10
    go_enter Try.func14, Try.ntmps14
    go_wp2_with (go_at_call 38; refine Calls.ext (alive_any _) fun z => ?_)
    refine Calls.ext (C1.out _) fun z2 => ?_
    go_wp2_with fail
    refine Calls.ext (D1.out _) fun z3 => ?_
    go_wp2_with fail
    refine Calls.ext (D2.out _) fun z4 => ?_
    go_wp2_with fail
    go_ret
    refine ⟨rfl, ?_⟩
    repeat' (first | with_reducible exact Ext.refl _ | with_reducible refine Ext.alloc ?_ _ | with_reducible refine Ext.ext ?_ _)
  · have HC := Lib.hid (hc (by omega))
    have hN10' := hN10 (by omega)
    have hbig2 : decide ((10 : Int) < (d : Int)) = false := by simp; omega
    have hbig3 : decide (10 < d) = false := by simp; omega
    clear hc hN10
    go_enter Try.func14, Try.ntmps14
    go_wp2_with (go_at_call 38; refine Calls.ext (alive_any _) fun z => ?_)
    refine Calls.ext (C1.out _) fun z2 => ?_
    go_wp2_with fail
    refine Calls.ext (D1.out _) fun z3 => ?_
    go_wp2_with fail
    refine Calls.ext (D2.out _) fun z4 => ?_
    go_wp2_with fail
    have HE := Lib.hid (((((Ext.refl w).ext z).ext z2).ext z3).ext z4)
    generalize ext (ext (ext (ext w z) z2) z3) z4 = W at *
    go_loopw [12, 13] (fun c i wr => ∃ x : Nat, x ≤ N ∧ i = .int .u64 x ∧ c = .int .u64 (cntK q x : Nat) ∧ Ext w wr) (fun _ i _ => N - (intOf i).toNat)
    case atStart => exact ⟨0, Nat.zero_le _, rfl, rfl, HE.out⟩
    case round =>
      obtain ⟨x, hx, rfl, rfl, hE⟩ := hrel
      have HEx := Lib.hid hE
      clear hE
      by_cases hlx : x < N
      · have hlx2 : (x : Int) < (N : Int) := by omega
        have hcl := cnt_le q x
        have C2 := Lib.hid (onesN_any x (by omega))
        by_cases hpn : pn x 64 ≤ q
        · have hs : cntK q (x + 1) = cntK q x + 1 := by simp only [cntK, if_pos hpn]
          have HS := Lib.hid hs
          clear hs
          have hpn2 : decide (((pn x 64 : Nat) : Int) ≤ ((q : Nat) : Int)) = true := by simp; omega
          generalize cntK q x = c at *
          generalize pn x 64 = p at *
          go_wp2_with (go_at_call 41; refine Calls.same (C2.out _) ?_)
          go_roundw
          case rel => exact ⟨x + 1, by omega, by go_num, by rw [HS.out]; go_num, HEx.out⟩
          case measure => simp [intOf]; omega
        · have hs : cntK q (x + 1) = cntK q x := by simp only [cntK, if_neg hpn, Nat.add_zero]
          have HS := Lib.hid hs
          clear hs
          have hpn2 : decide (((pn x 64 : Nat) : Int) ≤ ((q : Nat) : Int)) = false := by simp; omega
          generalize cntK q x = c at *
          generalize pn x 64 = p at *
          go_wp2_with (go_at_call 41; refine Calls.same (C2.out _) ?_)
          go_roundw
          case rel => exact ⟨x + 1, by omega, by go_num, by rw [HS.out], HEx.out⟩
          case measure => simp [intOf]; omega
      · obtain rfl : x = N := by omega
        rw [HC.out]
        go_wp2_with fail
        go_ret
        exact ⟨rfl, HEx.out⟩
set_option maxRecDepth 100000 in
theorem irisCounted_lifted (os : Os) (started : os.Started) (H : Type) (enc : TypeId × Value → H) :
    ReturnsInHanded {} Try.checked os 14 .any (Rows.irisCountedSpec.pre6 enc Try.prog Try.f14 Rows.irisCountedRow.domain false) (Rows.irisCountedSpec.post enc Try.prog Try.f14 false true false false) := by
  refine returnsInHanded_of_change (C := Try.checked) own started (by kernel_rfl) Try.func14
    (ChangeSpec.witness6 (enc := enc) (C := Try.checked) false ⟨#[], #[.int .i64 0, .int .i64 0], []⟩ 8 (by kernel_rfl) (by kernel_rfl) (by kernel_rfl) (by kernel_rfl)) ?_
  intro W base args ds gs before hval0 hW hcnd _
  have hval : ∀ (j : Nat) t v, Try.f14.params[j]? = some t → args[j]? = some v → Value.okWide Try.prog W .any base t v := hval0
  have hW' := hW
  obtain ⟨p, q, hA0, hV, rfl, hfz, hnd⟩ := hW
  have hA : DataW.TrodAll enc Try.prog W 0 (fun _ => true) true Try.f14.params.toList args.toList ds p := hA0
  rw [Try.params14] at hA hval
  obtain ⟨v0, vs0, d0, ds0, p0, q0, hargs, rfl, rfl, h0, r0⟩ := trodAll_cons hA
  obtain ⟨v1, vs1, d1, ds1, p1, q1, rfl, rfl, rfl, h1, r1⟩ := trodAll_cons r0
  obtain ⟨rfl, rfl, rfl⟩ := trodAll_nil r1
  obtain rfl : args = #[v0, v1] := by cases args; simp_all
  obtain ⟨rfl, rfl⟩ := trodVars_none hV
  have k0 := h0
  have lt0 : ∀ x ∈ p0, x.block < W.heap.size := by obtain ⟨m, hm⟩ := k0; exact DataW.trod_lt m _ _ _ hm
  obtain ⟨a0, rfl, _, _, w0⟩ := open_int Try.underlying3 (hval 0 3 v0 rfl rfl) h0
  have k1 := h1
  have lt1 : ∀ x ∈ p1, x.block < W.heap.size := by obtain ⟨m, hm⟩ := k1; exact DataW.trod_lt m _ _ _ hm
  obtain ⟨a1, rfl, _, _, w1⟩ := open_int Try.underlying3 (hval 1 3 v1 rfl rfl) h1
  clear hA0 hval0

  refine (irisCounted_walk a0 a1 W).mono fun e W' ⟨he, bel⟩ => ?_
  subst he
  exact ⟨_, rfl, _, _, _, [], _, [], hW', trodAll_mk1 (shut_bool Try.underlying4 _), (trodAll_cons_mk (Below.trod laidOut (by kernel_rfl) (of_decide_eq_true (by kernel_rfl)) k0 bel lt0) (trodAll_cons_mk (Below.trod laidOut (by kernel_rfl) (of_decide_eq_true (by kernel_rfl)) k1 bel lt1) trodAll_mk0)), rfl, Below.frame bel _, fun h => by cases h⟩

theorem irisCounted_holds : Rows.IrisCountedSaid :=
  OpenClaim.holds_of_wide 14 Try.f14 rfl rfl rfl rfl rfl rfl rfl ⟨rfl, rfl, rfl, rfl, rfl⟩ rfl rfl rfl rfl rfl (by kernel_rfl) Try.func14 (by kernel_rfl)
    (of_decide_eq_true (by kernel_rfl)) (by unfold Func.isWrapper; first | (rw [if_pos (by decide +kernel)]; kernel_rfl) | (rw [if_neg (by decide +kernel)]; exact ⟨rfl, rfl⟩))
    (fun os started H enc _ => irisCounted_lifted os started H enc)
end Go.Proofs.Ytcacbolbedhcoaa
