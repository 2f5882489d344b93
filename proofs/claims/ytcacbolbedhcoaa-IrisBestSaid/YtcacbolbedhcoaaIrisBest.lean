/- Proved: for all codes a, b and numbers of turns, the call of whorllaw03.IrisBest returns true and leaves its arguments as they were. No conditions. -/
import Derived.Test.YtcacbolbedhcoaaAlive
import Derived.Test.YtcacbolbedhcoaaBest
import Derived.Test.YtcacbolbedhcoaaArgs
import Derived.Deep.DeepCutAuto
namespace Go.Proofs.Ytcacbolbedhcoaa
open Go.Joins Go.ChangeShapes Go.WideShapes Go.RowKit Go.Deep Go.ChangeAt

theorem dist_err {a b : Ir} {t : Int} (h : ¬ ((okI a && okI b) = true ∧ 0 ≤ t ∧ t ≤ 7)) : ∃ e : Int, (e = 30 ∨ e = 2) ∧ distV a b t = .tuple #[.int .i64 0, .int .i64 0, .int .i64 0, .int .i64 e] := by
  unfold distV
  cases ho : (okI a && okI b)
  · exact ⟨30, .inl rfl, by simp⟩
  · cases hi : inB t 0 7
    · exact ⟨2, .inr rfl, by simp⟩
    · exfalso; apply h; simp [inB] at hi; exact ⟨ho, by omega⟩

set_option maxRecDepth 100000 in
set_option maxHeartbeats 4000000 in
theorem irisBest_out (a b : Ir) (t : Int) (w : World) (h : ¬ ((okI a && okI b) = true ∧ 0 ≤ t ∧ t ≤ 7)) : Calls Try.prog 7 #[a.val, b.val, .int .i64 t] w fun e w' => e = .returned (.bool true) ∧ Ext w w' := by
  obtain ⟨e, he, hv⟩ := dist_err h
  have C1 := Lib.hid (fun w => hv ▸ Distance_any a b t w)
  have ha : okI a = false ∨ okI a = true ∧ okI b = false ∨ okI a = true ∧ okI b = true ∧ t < 0 ∨ okI a = true ∧ okI b = true ∧ 0 ≤ t ∧ 7 < t := by
    cases h1 : okI a <;> cases h2 : okI b <;> simp_all
    omega
  clear hv h
  rcases ha with ha | ⟨ha, hb⟩ | ⟨ha, hb, h0⟩ | ⟨ha, hb, h0, h7⟩
  all_goals rcases he with rfl | rfl
  · have CA := Lib.hid (fun w => ha ▸ refValid_any a w)
    clear ha
    go_enter Try.func7, Try.ntmps7
    go_wp2_with (first | (go_at_call 38; refine Calls.ext (alive_any _) fun z => ?_) | (go_at_call 29; refine Calls.ext (C1.out _) fun z => ?_))
    refine Calls.ext (CA.out _) fun z => ?_
    go_wp2_with fail
    all_goals
      go_ret
      refine ⟨rfl, ?_⟩
      repeat' (first | with_reducible exact Ext.refl _ | with_reducible refine Ext.alloc ?_ _ | with_reducible refine Ext.ext ?_ _)
  · have CA := Lib.hid (fun w => ha ▸ refValid_any a w)
    clear ha
    go_enter Try.func7, Try.ntmps7
    go_wp2_with (first | (go_at_call 38; refine Calls.ext (alive_any _) fun z => ?_) | (go_at_call 29; refine Calls.ext (C1.out _) fun z => ?_))
    refine Calls.ext (CA.out _) fun z => ?_
    go_wp2_with fail
    all_goals
      go_ret
      refine ⟨rfl, ?_⟩
      repeat' (first | with_reducible exact Ext.refl _ | with_reducible refine Ext.alloc ?_ _ | with_reducible refine Ext.ext ?_ _)
  · have CA := Lib.hid (fun w => ha ▸ refValid_any a w)
    have CB := Lib.hid (fun w => hb ▸ refValid_any b w)
    clear ha hb
    go_enter Try.func7, Try.ntmps7
    go_wp2_with (first | (go_at_call 38; refine Calls.ext (alive_any _) fun z => ?_) | (go_at_call 29; refine Calls.ext (C1.out _) fun z => ?_))
    refine Calls.ext (CA.out _) fun z => ?_
    go_wp2_with fail
    refine Calls.ext (CB.out _) fun z => ?_
    go_wp2_with fail
    all_goals
      go_ret
      refine ⟨rfl, ?_⟩
      repeat' (first | with_reducible exact Ext.refl _ | with_reducible refine Ext.alloc ?_ _ | with_reducible refine Ext.ext ?_ _)
  · have CA := Lib.hid (fun w => ha ▸ refValid_any a w)
    have CB := Lib.hid (fun w => hb ▸ refValid_any b w)
    clear ha hb
    go_enter Try.func7, Try.ntmps7
    go_wp2_with (first | (go_at_call 38; refine Calls.ext (alive_any _) fun z => ?_) | (go_at_call 29; refine Calls.ext (C1.out _) fun z => ?_))
    refine Calls.ext (CA.out _) fun z => ?_
    go_wp2_with fail
    refine Calls.ext (CB.out _) fun z => ?_
    go_wp2_with fail
    all_goals
      go_ret
      refine ⟨rfl, ?_⟩
      repeat' (first | with_reducible exact Ext.refl _ | with_reducible refine Ext.alloc ?_ _ | with_reducible refine Ext.ext ?_ _)
  · have CA := Lib.hid (fun w => ha ▸ refValid_any a w)
    have CB := Lib.hid (fun w => hb ▸ refValid_any b w)
    clear ha hb
    go_enter Try.func7, Try.ntmps7
    go_wp2_with (first | (go_at_call 38; refine Calls.ext (alive_any _) fun z => ?_) | (go_at_call 29; refine Calls.ext (C1.out _) fun z => ?_))
    refine Calls.ext (CA.out _) fun z => ?_
    go_wp2_with fail
    refine Calls.ext (CB.out _) fun z => ?_
    go_wp2_with fail
    all_goals
      go_ret
      refine ⟨rfl, ?_⟩
      repeat' (first | with_reducible exact Ext.refl _ | with_reducible refine Ext.alloc ?_ _ | with_reducible refine Ext.ext ?_ _)
  · have CA := Lib.hid (fun w => ha ▸ refValid_any a w)
    have CB := Lib.hid (fun w => hb ▸ refValid_any b w)
    clear ha hb
    go_enter Try.func7, Try.ntmps7
    go_wp2_with (first | (go_at_call 38; refine Calls.ext (alive_any _) fun z => ?_) | (go_at_call 29; refine Calls.ext (C1.out _) fun z => ?_))
    refine Calls.ext (CA.out _) fun z => ?_
    go_wp2_with fail
    refine Calls.ext (CB.out _) fun z => ?_
    go_wp2_with fail
    all_goals
      go_ret
      refine ⟨rfl, ?_⟩
      repeat' (first | with_reducible exact Ext.refl _ | with_reducible refine Ext.alloc ?_ _ | with_reducible refine Ext.ext ?_ _)
  · have CA := Lib.hid (fun w => ha ▸ refValid_any a w)
    have CB := Lib.hid (fun w => hb ▸ refValid_any b w)
    clear ha hb
    go_enter Try.func7, Try.ntmps7
    go_wp2_with (first | (go_at_call 38; refine Calls.ext (alive_any _) fun z => ?_) | (go_at_call 29; refine Calls.ext (C1.out _) fun z => ?_))
    refine Calls.ext (CA.out _) fun z => ?_
    go_wp2_with fail
    refine Calls.ext (CB.out _) fun z => ?_
    go_wp2_with fail
    all_goals
      go_ret
      refine ⟨rfl, ?_⟩
      repeat' (first | with_reducible exact Ext.refl _ | with_reducible refine Ext.alloc ?_ _ | with_reducible refine Ext.ext ?_ _)
  · have CA := Lib.hid (fun w => ha ▸ refValid_any a w)
    have CB := Lib.hid (fun w => hb ▸ refValid_any b w)
    clear ha hb
    go_enter Try.func7, Try.ntmps7
    go_wp2_with (first | (go_at_call 38; refine Calls.ext (alive_any _) fun z => ?_) | (go_at_call 29; refine Calls.ext (C1.out _) fun z => ?_))
    refine Calls.ext (CA.out _) fun z => ?_
    go_wp2_with fail
    refine Calls.ext (CB.out _) fun z => ?_
    go_wp2_with fail
    all_goals
      go_ret
      refine ⟨rfl, ?_⟩
      repeat' (first | with_reducible exact Ext.refl _ | with_reducible refine Ext.alloc ?_ _ | with_reducible refine Ext.ext ?_ _)

set_option maxRecDepth 100000 in
set_option maxHeartbeats 20000000 in
theorem irisBest_walk (a b : Ir) (t : Int) (w : World) : Calls Try.prog 7 #[a.val, b.val, .int .i64 t] w fun e w' => e = .returned (.bool true) ∧ Ext w w' := by
  by_cases h : (okI a && okI b) = true ∧ 0 ≤ t ∧ t ≤ 7
  rotate_left
  · exact irisBest_out a b t w h
  obtain ⟨hab, ht⟩ := h
  obtain ⟨p, hp⟩ : ∃ p, best7 a b t = p := ⟨_, rfl⟩
  have fp := best_fits ht hp
  obtain ⟨m, rfl⟩ := Int.eq_ofNat_of_zero_le ht.1
  have ha : okI a = true := by simp only [Bool.and_eq_true] at hab; exact hab.1
  have hb : okI b = true := by simp only [Bool.and_eq_true] at hab; exact hab.2
  have CA := Lib.hid (fun w => ha ▸ refValid_any a w)
  have CB := Lib.hid (fun w => hb ▸ refValid_any b w)
  have HK := Lib.hid (And.intro hab (And.intro ht hp))
  obtain ⟨e, C1, he⟩ : ∃ e : Int, Hid (∀ w, Calls Try.prog 29 #[a.val, b.val, .int .i64 (m : Int)] w fun r w' => r = .returned (.tuple #[.int .i64 p.num, .int .i64 p.den, .int .i64 p.turn, .int .i64 e]) ∧ Ext w w') ∧ (p.den = 0 ∧ e = 6 ∧ p.num = 0 ∧ p.turn = 0 ∨ 0 < p.den ∧ e = 0) := by
    by_cases hd : p.den = 0
    · have hp0 : p = ⟨0, 0, 0⟩ := by
        rcases best7_is a b (m : Int) ht with ⟨h, _⟩ | ⟨i, hi, h, h16, _, _⟩
        · rw [← hp, h]
        · rw [hp] at h; rw [h] at hd; simp only at hd; omega
      refine ⟨6, Lib.hid (fun w => ?_), .inl ⟨hd, rfl, by rw [hp0], by rw [hp0]⟩⟩
      have := dist_none hab ht hp hd ▸ Distance_any a b (m : Int) w
      rw [hp0]; exact this
    · exact ⟨0, Lib.hid (fun w => dist_ok hab ht hp (by omega) ▸ Distance_any a b (m : Int) w), .inr ⟨by omega, rfl⟩⟩
  have HE := Lib.hid he
  obtain ⟨ht0, ht7⟩ := ht
  clear hab ha hb hp he
  go_enter Try.func7, Try.ntmps7
  go_wp2_with (first | (go_at_call 38; refine Calls.ext (alive_any _) fun z1 => ?_) | (go_at_call 29; refine Calls.ext (C1.out _) fun z2 => ?_))
  refine Calls.ext (CA.out _) fun z3 => ?_
  go_wp2_with fail
  refine Calls.ext (CB.out _) fun z4 => ?_
  go_wp2_with fail
  have HA := Lib.hid ((((((Blk.new w 27 #[.int .u64 (uw a.code), .int .u64 (uw a.mask)]).alloc (.cells #[.int .u64 (uw b.code), .int .u64 (uw b.mask)] 27)).ext z1).ext z2).ext z3).ext z4)
  have HB := Lib.hid (((((Blk.new' (w.alloc (.cells #[.int .u64 (uw a.code), .int .u64 (uw a.mask)] 27)) 27 #[.int .u64 (uw b.code), .int .u64 (uw b.mask)] (w.heap.size + 1) (by simp)).ext z1).ext z2).ext z3).ext z4)
  have HW := Lib.hid (((((((Ext.refl w).alloc (.cells #[.int .u64 (uw a.code), .int .u64 (uw a.mask)] 27)).alloc (.cells #[.int .u64 (uw b.code), .int .u64 (uw b.mask)] 27)).ext z1).ext z2).ext z3).ext z4)
  generalize ext (ext (ext (ext ((w.alloc (.cells #[.int .u64 (uw a.code), .int .u64 (uw a.mask)] 27)).alloc (.cells #[.int .u64 (uw b.code), .int .u64 (uw b.mask)] 27)) z1) z2) z3) z4 = W at *
  clear CA CB C1
  generalize hnum : p.num = num at *
  generalize hden : p.den = den at *
  generalize htrn : p.turn = trn at *
  have HN := Lib.hid (And.intro hnum (And.intro hden htrn))
  clear hnum hden htrn
  go_loopw [12, 13] (fun f i wr => ∃ (k : Nat) (fb : Bool) (z : World), k ≤ m + 1 ∧ i = .int .i64 k ∧ f = .bool fb ∧ wr = ext W z ∧ (fb = true → 0 < den) ∧ (fb = false → ∀ s : Int, -(k : Int) < s → s < k → cdn (turnI' a s) b < 16)) (fun _ i _ => m + 1 - (intOf i).toNat)
  case atStart => exact ⟨0, false, W, Nat.zero_le _, rfl, rfl, (ext_of (Ext.refl W)).symm, (fun h => by cases h), (fun _ s h1 h2 => by omega)⟩
  case round =>
    obtain ⟨k, fb, z5, hk, rfl, rfl, rfl, hf1, hf2⟩ := hrel
    have HF1 := Lib.hid hf1
    have HF2 := Lib.hid hf2
    clear hf1 hf2
    by_cases hlt : k ≤ m
    · have hlt2 : (k : Int) ≤ (m : Int) := by omega
      have hk0 : 0 ≤ (k : Int) := by omega
      have hk7 : (k : Int) ≤ 7 := by omega
      go_wp2_with fail
      have HS := Lib.hid (Blk.new (ext W z5) 3 #[.int .i64 (k : Int), .int .i64 (-(k : Int))])
      have HEW := Lib.hid (Ext.ext_self W z5)
      have HE2 := Lib.hid ((Ext.refl (ext W z5)).alloc (.cells #[.int .i64 (k : Int), .int .i64 (-(k : Int))] 3))
      generalize (ext W z5).alloc (.cells #[.int .i64 (k : Int), .int .i64 (-(k : Int))] 3) = V at *
      generalize (ext W z5).heap.size = B at *
      generalize ext W z5 = W5 at *
      go_loopw [12, 65] (fun f i wr => ∃ (j : Nat) (gb : Bool) (z : World), j ≤ 2 ∧ i = .int .i64 j ∧ f = .bool gb ∧ wr = ext V z ∧ (gb = true → 0 < den) ∧ (gb = false → fb = false ∧ (1 ≤ j → cdn (turnI' a (k : Int)) b < 16) ∧ (2 ≤ j → cdn (turnI' a (-(k : Int))) b < 16))) (fun _ i _ => 2 - (intOf i).toNat)
      case atStart => exact ⟨0, fb, V, Nat.zero_le _, rfl, rfl, (ext_of (Ext.refl V)).symm, HF1.out, (fun h => ⟨h, (fun h => by omega), (fun h => by omega)⟩)⟩
      case round =>
        obtain ⟨j, gb, z6, hj, rfl, rfl, rfl, hg1, hg2⟩ := hrel
        have HG1 := Lib.hid hg1
        have HG2 := Lib.hid hg2
        clear hg1 hg2
        by_cases hlj : j < 2
        · have hlj2 : (j : Int) < 2 := by omega
          obtain ⟨s, hs, hsk⟩ : ∃ s : Int, (#[Value.int .i64 (k : Int), .int .i64 (-(k : Int))] : Array Value)[j]? = some (.int .i64 s) ∧ (j = 0 ∧ s = k ∨ j = 1 ∧ s = -(k : Int)) := by
            match j, hlj with
            | 0, _ => exact ⟨_, rfl, .inl ⟨rfl, rfl⟩⟩
            | 1, _ => exact ⟨_, rfl, .inr ⟨rfl, rfl⟩⟩
          have hs1 : -(m : Int) ≤ s ∧ s ≤ m := by omega
          have e0 : (ext V z6).cell? ⟨B, j, none⟩ = some (.int .i64 s) := ((HS.out.ext z6).cell j).trans hs
          have HSK := Lib.hid hsk
          obtain ⟨hab, ht, hp⟩ := HK.out
          have ha0 : (ext V z6).cell? ⟨w.heap.size, 0, none⟩ = some (.int .u64 (uw a.code)) := ((HA.out.grow (HEW.out.trans HE2.out)).ext z6).cell 0
          have ha1 : (ext V z6).cell? ⟨w.heap.size, 1, none⟩ = some (.int .u64 (uw a.mask)) := ((HA.out.grow (HEW.out.trans HE2.out)).ext z6).cell 1
          have hb0 : (ext V z6).cell? ⟨w.heap.size + 1, 0, none⟩ = some (.int .u64 (uw b.code)) := ((HB.out.grow (HEW.out.trans HE2.out)).ext z6).cell 0
          have hb1 : (ext V z6).cell? ⟨w.heap.size + 1, 1, none⟩ = some (.int .u64 (uw b.mask)) := ((HB.out.grow (HEW.out.trans HE2.out)).ext z6).cell 1
          have hs7 : -7 ≤ s ∧ s ≤ 7 := by omega
          have C2 := Lib.hid (fun w => cmp_in hab hs7 ▸ Compare_any a b s w)
          have hcl := ctr_le (turnI' a s) b
          have hle := best_le ht hp s hs1
          have hlt' := best_lt ht hp s
          have hz := fun h => best_zero ht hp h s hs1
          have hat : s = p.turn → 0 < p.den → ctr (turnI' a s) b = p.num ∧ cdn (turnI' a s) b = p.den := by
            intro h1 h2; have := best_at ht hp h2; rw [h1]; exact ⟨this.2.1.symm, this.2.2.1.symm⟩
          obtain ⟨n1, n2, n3⟩ := HN.out
          rw [n1, n2] at hle
          rw [n1, n2, n3] at hlt' hat
          rw [n2] at hz
          have HD : Hid (gb = false → cdn (turnI' a s) b < 16 → fb = false ∧ (1 ≤ j + 1 → cdn (turnI' a (k : Int)) b < 16) ∧ (2 ≤ j + 1 → cdn (turnI' a (-(k : Int))) b < 16)) := by
            refine Lib.hid fun h1 h2 => ?_
            obtain ⟨q1, q2, q3⟩ := HG2.out h1
            refine ⟨q1, fun _ => ?_, fun h3 => ?_⟩
            · rcases hsk with ⟨_, rfl⟩ | ⟨_, rfl⟩
              · exact h2
              · exact q2 (by omega)
            · rcases hsk with ⟨h4, _⟩ | ⟨_, rfl⟩
              · omega
              · exact h2
          clear n1 n2 n3 hab ht hp hs hsk
          generalize ctr (turnI' a s) b = n at *
          generalize cdn (turnI' a s) b = d at *
          have HZ := Lib.hid hz
          have HLE := Lib.hid hle
          have HLT := Lib.hid hlt'
          have HAT := Lib.hid hat
          clear hz hle hlt' hat
          obtain ⟨hc1, hc2, hc3⟩ := hcl
          have hb1 : decide (n < 0) = false := by simp; omega
          have hb2 : decide (d < n) = false := by simp; omega
          have hb3 : decide (64 < d) = false := by simp; omega
          by_cases hd : d < 16
          · go_wp2_with (go_at_call 27; refine Calls.ext (C2.out _) fun z7 => ?_)
            go_roundw
            case rel => exact ⟨j + 1, gb, ext (ext V z6) z7, by omega, by go_num, rfl, (ext_of ((Ext.ext_self V z6).ext z7)).symm, HG1.out, fun h => HD.out h hd⟩
            case measure => simp [intOf]; omega
          · have hd2 : 16 ≤ d := by omega
            have hb4 : decide (d < 16) = false := by simp; omega
            have hden : 0 < den := by
              rcases HE.out with ⟨h, _⟩ | ⟨h, _⟩
              · have := HZ.out h; omega
              · exact h
            obtain rfl : e = 0 := by
              rcases HE.out with ⟨h, _⟩ | ⟨_, h⟩
              · omega
              · exact h
            by_cases hst : s = trn
            · obtain ⟨rfl, rfl⟩ := HAT.out hst hden
              subst hst
              clear HAT HLT HLE HZ HD
              have c1 : lessB n d n d = false := by unfold lessB; simp
              have C3 := Lib.hid (fun w => c1 ▸ lessW_any n d n d w (by omega) (by omega) (by omega) (by omega))
              clear c1
              have hcase : s = 0 ∨ 0 < s ∨ s < 0 := by omega
              rcases hcase with rfl | hcase | hcase
              · go_wp2_with (go_at_call 27; refine Calls.ext (C2.out _) fun z7 => ?_)
                refine Calls.same (C3.out _) ?_
                go_wp2_with fail
                refine Calls.same (C3.out _) ?_
                go_wp2_with fail
                go_roundw
                case rel => exact ⟨j + 1, true, ext (ext V z6) z7, by omega, by go_num, rfl, (ext_of ((Ext.ext_self V z6).ext z7)).symm, (fun _ => hden), fun h => by cases h⟩
                case measure => simp [intOf]; omega
              · have hsn : (s == -s) = false := by simp; omega
                have hle0 : -s ≤ s := by omega
                have hb5 : decide (s < s) = false := by simp
                have hb6 : decide (0 < s) = true := by simp; omega
                go_wp2_with (go_at_call 27; refine Calls.ext (C2.out _) fun z7 => ?_)
                refine Calls.same (C3.out _) ?_
                go_wp2_with fail
                refine Calls.same (C3.out _) ?_
                go_wp2_with fail
                go_roundw
                case rel => exact ⟨j + 1, true, ext (ext V z6) z7, by omega, by go_num, rfl, (ext_of ((Ext.ext_self V z6).ext z7)).symm, (fun _ => hden), fun h => by cases h⟩
                case measure => simp [intOf]; omega
              · have hsn : (s == -s) = false := by simp; omega
                have hle0 : s ≤ -s := by omega
                have hb5 : decide (-s < -s) = false := by simp
                have hb6 : decide (0 < s) = false := by simp; omega
                go_wp2_with (go_at_call 27; refine Calls.ext (C2.out _) fun z7 => ?_)
                refine Calls.same (C3.out _) ?_
                go_wp2_with fail
                refine Calls.same (C3.out _) ?_
                go_wp2_with fail
                go_roundw
                case rel => exact ⟨j + 1, true, ext (ext V z6) z7, by omega, by go_num, rfl, (ext_of ((Ext.ext_self V z6).ext z7)).symm, (fun _ => hden), fun h => by cases h⟩
                case measure => simp [intOf]; omega
            · have c1 : lessB n d num den = false := by
                unfold lessB; rw [decide_eq_false_iff_not]; have := HLE.out hd2; omega
              have C3 := Lib.hid (fun w => c1 ▸ lessW_any n d num den w (by omega) (by omega) (by omega) (by omega))
              have C4 := Lib.hid (fun w => lessW_any num den n d w (by omega) (by omega) (by omega) (by omega))
              clear c1
              have HLL : Hid (placeT s < placeT trn → lessB num den n d = true) := Lib.hid fun h => by unfold lessB; rw [decide_eq_true_eq]; exact HLT.out h hd2 hden
              generalize hL : lessB num den n d = L at *
              clear hL
              have HST := Lib.hid hst
              clear hst
              go_wp2_with (go_at_call 27; refine Calls.ext (C2.out _) fun z7 => ?_)
              refine Calls.same (C3.out _) ?_
              go_wp2_with fail
              all_goals
                refine Calls.same (C4.out _) ?_
                have hst := HST.out
                by_cases hE : placeT s < placeT trn
              all_goals
                have hb : (s == trn) = false := by simpa using hst
                clear hst
                cases L
                all_goals
                  first
                    | (exfalso; simp only [placeT] at hE; (repeat' split at hE) <;> omega)
                    | (exfalso; exact Bool.noConfusion (HLL.out hE))
                    | (clear hE; go_wp2_with fail)
              all_goals try (exfalso; have := HST.out; omega)
              all_goals
                go_roundw
                case rel => exact ⟨j + 1, true, ext (ext V z6) z7, by omega, by go_num, rfl, (ext_of ((Ext.ext_self V z6).ext z7)).symm, (fun _ => hden), fun h => by cases h⟩
                case measure => simp [intOf]; omega
        · obtain rfl : j = 2 := by omega
          go_wp2_with fail
          go_roundw
          case rel =>
            refine ⟨k + 1, gb, ext V z6, by omega, by go_num, rfl, (ext_of ((HEW.out.trans HE2.out).ext z6)).symm, HG1.out, fun h s h1 h2 => ?_⟩
            obtain ⟨q1, q2, q3⟩ := HG2.out h
            by_cases h3 : s = k
            · rw [h3]; exact q2 (by omega)
            · by_cases h4 : s = -(k : Int)
              · rw [h4]; exact q3 (by omega)
              · exact HF2.out q1 s (by omega) (by omega)
          case measure => simp [intOf]; omega
    · obtain rfl : k = m + 1 := by omega
      obtain ⟨hab, ht, hp⟩ := HK.out
      obtain ⟨n1, n2, n3⟩ := HN.out
      cases fb
      · have hden : den = 0 := by
          by_cases h : 0 < den
          · have h2 := best_at ht hp (by omega)
            have := HF2.out rfl p.turn (by omega) (by omega)
            omega
          · omega
        obtain rfl : e = 6 := by
          rcases HE.out with ⟨_, h, _⟩ | ⟨h, _⟩
          · exact h
          · omega
        clear n1 n2 n3 hab ht hp
        go_wp2_with fail
        go_ret
        exact ⟨rfl, HW.out.trans (Ext.ext_self _ _)⟩
      · have hden : 0 < den := HF1.out rfl
        obtain rfl : e = 0 := by
          rcases HE.out with ⟨h, _⟩ | ⟨_, h⟩
          · omega
          · exact h
        have h2 := best_at ht hp (by omega)
        have h3 : -(m : Int) ≤ trn ∧ trn ≤ m ∧ 16 ≤ den := by omega
        obtain ⟨h4, h5, h6⟩ := h3
        clear n1 n2 n3 hab ht hp h2
        go_wp2_with fail
        go_ret
        exact ⟨rfl, HW.out.trans (Ext.ext_self _ _)⟩
set_option maxRecDepth 100000 in
theorem irisBest_lifted (os : Os) (started : os.Started) (H : Type) (enc : TypeId × Value → H) :
    ReturnsInHanded {} Try.checked os 7 .any (Rows.irisBestSpec.pre6 enc Try.prog Try.f7 Rows.irisBestRow.domain false) (Rows.irisBestSpec.post enc Try.prog Try.f7 false true false false) := by
  refine returnsInHanded_of_change (C := Try.checked) own started (by kernel_rfl) Try.func7
    (ChangeSpec.witness6 (enc := enc) (C := Try.checked) false ⟨#[], #[.agg #[.int .u64 0, .int .u64 0], .agg #[.int .u64 0, .int .u64 0], .int .i64 0], []⟩ 8 (by kernel_rfl) (by kernel_rfl) (by kernel_rfl) (by kernel_rfl)) ?_
  intro W base args ds gs before hval0 hW hcnd _
  have hval : ∀ (j : Nat) t v, Try.f7.params[j]? = some t → args[j]? = some v → Value.okWide Try.prog W .any base t v := hval0
  have hW' := hW
  obtain ⟨p, q, hA0, hV, rfl, hfz, hnd⟩ := hW
  have hA : DataW.TrodAll enc Try.prog W 0 (fun _ => true) true Try.f7.params.toList args.toList ds p := hA0
  rw [Try.params7] at hA hval
  obtain ⟨v0, vs0, d0, ds0, p0, q0, hargs, rfl, rfl, h0, r0⟩ := trodAll_cons hA
  obtain ⟨v1, vs1, d1, ds1, p1, q1, rfl, rfl, rfl, h1, r1⟩ := trodAll_cons r0
  obtain ⟨v2, vs2, d2, ds2, p2, q2, rfl, rfl, rfl, h2, r2⟩ := trodAll_cons r1
  obtain ⟨rfl, rfl, rfl⟩ := trodAll_nil r2
  obtain rfl : args = #[v0, v1, v2] := by cases args; simp_all
  obtain ⟨rfl, rfl⟩ := trodVars_none hV
  have k0 := h0
  have lt0 : ∀ x ∈ p0, x.block < W.heap.size := by obtain ⟨m, hm⟩ := k0; exact DataW.trod_lt m _ _ _ hm
  obtain ⟨ns0, hl0, hv0, wf0⟩ := open_nums (ks := [.u64, .u64]) Try.underlying27 (by kernel_rfl) (by kernel_rfl) (kindsOf_of (by kernel_rfl)) (hval 0 27 v0 rfl rfl) h0
  have k1 := h1
  have lt1 : ∀ x ∈ p1, x.block < W.heap.size := by obtain ⟨m, hm⟩ := k1; exact DataW.trod_lt m _ _ _ hm
  obtain ⟨ns1, hl1, hv1, wf1⟩ := open_nums (ks := [.u64, .u64]) Try.underlying27 (by kernel_rfl) (by kernel_rfl) (kindsOf_of (by kernel_rfl)) (hval 1 27 v1 rfl rfl) h1
  have k2 := h2
  have lt2 : ∀ x ∈ p2, x.block < W.heap.size := by obtain ⟨m, hm⟩ := k2; exact DataW.trod_lt m _ _ _ hm
  obtain ⟨a2, rfl, _, _, w2⟩ := open_int Try.underlying3 (hval 2 3 v2 rfl rfl) h2
  clear hA0 hval0
  rw [ir_of hl0 wf0] at hv0
  subst hv0
  rw [ir_of hl1 wf1] at hv1
  subst hv1
  refine (irisBest_walk (toIr ns0) (toIr ns1) a2 W).mono fun e W' ⟨he, bel⟩ => ?_
  subst he
  exact ⟨_, rfl, _, _, _, [], _, [], hW', trodAll_mk1 (shut_bool Try.underlying4 _), (trodAll_cons_mk (Below.trod laidOut (by kernel_rfl) (of_decide_eq_true (by kernel_rfl)) k0 bel lt0) (trodAll_cons_mk (Below.trod laidOut (by kernel_rfl) (of_decide_eq_true (by kernel_rfl)) k1 bel lt1) (trodAll_cons_mk (Below.trod laidOut (by kernel_rfl) (of_decide_eq_true (by kernel_rfl)) k2 bel lt2) trodAll_mk0))), rfl, Below.frame bel _, fun h => by cases h⟩

theorem irisBest_holds : Rows.IrisBestSaid :=
  OpenClaim.holds_of_wide 7 Try.f7 rfl rfl rfl rfl rfl rfl rfl ⟨rfl, rfl, rfl, rfl, rfl⟩ rfl rfl rfl rfl rfl (by kernel_rfl) Try.func7 (by kernel_rfl)
    (of_decide_eq_true (by kernel_rfl)) (by unfold Func.isWrapper; first | (rw [if_pos (by decide +kernel)]; kernel_rfl) | (rw [if_neg (by decide +kernel)]; exact ⟨rfl, rfl⟩))
    (fun os started H enc _ => irisBest_lifted os started H enc)
end Go.Proofs.Ytcacbolbedhcoaa
