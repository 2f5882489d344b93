/- What the statement lets pass. -/
import Derived.Test.YtchplmenkdghcaaOpenTr
namespace Go.Proofs.Ytchplmenkdghcaa
open Go.Joins Go.ChangeShapes Go.WideShapes Go.RowKit Go.Deep Go.ChangeAt
theorem sized_iff {W H n : Int} : sizedF W H n = true ↔ (1 ≤ W ∧ W ≤ 20) ∧ (1 ≤ H ∧ H ≤ 20) ∧ n = W * H := by
  simp only [sizedF, Bool.and_eq_true, inB_iff, decide_eq_true_eq, and_assoc]
set_option maxRecDepth 100000 in
set_option maxHeartbeats 4000000 in
theorem tp_bad (W H : Int) (A : Option Addr) (R : List Bool) (ct : Nat) (c : Cl) (a1 a2 : Int) (l4 l5 : List Int) (A4 A5 : Option Addr) (c4 c5 : Nat) (w : World) (h1 : 0 ≤ a1 ∧ a1 < 256) (h2 : 0 ≤ a2 ∧ a2 < 256)
    (hbad : (sizedF W H R.length && okC c && decide (a1 ≤ c.shift) && decide (a2 ≤ c.shift) && decide (W + a1 ≤ 20) && decide (H + a2 ≤ 20)) = false) :
    Calls Try.prog 3 #[.agg #[.int .i64 W, .int .i64 H, .slice A R.length ct], .int .u8 a1, .int .u8 a2, c.val, .slice A4 l4.length c4, .slice A5 l5.length c5] w fun e w' => e = .returned (.bool true) ∧ Ext w w' := by
  have CV := Lib.hid (fun w => validR_any W H R.length ct A w)
  have CC := Lib.hid (fun w => classR_any c w)
  have hw1 : IntKind.i64.wrap a1 = a1 := IntWalk.i64_in _ (by omega)
  have hw2 : IntKind.i64.wrap a2 = a2 := IntWalk.i64_in _ (by omega)
  cases hv : sizedF W H R.length
  · rw [hv] at CV
    clear hbad h1 h2 hv
    go_enter Try.func3, Try.ntmps3
    go_wp2_with fail
    refine Calls.ext (alive_any _) fun z => ?_
    go_wp2_with fail
    refine Calls.ext (CV.out _) fun z2 => ?_
    go_wp2_with fail
    go_ret
    exact ⟨rfl, by repeat' (first | with_reducible exact Ext.refl _ | with_reducible refine Ext.alloc ?_ _ | with_reducible refine Ext.ext ?_ _ | with_reducible refine Ext.drew ?_)⟩
  · rw [hv] at CV
    obtain ⟨hW, hH, -⟩ := sized_iff.1 hv
    cases hc : okC c
    · rw [hc] at CC
      clear hbad h1 h2 hv hW hH hc
      go_enter Try.func3, Try.ntmps3
      go_wp2_with fail
      refine Calls.ext (alive_any _) fun z => ?_
      go_wp2_with fail
      refine Calls.ext (CV.out _) fun z2 => ?_
      go_wp2_with fail
      refine Calls.ext (CC.out _) fun z3 => ?_
      go_wp2_with fail
      go_ret
      exact ⟨rfl, by repeat' (first | with_reducible exact Ext.refl _ | with_reducible refine Ext.alloc ?_ _ | with_reducible refine Ext.ext ?_ _ | with_reducible refine Ext.drew ?_)⟩
    · rw [hc] at CC
      have hw3 : IntKind.i64.wrap (W + a1) = W + a1 := IntWalk.i64_in _ (by omega)
      have hw4 : IntKind.i64.wrap (H + a2) = H + a2 := IntWalk.i64_in _ (by omega)
      rw [hv, hc] at hbad
      clear hv hc h1 h2 hW hH
      by_cases k1 : a1 ≤ c.shift
      · have d1 : decide (c.shift < a1) = false := decide_eq_false (by omega)
        by_cases k2 : a2 ≤ c.shift
        · have d2 : decide (c.shift < a2) = false := decide_eq_false (by omega)
          by_cases k3 : W + a1 ≤ 20
          · have d3 : decide (20 < W + a1) = false := decide_eq_false (by omega)
            by_cases k4 : H + a2 ≤ 20
            · rw [decide_eq_true k1, decide_eq_true k2, decide_eq_true k3, decide_eq_true k4] at hbad
              cases hbad
            · have d4 : decide (20 < H + a2) = true := decide_eq_true (by omega)
              clear hbad k1 k2 k3 k4
              go_enter Try.func3, Try.ntmps3
              go_wp2_with fail
              refine Calls.ext (alive_any _) fun z => ?_
              go_wp2_with fail
              refine Calls.ext (CV.out _) fun z2 => ?_
              go_wp2_with fail
              refine Calls.ext (CC.out _) fun z3 => ?_
              go_wp2_with fail
              go_ret
              exact ⟨rfl, by repeat' (first | with_reducible exact Ext.refl _ | with_reducible refine Ext.alloc ?_ _ | with_reducible refine Ext.ext ?_ _ | with_reducible refine Ext.drew ?_)⟩
          · have d3 : decide (20 < W + a1) = true := decide_eq_true (by omega)
            clear hbad k1 k2 k3
            go_enter Try.func3, Try.ntmps3
            go_wp2_with fail
            refine Calls.ext (alive_any _) fun z => ?_
            go_wp2_with fail
            refine Calls.ext (CV.out _) fun z2 => ?_
            go_wp2_with fail
            refine Calls.ext (CC.out _) fun z3 => ?_
            go_wp2_with fail
            go_ret
            exact ⟨rfl, by repeat' (first | with_reducible exact Ext.refl _ | with_reducible refine Ext.alloc ?_ _ | with_reducible refine Ext.ext ?_ _ | with_reducible refine Ext.drew ?_)⟩
        · have d2 : decide (c.shift < a2) = true := decide_eq_true (by omega)
          clear hbad k1 k2
          go_enter Try.func3, Try.ntmps3
          go_wp2_with fail
          refine Calls.ext (alive_any _) fun z => ?_
          go_wp2_with fail
          refine Calls.ext (CV.out _) fun z2 => ?_
          go_wp2_with fail
          refine Calls.ext (CC.out _) fun z3 => ?_
          go_wp2_with fail
          go_ret
          exact ⟨rfl, by repeat' (first | with_reducible exact Ext.refl _ | with_reducible refine Ext.alloc ?_ _ | with_reducible refine Ext.ext ?_ _ | with_reducible refine Ext.drew ?_)⟩
      · have d1 : decide (c.shift < a1) = true := decide_eq_true (by omega)
        clear hbad k1
        go_enter Try.func3, Try.ntmps3
        go_wp2_with fail
        refine Calls.ext (alive_any _) fun z => ?_
        go_wp2_with fail
        refine Calls.ext (CV.out _) fun z2 => ?_
        go_wp2_with fail
        refine Calls.ext (CC.out _) fun z3 => ?_
        go_wp2_with fail
        go_ret
        exact ⟨rfl, by repeat' (first | with_reducible exact Ext.refl _ | with_reducible refine Ext.alloc ?_ _ | with_reducible refine Ext.ext ?_ _ | with_reducible refine Ext.drew ?_)⟩
end Go.Proofs.Ytchplmenkdghcaa
/- What the statement says of a valid trace. -/
namespace Go.Proofs.Ytchplmenkdghcaa
open Go.Joins Go.ChangeShapes Go.WideShapes Go.RowKit Go.Deep Go.ChangeAt
theorem tp_plain (Wn Hn dx dy : Nat) (R : List Bool) (c : Cl) (hwx : Wn + dx ≤ 20) (hwy : Hn + dy ≤ 20) (hc : okC c = true) (hdx : (dx : Int) ≤ c.shift) (hdy : (dy : Int) ≤ c.shift) (l1 l2 : List Mi)
    (h1 : minuL (Wn + dx) (Hn + dy) (thinN (Wn + dx) (Hn + dy) ((Wn + dx) * (Hn + dy) + 1) (padL Wn Hn R (Wn + dx) (Hn + dy) 0 0)) = l1)
    (h2 : minuL (Wn + dx) (Hn + dy) (thinN (Wn + dx) (Hn + dy) ((Wn + dx) * (Hn + dy) + 1) (padL Wn Hn R (Wn + dx) (Hn + dy) dx dy)) = l2) :
    l2.length = l1.length ∧ (l1.length ≤ 12 → ∃ s : St, scoreS s = l1.length ∧ boundS s = l1.length ∧
      (∀ A A' n n' w, Pts w A (l1.map (mvM 20 20)) → Pts w A' (l2.map (mvM 20 20)) → Calls Try.prog 9 #[.slice A l1.length n, .slice A' l1.length n', c.val, .int .i64 2000] w (RetB s 0 w)) ∧
      (∀ A A' n n' w, Pts w A (l1.map (mvM 20 20)) → Pts w A' (l2.map (mvM 20 20)) → Calls Try.prog 10 #[.slice A l1.length n, .slice A' l1.length n', c.val, .agg #[.int .i64 0, .int .i64 dx, .int .i64 dy], .agg #[.int .i64 0, .int .i64 0, .int .i64 0, .int .i64 0]] w fun e w' => e = .returned (.tuple #[.int .i64 (l1.length : Int), .int .i64 0]) ∧ Ext w w')) := by
  have s := (pad_sh Wn Hn R dx dy).thin ((Wn + dx) * (Hn + dy) + 1)
  generalize thinN (Wn + dx) (Hn + dy) ((Wn + dx) * (Hn + dy) + 1) (padL Wn Hn R (Wn + dx) (Hn + dy) 0 0) = R1 at *
  generalize thinN (Wn + dx) (Hn + dy) ((Wn + dx) * (Hn + dy) + 1) (padL Wn Hn R (Wn + dx) (Hn + dy) dx dy) = R2 at *
  have e1 : printL (Wn + dx) (Hn + dy) R1 = l1.map (mvM 20 20) := by unfold printL; rw [h1]
  have e2 : printL (Wn + dx) (Hn + dy) R2 = l2.map (mvM 20 20) := by unfold printL; rw [h2]
  have hlen : l2.length = l1.length := by
    have := print_moved s
    rw [e1, e2] at this
    have := congrArg List.length this
    simpa using this
  refine ⟨hlen, fun hle => ?_⟩
  have hco := okC_ok hc
  have hok := print_ok s.l hwx hwy (by rw [e1]; simpa using hle)
  obtain ⟨p1, p2⟩ := print_found s hwx hwy
  have hdir : ∀ m ∈ printL (Wn + dx) (Hn + dy) R1, 0 ≤ m.dir := fun m hm => ((print_in s.l hwx hwy).1 m hm).2.2.2.1
  have hmv : isMove c ⟨0, (dx : Int), (dy : Int)⟩ = true := isMove_iff.2 ⟨⟨by have := hco.turns; show -c.turns ≤ 0; omega, by have := hco.turns; show 0 ≤ c.turns; omega⟩, ⟨by have := hco.shift; show -c.shift ≤ (dx : Int); omega, hdx⟩, ⟨by have := hco.shift; show -c.shift ≤ (dy : Int); omega, hdy⟩⟩
  have hbd : isBend c.elastic (Bd.f ⟨0, 0, 0, 0⟩) = true := by
    have := hco.elastic
    have hf0 : ∀ j, Bd.f ⟨0, 0, 0, 0⟩ j = 0 := fun j => by
      unfold Bd.f
      split <;> rfl
    unfold isBend
    rw [all_yes fun j _ => by rw [hf0]; exact inB_iff.2 (by omega), step_yes fun k _ => by rw [hf0, hf0]; decide]
    rfl
  rw [e1, e2] at p1
  rw [e2] at p2
  rw [e1] at hok hdir
  obtain ⟨s0, s1, s2, hb, hs⟩ := found_calls hdir hok hc hmv hbd p1 p2
  have e3 : (l2.map (mvM 20 20)).length = l1.length := by simpa using hlen
  have e4 : (l1.map (mvM 20 20)).length = l1.length := by simp
  rw [e3] at s1 s2
  exact ⟨s0, s1, s2, fun A A' n n' w q1 q2 => by have := hb A A' n n' w q1 q2; rwa [e3, e4] at this, fun A A' n n' w q1 q2 => by have := hs A A' n n' w q1 q2; rwa [e3, e4] at this⟩
set_option maxRecDepth 100000 in
set_option maxHeartbeats 4000000 in
theorem tp_good (Wn Hn dx dy : Nat) (A : Option Addr) (R : List Bool) (ct : Nat) (c : Cl) (l4 l5 : List Int) (A4 A5 : Option Addr) (c4 c5 : Nat) (w : World) (hW : 1 ≤ Wn ∧ Wn ≤ 20) (hH : 1 ≤ Hn ∧ Hn ≤ 20) (hl : R.length = Wn * Hn) (hc : okC c = true) (hdx : (dx : Int) ≤ c.shift) (hdy : (dy : Int) ≤ c.shift) (hwx : Wn + dx ≤ 20) (hwy : Hn + dy ≤ 20)
    (hB : Bls w A R) (h4 : Ns w A4 l4) (h5 : Ns w A5 l5) (b4 : ∀ v ∈ l4, -128 ≤ v ∧ v ≤ 127) (b5 : ∀ v ∈ l5, -128 ≤ v ∧ v ≤ 127) :
    Calls Try.prog 3 #[.agg #[.int .i64 Wn, .int .i64 Hn, .slice A R.length ct], .int .u8 dx, .int .u8 dy, c.val, .slice A4 l4.length c4, .slice A5 l5.length c5] w fun e w' => e = .returned (.bool true) ∧ Ext w w' := by
  obtain ⟨l1, hl1⟩ : ∃ l1, minuL (Wn + dx) (Hn + dy) (thinN (Wn + dx) (Hn + dy) ((Wn + dx) * (Hn + dy) + 1) (padL Wn Hn R (Wn + dx) (Hn + dy) 0 0)) = l1 := ⟨_, rfl⟩
  obtain ⟨l2, hl2⟩ : ∃ l2, minuL (Wn + dx) (Hn + dy) (thinN (Wn + dx) (Hn + dy) ((Wn + dx) * (Hn + dy) + 1) (padL Wn Hn R (Wn + dx) (Hn + dy) dx dy)) = l2 := ⟨_, rfl⟩
  obtain ⟨hlen, hfo⟩ := tp_plain Wn Hn dx dy R c hwx hwy hc hdx hdy l1 l2 hl1 hl2
  have hwn : 1 ≤ Wn + dx ∧ Wn + dx ≤ 20 := by omega
  have hhn : 1 ≤ Hn + dy ∧ Hn + dy ≤ 20 := by omega
  have CV := Lib.hid (show ∀ w, Calls Try.prog 5 #[.agg #[.int .i64 Wn, .int .i64 Hn, .slice A R.length ct]] w fun e w' => e = .returned (.bool true) ∧ Ext w w' from fun w => by
    have := validR_any Wn Hn R.length ct A w
    rwa [sized_iff.2 ⟨by omega, by omega, by rw [hl]; simp⟩] at this)
  have CC := Lib.hid (show ∀ w, Calls Try.prog 6 #[c.val] w fun e w' => e = .returned (.bool true) ∧ Ext w w' from fun w => hc ▸ classR_any c w)
  have CS1 := Lib.hid (fun z h1 h2 => sampled_any Wn Hn R A ct 0 0 (Wn + dx) (Hn + dy) l4 A4 c4 hW.2 hH.2 hl (by omega) (by omega) hwn hhn b4 z h1 h2)
  have CS2 := Lib.hid (fun z h1 h2 => sampled_any Wn Hn R A ct dx dy (Wn + dx) (Hn + dy) l5 A5 c5 hW.2 hH.2 hl (by omega) (by omega) hwn hhn b5 z h1 h2)
  have CP1 := Lib.hid (fun P B D cp cb cd z h1 h2 h3 => printed_any (Wn + dx) (Hn + dy) ((Wn + dx) * (Hn + dy)) P B D cp cb cd _ (fun i _ => samp_in Wn Hn R (Wn + dx) 0 0 l4 i) hwn hhn rfl _ (bin_pad Wn Hn R (Wn + dx) (Hn + dy) 0 0 l4) l1 hl1 z h1 h2 h3)
  have CP2 := Lib.hid (fun P B D cp cb cd z h1 h2 h3 => printed_any (Wn + dx) (Hn + dy) ((Wn + dx) * (Hn + dy)) P B D cp cb cd _ (fun i _ => samp_in Wn Hn R (Wn + dx) dx dy l5 i) hwn hhn rfl _ (bin_pad Wn Hn R (Wn + dx) (Hn + dy) dx dy l5) l2 hl2 z h1 h2 h3)
  unfold SmpT at CS1 CS2
  unfold PrtT at CP1 CP2
  rw [hlen] at CP2
  have hsf := okC_ok hc
  have hs4 := hsf.shift.2
  have hx1 : IntKind.i64.wrap (dx : Int) = (dx : Int) := IntWalk.i64_in _ (by omega)
  have hy1 : IntKind.i64.wrap (dy : Int) = (dy : Int) := IntWalk.i64_in _ (by omega)
  clear hl1 hl2 hl hs4 hsf
  obtain ⟨wN, hwN⟩ : ∃ wN, wN = Wn + dx := ⟨_, rfl⟩
  obtain ⟨hN, hhN⟩ : ∃ hN, hN = Hn + dy := ⟨_, rfl⟩
  have hx2 : IntKind.i64.wrap ((Wn : Int) + dx) = (wN : Int) := by rw [hwN]; simp; exact IntWalk.i64_in _ (by omega)
  have hy2 : IntKind.i64.wrap ((Hn : Int) + dy) = (hN : Int) := by rw [hhN]; simp; exact IntWalk.i64_in _ (by omega)
  rw [← hwN, ← hhN] at CS1 CS2 CP1 CP2
  have d1 : decide (c.shift < (dx : Int)) = false := decide_eq_false (by omega)
  have d2 : decide (c.shift < (dy : Int)) = false := decide_eq_false (by omega)
  have d3 : decide ((20 : Int) < (wN : Int)) = false := decide_eq_false (by omega)
  have d4 : decide ((20 : Int) < (hN : Int)) = false := decide_eq_false (by omega)
  have d5 : decide (20 < wN) = false := decide_eq_false (by omega)
  have d6 : decide (20 < hN) = false := decide_eq_false (by omega)
  obtain ⟨n, hn⟩ : ∃ n, n = wN * hN := ⟨_, rfl⟩
  rw [← hn] at CS1 CS2 CP1 CP2
  have HFO := Lib.hid hfo
  have HB := Lib.hid (show ∀ z, Ext w z → Bls z A R from fun z h => Sl.grow hB h)
  have H4 := Lib.hid (show ∀ z, Ext w z → Ns z A4 l4 from fun z h => Sl.grow h4 h)
  have H5 := Lib.hid (show ∀ z, Ext w z → Ns z A5 l5 from fun z h => Sl.grow h5 h)
  obtain ⟨nl, hnl⟩ : ∃ nl, nl = l1.length := ⟨_, rfl⟩
  rw [← hnl] at CP1 CP2 HFO
  generalize sampF Wn Hn R wN 0 0 l4 = f1 at *
  generalize sampF Wn Hn R wN dx dy l5 = f2 at *
  clear hfo hB h4 h5 b4 b5 hwN hhN hn hnl hlen hdx hdy hwx hwy hwn hhn hW hH hc
  have E0 := Lib.hid (((Ext.refl w).alloc (.cells #[.int .i64 Wn, .int .i64 Hn, .slice A R.length ct] 24)).alloc (.cells #[.int .i64 c.turns, .int .i64 c.shift, .int .i64 c.elastic, .int .i64 c.reach, .int .i64 c.spread] 26))
  have X24 := Lib.hid ((Blk.new w 24 #[.int .i64 Wn, .int .i64 Hn, .slice A R.length ct]).alloc (.cells #[.int .i64 c.turns, .int .i64 c.shift, .int .i64 c.elastic, .int .i64 c.reach, .int .i64 c.spread] 26))
  have X26 := Lib.hid (Blk.new' (w.alloc (.cells #[.int .i64 Wn, .int .i64 Hn, .slice A R.length ct] 24)) 26 #[.int .i64 c.turns, .int .i64 c.shift, .int .i64 c.elastic, .int .i64 c.reach, .int .i64 c.spread] (w.heap.size + 1) (by simp))
  go_enter Try.func3, Try.ntmps3
  go_wp2_with fail
  refine Calls.ext (alive_any _) fun z => ?_
  go_wp2_with fail
  refine Calls.ext (CV.out _) fun z2 => ?_
  go_wp2_with fail
  refine Calls.ext (CC.out _) fun z3 => ?_
  go_wp2_with fail
  refine (CS1.out _ (HB.out _ (((E0.out.ext z).ext z2).ext z3)) (H4.out _ (((E0.out.ext z).ext z2).ext z3))).mono ?_
  rintro _ V1 ⟨P1, A1, B1, p1, q1, r1, rfl, hP, hA, hL, hE⟩
  have K1 := Lib.hid (Ext.trans (((E0.out.ext z).ext z2).ext z3) hE)
  have K24 := Lib.hid ((((X24.out.ext z).ext z2).ext z3).grow hE)
  have K26 := Lib.hid ((((X26.out.ext z).ext z2).ext z3).grow hE)
  have KU := Lib.hid (And.intro hP (And.intro hA hL))
  clear hP hA hL hE CS1 E0 X24 X26 H4 CV CC
  have x0 := K24.out.cell 0
  have x1 := K24.out.cell 1
  have x2 := K24.out.cell 2
  have xo := Old.mk K24.out.lt
  go_wp2_with fail
  have L1 := Lib.hid ((K1.out.alloc (.cells #[.int .i64 wN, .int .i64 hN, .slice P1 n p1] 33)).alloc (.cells #[.int .i64 wN, .int .i64 hN, .slice A1 n q1, .slice B1 n r1] 35))
  refine (CS2.out _ (HB.out _ L1.out) (H5.out _ L1.out)).mono ?_
  rintro _ V2 ⟨P2, A2, B2, p2, q2, r2, rfl, hP, hA, hL, hE⟩
  have M1 := Lib.hid (L1.out.trans hE)
  have M26 := Lib.hid (((K26.out.alloc (.cells #[.int .i64 wN, .int .i64 hN, .slice P1 n p1] 33)).alloc (.cells #[.int .i64 wN, .int .i64 hN, .slice A1 n q1, .slice B1 n r1] 35)).grow hE)
  have M33 := Lib.hid (((Blk.new V1 33 #[.int .i64 wN, .int .i64 hN, .slice P1 n p1]).alloc (.cells #[.int .i64 wN, .int .i64 hN, .slice A1 n q1, .slice B1 n r1] 35)).grow hE)
  have M35 := Lib.hid ((Blk.new' (V1.alloc (.cells #[.int .i64 wN, .int .i64 hN, .slice P1 n p1] 33)) 35 #[.int .i64 wN, .int .i64 hN, .slice A1 n q1, .slice B1 n r1] (V1.heap.size + 1) (by simp)).grow hE)
  have KU1 := Lib.hid (show Us V2 P1 n f1 ∧ Us V2 A1 n (fun _ => 40) ∧ Us V2 B1 n (fun _ => 200) from
    ⟨KU.out.1.grow (Ext.trans (((Ext.refl V1).alloc _).alloc _) hE), KU.out.2.1.grow (Ext.trans (((Ext.refl V1).alloc _).alloc _) hE), KU.out.2.2.grow (Ext.trans (((Ext.refl V1).alloc _).alloc _) hE)⟩)
  have KU2 := Lib.hid (And.intro hP (And.intro hA hL))
  obtain ⟨g16, hg16⟩ : ∃ g, g = V1.heap.size := ⟨_, rfl⟩
  rw [← hg16] at M33 M35 ⊢
  clear hP hA hL hE CS2 K1 K24 K26 KU L1 H5 HB x0 x1 x2 xo hg16 V1
  have x0 := M33.out.cell 0
  have x1 := M33.out.cell 1
  have x2 := M33.out.cell 2
  have y0 := M35.out.cell 0
  have y1 := M35.out.cell 1
  have y2 := M35.out.cell 2
  have y3 := M35.out.cell 3
  have xo := Old.mk M33.out.lt
  have yo := Old.mk M35.out.lt
  go_wp2_with fail
  have NE := Lib.hid (((Ext.refl V2).alloc (.cells #[.int .i64 wN, .int .i64 hN, .slice P2 n p2] 33)).alloc (.cells #[.int .i64 wN, .int .i64 hN, .slice A2 n q2, .slice B2 n r2] 35))
  refine (CP1.out _ _ _ _ _ _ _ (KU1.out.1.grow NE.out) (KU1.out.2.1.grow NE.out) (KU1.out.2.2.grow NE.out)).mono ?_
  rintro _ V3 ⟨A3, e3, rfl, hp, hE⟩
  have HP3 := Lib.hid hp
  have N1 := Lib.hid ((M1.out.trans NE.out).trans hE)
  have N26 := Lib.hid ((M26.out.grow NE.out).grow hE)
  have N33 := Lib.hid (((Blk.new V2 33 #[.int .i64 wN, .int .i64 hN, .slice P2 n p2]).alloc (.cells #[.int .i64 wN, .int .i64 hN, .slice A2 n q2, .slice B2 n r2] 35)).grow hE)
  have N35 := Lib.hid ((Blk.new' (V2.alloc (.cells #[.int .i64 wN, .int .i64 hN, .slice P2 n p2] 33)) 35 #[.int .i64 wN, .int .i64 hN, .slice A2 n q2, .slice B2 n r2] (V2.heap.size + 1) (by simp)).grow hE)
  have KU3 := Lib.hid (show Us V3 P2 n f2 ∧ Us V3 A2 n (fun _ => 40) ∧ Us V3 B2 n (fun _ => 200) from
    ⟨KU2.out.1.grow (Ext.trans NE.out hE), KU2.out.2.1.grow (Ext.trans NE.out hE), KU2.out.2.2.grow (Ext.trans NE.out hE)⟩)
  obtain ⟨g18, hg18⟩ : ∃ g, g = V2.heap.size := ⟨_, rfl⟩
  rw [← hg18] at N33 N35 ⊢
  clear hp hE CP1 M1 M26 M33 M35 KU1 KU2 NE x0 x1 x2 y0 y1 y2 y3 xo yo hg18 V2
  have x0 := N33.out.cell 0
  have x1 := N33.out.cell 1
  have x2 := N33.out.cell 2
  have y0 := N35.out.cell 0
  have y1 := N35.out.cell 1
  have y2 := N35.out.cell 2
  have y3 := N35.out.cell 3
  have xo := Old.mk N33.out.lt
  have yo := Old.mk N35.out.lt
  go_wp2_with fail
  refine (CP2.out _ _ _ _ _ _ _ KU3.out.1 KU3.out.2.1 KU3.out.2.2).mono ?_
  rintro _ V4 ⟨A4', e4, rfl, hq, hE⟩
  have HP4 := Lib.hid (HP3.out.grow hE)
  have HQ4 := Lib.hid hq
  have O1 := Lib.hid (N1.out.trans hE)
  have O26 := Lib.hid (N26.out.grow hE)
  clear hq hE CP2 N1 N26 N33 N35 KU3 HP3 x0 x1 x2 y0 y1 y2 y3 xo yo
  have z0 := O26.out.cell 0
  have z1 := O26.out.cell 1
  have z2 := O26.out.cell 2
  have z3 := O26.out.cell 3
  have z4 := O26.out.cell 4
  have zo := Old.mk O26.out.lt
  by_cases h12 : 12 < nl
  · have t1 : decide ((12 : Int) < (nl : Int)) = true := decide_eq_true (by omega)
    have t2 : decide (12 < nl) = true := decide_eq_true h12
    clear h12
    go_wp2_with fail
    go_ret
    exact ⟨rfl, O1.out⟩
  · have t1 : decide ((12 : Int) < (nl : Int)) = false := decide_eq_false (by omega)
    have t2 : decide (12 < nl) = false := decide_eq_false h12
    obtain ⟨s, s1, s2, hb, hs⟩ := HFO.out (by omega)
    have CB := Lib.hid hb
    have CR := Lib.hid hs
    clear h12 hb hs HFO
    go_wp2_with fail
    refine (CB.out _ _ _ _ _ HP4.out HQ4.out).mono ?_
    rintro _ V5 ⟨B1, b1, B2, b2, rfl, -, -, hE⟩
    have HP5 := Lib.hid (HP4.out.grow hE)
    have HQ5 := Lib.hid (HQ4.out.grow hE)
    have Q1 := Lib.hid (O1.out.trans hE)
    have Q26 := Lib.hid (O26.out.grow hE)
    clear hE CB HP4 HQ4 O1 O26 z0 z1 z2 z3 z4 zo
    have z0 := Q26.out.cell 0
    have z1 := Q26.out.cell 1
    have z2 := Q26.out.cell 2
    have z3 := Q26.out.cell 3
    have z4 := Q26.out.cell 4
    have zo := Old.mk Q26.out.lt
    go_wp2_with fail
    have EX := Lib.hid ((Ext.refl V5).alloc (.cells #[.int .i64 (nl : Int), .int .i64 (nl : Int), .slice B1 s.att.length b1, .slice B2 s.left.length b2] 45))
    refine (CR.out _ _ _ _ _ (HP5.out.grow EX.out) (HQ5.out.grow EX.out)).mono ?_
    rintro _ V6 ⟨rfl, hE⟩
    have R1 := Lib.hid ((Q1.out.trans EX.out).trans hE)
    have R45 := Lib.hid ((Blk.new V5 45 #[.int .i64 (nl : Int), .int .i64 (nl : Int), .slice B1 s.att.length b1, .slice B2 s.left.length b2]).grow hE)
    clear hE CR HP5 HQ5 Q1 Q26 EX z0 z1 z2 z3 z4 zo
    have y0 := R45.out.cell 0
    have y1 := R45.out.cell 1
    have yo := Old.mk R45.out.lt
    go_wp2_with fail
    go_ret
    exact ⟨rfl, R1.out⟩
theorem topPrinted_walk (W H : Int) (A : Option Addr) (R : List Bool) (ct : Nat) (a1 a2 : Int) (c : Cl) (l4 l5 : List Int) (A4 A5 : Option Addr) (c4 c5 : Nat) (w : World) (h1 : 0 ≤ a1 ∧ a1 < 256) (h2 : 0 ≤ a2 ∧ a2 < 256)
    (hB : Bls w A R) (h4 : Ns w A4 l4) (h5 : Ns w A5 l5) (b4 : ∀ v ∈ l4, -128 ≤ v ∧ v ≤ 127) (b5 : ∀ v ∈ l5, -128 ≤ v ∧ v ≤ 127) :
    Calls Try.prog 3 #[.agg #[.int .i64 W, .int .i64 H, .slice A R.length ct], .int .u8 a1, .int .u8 a2, c.val, .slice A4 l4.length c4, .slice A5 l5.length c5] w fun e w' => e = .returned (.bool true) ∧ Ext w w' := by
  cases hg : (sizedF W H R.length && okC c && decide (a1 ≤ c.shift) && decide (a2 ≤ c.shift) && decide (W + a1 ≤ 20) && decide (H + a2 ≤ 20))
  · exact tp_bad W H A R ct c a1 a2 l4 l5 A4 A5 c4 c5 w h1 h2 hg
  · simp only [Bool.and_eq_true, decide_eq_true_eq] at hg
    obtain ⟨⟨⟨⟨⟨hv, hc⟩, k1⟩, k2⟩, k3⟩, k4⟩ := hg
    obtain ⟨hW, hH, hn⟩ := sized_iff.1 hv
    obtain ⟨Wn, rfl⟩ : ∃ n : Nat, W = n := ⟨W.toNat, by omega⟩
    obtain ⟨Hn, rfl⟩ : ∃ n : Nat, H = n := ⟨H.toNat, by omega⟩
    obtain ⟨dx, rfl⟩ : ∃ n : Nat, a1 = n := ⟨a1.toNat, by omega⟩
    obtain ⟨dy, rfl⟩ : ∃ n : Nat, a2 = n := ⟨a2.toNat, by omega⟩
    refine tp_good Wn Hn dx dy A R ct c l4 l5 A4 A5 c4 c5 w (by omega) (by omega) ?_ hc k1 k2 (by omega) (by omega) hB h4 h5 b4 b5
    have : ((R.length : Nat) : Int) = ((Wn * Hn : Nat) : Int) := by rw [hn]; simp
    exact Int.natCast_inj.1 this
end Go.Proofs.Ytchplmenkdghcaa
