/- The reference: whether some move of a block and some bend bring two points together (may, 77). -/
import Derived.Test.YtchplmenkdghcaaAsked
import Derived.Test.YtchplmenkdghcaaPairs
import Derived.Test.YtchplmenkdghcaaScored
import Derived.Test.YtchplmenkdghcaaBound
namespace Go.Proofs.Ytchplmenkdghcaa
open Go.RowKit
def mayB (c : Cl) (m o : Mi) (k : Bk) : Bool := parB c m o k.turn k.x0 k.x1 (fun _ => k.y0 - c.elastic) (fun _ => k.y1 + c.elastic)
end Go.Proofs.Ytchplmenkdghcaa
/- Scores and bounds with their errors (Score 21, 22; Bound 25, 26). -/
namespace Go.Proofs.Ytchplmenkdghcaa
open Go.RowKit
def scoreT (c : Cl) (lp lq : List Mi) (v : Mv) (b : Nat → Int) : Value :=
  if askE c lp lq = 0 then (if isMove c v && isBend c.elastic b then .tuple #[.int .i64 (scrK c lp lq v b), .int .i64 0] else .tuple #[.int .i64 0, .int .i64 2]) else .tuple #[.int .i64 0, .int .i64 (askE c lp lq)]
theorem bend_in {e : Int} {b : Nat → Int} (he : e ≤ 1) (h : isBend e b = true) : ∀ j, j < 4 → -1 ≤ b j ∧ b j ≤ 1 := by
  intro j hj
  simp only [isBend, Bool.and_eq_true, allB, List.all_eq_true] at h
  have := h.1 j (List.mem_range.2 hj)
  rw [inB_iff] at this
  omega
theorem move_in {c : Cl} {v : Mv} (hc : c.ok) (h : isMove c v = true) : (-3 ≤ v.turn ∧ v.turn ≤ 3) ∧ (-4 ≤ v.dx ∧ v.dx ≤ 4) ∧ (-4 ≤ v.dy ∧ v.dy ≤ 4) := by
  rw [isMove_iff] at h
  have := hc.turns
  have := hc.shift
  omega
theorem ask_err {c : Cl} {lp lq : List Mi} (h : askE c lp lq ≠ 0) : ∃ x, askE c lp lq = x ∧ (x = 2 ∨ x = 20) := ⟨_, rfl, (askE_vals c lp lq).resolve_left h⟩
set_option maxRecDepth 100000 in
set_option maxHeartbeats 4000000 in
theorem Score_any (c : Cl) (lp lq : List Mi) (v : Mv) (b : Nat → Int) (hp : ∀ m ∈ lp, 0 ≤ m.dir) (hq : ∀ m ∈ lq, 0 ≤ m.dir) (hnp : lp.length ≤ 100) (hnq : lq.length ≤ 100) (Ap Aq : Option Addr) (cp cq : Nat) (w : World) (hP : Pts w Ap lp) (hQ : Pts w Aq lq) :
    Calls Try.prog 10 #[.slice Ap lp.length cp, .slice Aq lq.length cq, c.val, v.val, bendV b] w fun e w' => e = .returned (scoreT c lp lq v b) ∧ Ext w w' := by
  have CA := Lib.hid (fun w h1 h2 => check2_any c lp lq hnp hnq Ap Aq cp cq w h1 h2)
  have HP := Lib.hid hP
  have HQ := Lib.hid hQ
  clear hP hQ
  by_cases h0 : askE c lp lq = 0
  · obtain ⟨a1, a2, hc⟩ := askE_ok h0
    obtain ⟨hpo, -⟩ := okP_ok a1 hp
    obtain ⟨hqo, -⟩ := okP_ok a2 hq
    clear a1 a2
    rw [h0] at CA
    have CM := Lib.hid (fun w => move_any c v hc w)
    have CB := Lib.hid (fun w => bend_any c b hc.elastic w)
    cases h1 : isMove c v
    · rw [h1] at CM
      have HV := Lib.hid (show scoreT c lp lq v b = .tuple #[.int .i64 0, .int .i64 2] from by unfold scoreT; rw [if_pos h0, h1]; rfl)
      clear h0
      go_enter Try.func10, Try.ntmps10
      go_wp2_with fail
      have hE0 := (((Ext.refl w).alloc (.cells #[.int .i64 c.turns, .int .i64 c.shift, .int .i64 c.elastic, .int .i64 c.reach, .int .i64 c.spread] 26)).alloc (.cells #[.int .i64 v.turn, .int .i64 v.dx, .int .i64 v.dy] 51)).alloc (.cells #[.int .i64 (b 0), .int .i64 (b 1), .int .i64 (b 2), .int .i64 (b 3)] 53)
      refine Calls.ext (CA.out _ (HP.out.grow hE0) (HQ.out.grow hE0)) fun z1 => ?_
      go_wp2_with fail
      refine Calls.ext (CM.out _) fun z2 => ?_
      go_wp2_with fail
      refine bodyPost_ret (v := .tuple #[.int .i64 0, .int .i64 2]) (by simp [results, Try.results10, go_sem]) rfl ⟨ret_of ?_, ?_⟩
      · rw [HV.out]
      · repeat' (first | with_reducible exact Ext.refl _ | with_reducible refine Ext.alloc ?_ _ | with_reducible refine Ext.ext ?_ _)
    cases h2 : isBend c.elastic b
    · rw [h1] at CM
      rw [h2] at CB
      have HV := Lib.hid (show scoreT c lp lq v b = .tuple #[.int .i64 0, .int .i64 2] from by unfold scoreT; rw [if_pos h0, h1, h2]; rfl)
      clear h0
      go_enter Try.func10, Try.ntmps10
      go_wp2_with fail
      have hE0 := (((Ext.refl w).alloc (.cells #[.int .i64 c.turns, .int .i64 c.shift, .int .i64 c.elastic, .int .i64 c.reach, .int .i64 c.spread] 26)).alloc (.cells #[.int .i64 v.turn, .int .i64 v.dx, .int .i64 v.dy] 51)).alloc (.cells #[.int .i64 (b 0), .int .i64 (b 1), .int .i64 (b 2), .int .i64 (b 3)] 53)
      refine Calls.ext (CA.out _ (HP.out.grow hE0) (HQ.out.grow hE0)) fun z1 => ?_
      go_wp2_with fail
      refine Calls.ext (CM.out _) fun z2 => ?_
      go_wp2_with fail
      refine Calls.ext (CB.out _) fun z3 => ?_
      go_wp2_with fail
      refine bodyPost_ret (v := .tuple #[.int .i64 0, .int .i64 2]) (by simp [results, Try.results10, go_sem]) rfl ⟨ret_of ?_, ?_⟩
      · rw [HV.out]
      · repeat' (first | with_reducible exact Ext.refl _ | with_reducible refine Ext.alloc ?_ _ | with_reducible refine Ext.ext ?_ _)
    · obtain ⟨m1, m2, m3⟩ := move_in hc h1
      have hbi := bend_in hc.elastic.2 h2
      have CS := Lib.hid (fun w h1' h2' => score_any c hc lp lq v b hpo hqo m1 m2 m3 hbi hnp hnq Ap Aq cp cq w h1' h2')
      rw [h1] at CM
      rw [h2] at CB
      have HV := Lib.hid (show scoreT c lp lq v b = .tuple #[.int .i64 (mmk (nbF lq.length (mayL c lp lq v b)) lp.length []), .int .i64 0] from by unfold scoreT; rw [if_pos h0, h1, h2]; rfl)
      clear h0 hbi m1 m2 m3
      generalize mmk (nbF lq.length (mayL c lp lq v b)) lp.length [] = u at *
      go_enter Try.func10, Try.ntmps10
      go_wp2_with fail
      have hE0 := (((Ext.refl w).alloc (.cells #[.int .i64 c.turns, .int .i64 c.shift, .int .i64 c.elastic, .int .i64 c.reach, .int .i64 c.spread] 26)).alloc (.cells #[.int .i64 v.turn, .int .i64 v.dx, .int .i64 v.dy] 51)).alloc (.cells #[.int .i64 (b 0), .int .i64 (b 1), .int .i64 (b 2), .int .i64 (b 3)] 53)
      refine Calls.ext (CA.out _ (HP.out.grow hE0) (HQ.out.grow hE0)) fun z1 => ?_
      go_wp2_with fail
      refine Calls.ext (CM.out _) fun z2 => ?_
      go_wp2_with fail
      refine Calls.ext (CB.out _) fun z3 => ?_
      go_wp2_with fail
      have hE1 := ((hE0.ext z1).ext z2).ext z3
      refine Calls.ext (CS.out _ (HP.out.grow hE1) (HQ.out.grow hE1)) fun z4 => ?_
      go_wp2_with fail
      refine bodyPost_ret (v := .tuple #[.int .i64 u, .int .i64 0]) (by simp [results, Try.results10, go_sem]) rfl ⟨ret_of ?_, ?_⟩
      · rw [HV.out]
      · repeat' (first | with_reducible exact Ext.refl _ | with_reducible refine Ext.alloc ?_ _ | with_reducible refine Ext.ext ?_ _)
  · obtain ⟨x, hx, hx2⟩ := ask_err h0
    have HV := Lib.hid (show scoreT c lp lq v b = .tuple #[.int .i64 0, .int .i64 x] from by unfold scoreT; rw [if_neg h0, hx])
    rw [hx] at CA
    clear h0 hx
    have hxn : (x != 0) = true := by rcases hx2 with rfl | rfl <;> rfl
    go_enter Try.func10, Try.ntmps10
    go_wp2_with fail
    have hE0 := (((Ext.refl w).alloc (.cells #[.int .i64 c.turns, .int .i64 c.shift, .int .i64 c.elastic, .int .i64 c.reach, .int .i64 c.spread] 26)).alloc (.cells #[.int .i64 v.turn, .int .i64 v.dx, .int .i64 v.dy] 51)).alloc (.cells #[.int .i64 (b 0), .int .i64 (b 1), .int .i64 (b 2), .int .i64 (b 3)] 53)
    refine Calls.ext (CA.out _ (HP.out.grow hE0) (HQ.out.grow hE0)) fun z1 => ?_
    go_wp2_with fail
    refine bodyPost_ret (v := .tuple #[.int .i64 0, .int .i64 x]) (by simp [results, Try.results10, go_sem]) rfl ⟨ret_of ?_, ?_⟩
    · rw [HV.out]
    · repeat' (first | with_reducible exact Ext.refl _ | with_reducible refine Ext.alloc ?_ _ | with_reducible refine Ext.ext ?_ _)
end Go.Proofs.Ytchplmenkdghcaa
