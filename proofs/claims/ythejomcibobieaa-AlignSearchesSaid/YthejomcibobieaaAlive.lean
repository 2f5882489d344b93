/- The program: whether a result is proved, with its errors (CheckBest, 29). -/
import Derived.Test.YthejomcibobieaaProved
import Derived.Test.YthejomcibobieaaBest
import Derived.Test.YthejomcibobieaaCovers
import Derived.Test.YthejomcibobieaaEqAt
namespace Go.Proofs.Ythejomcibobieaa
open Go.RowKit

/-- the error of a proof's check -/
def chkE (c : Cl) (lp lq : List Mi) (s : St) (sc bd : Int) : Int := if askE c lp lq = 0 then (if provB c (bndK c lp lq) (trK c lp lq) s sc bd then 0 else 21) else askE c lp lq
abbrev resV (att : List At) (left : List Rs) (sc bd : Int) (A1 A2 : Option Addr) (c1 c2 : Nat) : Value := .agg #[.int .i64 sc, .int .i64 bd, .slice A1 att.length c1, .slice A2 left.length c2]
set_option maxRecDepth 100000 in
set_option maxHeartbeats 4000000 in
theorem CheckBest_any (c : Cl) (lp lq : List Mi) (hp : ∀ m ∈ lp, 0 ≤ m.dir) (hq : ∀ m ∈ lq, 0 ≤ m.dir) (hnp : lp.length ≤ 100) (hnq : lq.length ≤ 100) (Ap Aq : Option Addr) (cp cq : Nat) (att : List At) (left : List Rs) (sc bd : Int) (A1 A2 : Option Addr) (c1 c2 : Nat)
    (hna : att.length ≤ 2000) (hnl : left.length ≤ 2000) (hwf : ∀ x ∈ att, x.wf) (w : World) (hP : Pts w Ap lp) (hQ : Pts w Aq lq) (hA : Ats w A1 att) (hL : Rss w A2 left) :
    Calls Try.prog 29 #[.slice Ap lp.length cp, .slice Aq lq.length cq, c.val, resV att left sc bd A1 A2 c1 c2] w fun e w' => e = .returned (.int .i64 (chkE c lp lq ⟨att, left⟩ sc bd)) ∧ Ext w w' := by
  have CA := Lib.hid (fun w h1 h2 => check2_any c lp lq hnp hnq Ap Aq cp cq w h1 h2)
  have HP := Lib.hid hP
  have HQ := Lib.hid hQ
  have HA := Lib.hid hA
  have HL := Lib.hid hL
  clear hP hQ hA hL
  by_cases h0 : askE c lp lq = 0
  · obtain ⟨a1, a2, hc⟩ := askE_ok h0
    obtain ⟨hpo, -⟩ := okP_ok a1 hp
    obtain ⟨hqo, -⟩ := okP_ok a2 hq
    have CP := Lib.hid (fun (W : World) (hE : Ext w W) => proved_any c hc lp lq hpo hqo hnp hnq Ap Aq cp cq att left sc bd A1 A2 c1 c2 hna hnl hwf W (HP.out.grow hE) (HQ.out.grow hE) (HA.out.grow hE) (HL.out.grow hE))
    have HV := Lib.hid (show chkE c lp lq ⟨att, left⟩ sc bd = if provB c (bndK c lp lq) (trK c lp lq) ⟨att, left⟩ sc bd then 0 else 21 from if_pos h0)
    rw [h0] at CA
    generalize provB c (bndK c lp lq) (trK c lp lq) ⟨att, left⟩ sc bd = res at *
    clear a1 a2 hc hpo hqo h0 hwf hna hnl
    cases res
    · have HV2 := Lib.hid (show chkE c lp lq ⟨att, left⟩ sc bd = 21 from HV.out)
      go_enter Try.func29, Try.ntmps29
      go_wp2_with fail
      have hE0 := ((Ext.refl w).alloc (.cells #[.int .i64 c.turns, .int .i64 c.shift, .int .i64 c.elastic, .int .i64 c.reach, .int .i64 c.spread] 38)).alloc (.cells #[.int .i64 sc, .int .i64 bd, .slice A1 att.length c1, .slice A2 left.length c2] 58)
      refine Calls.ext (CA.out _ (HP.out.grow hE0) (HQ.out.grow hE0)) fun z1 => ?_
      go_wp2_with fail
      refine Calls.ext (CP.out _ (hE0.ext z1)) fun z2 => ?_
      go_wp2_with fail
      go_ret
      exact ⟨ret_of (by rw [HV2.out]; rfl), (hE0.ext z1).ext z2⟩
    · have HV2 := Lib.hid (show chkE c lp lq ⟨att, left⟩ sc bd = 0 from HV.out)
      go_enter Try.func29, Try.ntmps29
      go_wp2_with fail
      have hE0 := ((Ext.refl w).alloc (.cells #[.int .i64 c.turns, .int .i64 c.shift, .int .i64 c.elastic, .int .i64 c.reach, .int .i64 c.spread] 38)).alloc (.cells #[.int .i64 sc, .int .i64 bd, .slice A1 att.length c1, .slice A2 left.length c2] 58)
      refine Calls.ext (CA.out _ (HP.out.grow hE0) (HQ.out.grow hE0)) fun z1 => ?_
      go_wp2_with fail
      refine Calls.ext (CP.out _ (hE0.ext z1)) fun z2 => ?_
      go_wp2_with fail
      go_ret
      exact ⟨ret_of (by rw [HV2.out]; rfl), (hE0.ext z1).ext z2⟩
  · obtain ⟨x, hx, hx2⟩ := ask_err h0
    have HV := Lib.hid (show chkE c lp lq ⟨att, left⟩ sc bd = x from by unfold chkE; rw [if_neg h0, hx])
    rw [hx] at CA
    clear h0 hx
    have hxn : (x != 0) = true := by rcases hx2 with rfl | rfl <;> rfl
    go_enter Try.func29, Try.ntmps29
    go_wp2_with fail
    have hE0 := ((Ext.refl w).alloc (.cells #[.int .i64 c.turns, .int .i64 c.shift, .int .i64 c.elastic, .int .i64 c.reach, .int .i64 c.spread] 38)).alloc (.cells #[.int .i64 sc, .int .i64 bd, .slice A1 att.length c1, .slice A2 left.length c2] 58)
    refine Calls.ext (CA.out _ (HP.out.grow hE0) (HQ.out.grow hE0)) fun z1 => ?_
    go_wp2_with fail
    go_ret
    exact ⟨ret_of (by rw [HV.out]; rfl), hE0.ext z1⟩
end Go.Proofs.Ythejomcibobieaa
/- The program's search with its errors (Best, 32). -/
namespace Go.Proofs.Ythejomcibobieaa
open Go.RowKit

theorem retB_none {w w' : World} {x : Int} (hE : Ext w w') : RetB ⟨[], []⟩ x w (.returned (.tuple #[.agg #[.int .i64 0, .int .i64 0, .slice none 0 0, .slice none 0 0], .int .i64 x])) w' := ⟨none, 0, none, 0, rfl, .inl rfl, .inl rfl, hE⟩
set_option maxRecDepth 100000 in
set_option maxHeartbeats 8000000 in
theorem best_err (c : Cl) (lp lq : List Mi) (n : Int) (x : Int) (hx : askE c lp lq = x) (hx2 : (x = 2 ∨ x = 20) ∨ (x = 0 ∧ inB n 0 2000 = false)) (hnp : lp.length ≤ 100) (hnq : lq.length ≤ 100) (Ap Aq : Option Addr) (cp cq : Nat) (w : World) (hP : Pts w Ap lp) (hQ : Pts w Aq lq) :
    Calls Try.prog 32 #[.slice Ap lp.length cp, .slice Aq lq.length cq, c.val, .int .i64 n] w (RetB ⟨[], []⟩ (if x = 0 then 2 else x) w) := by
  have CA := Lib.hid (fun w h1 h2 => check2_any c lp lq hnp hnq Ap Aq cp cq w h1 h2)
  rw [hx] at CA
  have CW := Lib.hid (fun (b : Nat) (w : World) (h : w.cell? ⟨b, 0, none⟩ = some (.int .i64 n)) => one_any 0 2000 n b 1 w h)
  have HP := Lib.hid hP
  have HQ := Lib.hid hQ
  have HZ := Lib.hid (fun (w' : World) (y : Int) (h : Ext w w') => retB_none (x := y) h)
  clear hP hQ hx hnp hnq
  rcases hx2 with hx2 | ⟨rfl, hn⟩
  · have hxn : (x != 0) = true := by rcases hx2 with rfl | rfl <;> rfl
    have hx0 : (if x = 0 then 2 else x) = x := by rcases hx2 with rfl | rfl <;> rfl
    rw [hx0]
    clear hx0
    go_enter Try.func32, Try.ntmps32
    go_wp2_with fail
    go_step3
    have BP := Lib.hid ((((Blk.new w 22 #[.slice Ap lp.length cp]).alloc (.cells #[.slice Aq lq.length cq] 22)).alloc (.cells #[.int .i64 c.turns, .int .i64 c.shift, .int .i64 c.elastic, .int .i64 c.reach, .int .i64 c.spread] 38)).alloc (.cells #[.int .i64 0, .int .i64 0, .slice none 0 0, .slice none 0 0] 58))
    have BQ := Lib.hid (((Blk.new' (w.alloc (.cells #[.slice Ap lp.length cp] 22)) 22 #[.slice Aq lq.length cq] (w.heap.size + 1) (by simp)).alloc (.cells #[.int .i64 c.turns, .int .i64 c.shift, .int .i64 c.elastic, .int .i64 c.reach, .int .i64 c.spread] 38)).alloc (.cells #[.int .i64 0, .int .i64 0, .slice none 0 0, .slice none 0 0] 58))
    have BC := Lib.hid ((Blk.new' ((w.alloc (.cells #[.slice Ap lp.length cp] 22)).alloc (.cells #[.slice Aq lq.length cq] 22)) 38 #[.int .i64 c.turns, .int .i64 c.shift, .int .i64 c.elastic, .int .i64 c.reach, .int .i64 c.spread] (w.heap.size + 1 + 1) (by simp)).alloc (.cells #[.int .i64 0, .int .i64 0, .slice none 0 0, .slice none 0 0] 58))
    have BR := Lib.hid (Blk.new' (((w.alloc (.cells #[.slice Ap lp.length cp] 22)).alloc (.cells #[.slice Aq lq.length cq] 22)).alloc (.cells #[.int .i64 c.turns, .int .i64 c.shift, .int .i64 c.elastic, .int .i64 c.reach, .int .i64 c.spread] 38)) 58 #[.int .i64 0, .int .i64 0, .slice none 0 0, .slice none 0 0] (w.heap.size + 1 + 1 + 1) (by simp))
    have HE0 := Lib.hid (((((Ext.refl w).alloc (.cells #[.slice Ap lp.length cp] 22)).alloc (.cells #[.slice Aq lq.length cq] 22)).alloc (.cells #[.int .i64 c.turns, .int .i64 c.shift, .int .i64 c.elastic, .int .i64 c.reach, .int .i64 c.spread] 38)).alloc (.cells #[.int .i64 0, .int .i64 0, .slice none 0 0, .slice none 0 0] 58))
    generalize (((w.alloc (.cells #[.slice Ap lp.length cp] 22)).alloc (.cells #[.slice Aq lq.length cq] 22)).alloc (.cells #[.int .i64 c.turns, .int .i64 c.shift, .int .i64 c.elastic, .int .i64 c.reach, .int .i64 c.spread] 38)).alloc (.cells #[.int .i64 0, .int .i64 0, .slice none 0 0, .slice none 0 0] 58) = V at *
    have oP := Old.mk BP.out.lt
    have oQ := Old.mk BQ.out.lt
    have oC := Old.mk BC.out.lt
    have oR := Old.mk BR.out.lt
    have p0 : V.cell? ⟨w.heap.size, 0, none⟩ = some (.slice Ap lp.length cp) := BP.out.cell 0
    have q0 : V.cell? ⟨w.heap.size + 1, 0, none⟩ = some (.slice Aq lq.length cq) := BQ.out.cell 0
    have c0 : V.cell? ⟨w.heap.size + 1 + 1, 0, none⟩ = some (.int .i64 c.turns) := BC.out.cell 0
    have c1 : V.cell? ⟨w.heap.size + 1 + 1, 1, none⟩ = some (.int .i64 c.shift) := BC.out.cell 1
    have c2 : V.cell? ⟨w.heap.size + 1 + 1, 2, none⟩ = some (.int .i64 c.elastic) := BC.out.cell 2
    have c3 : V.cell? ⟨w.heap.size + 1 + 1, 3, none⟩ = some (.int .i64 c.reach) := BC.out.cell 3
    have c4 : V.cell? ⟨w.heap.size + 1 + 1, 4, none⟩ = some (.int .i64 c.spread) := BC.out.cell 4
    have r0 : V.cell? ⟨w.heap.size + 1 + 1 + 1, 0, none⟩ = some (.int .i64 0) := BR.out.cell 0
    have r1 : V.cell? ⟨w.heap.size + 1 + 1 + 1, 1, none⟩ = some (.int .i64 0) := BR.out.cell 1
    have r2 : V.cell? ⟨w.heap.size + 1 + 1 + 1, 2, none⟩ = some (.slice none 0 0) := BR.out.cell 2
    have r3 : V.cell? ⟨w.heap.size + 1 + 1 + 1, 3, none⟩ = some (.slice none 0 0) := BR.out.cell 3
    have fR := BR.out.frozen
    go_wp2_with fail
    refine Calls.ext (CA.out _ (HP.out.grow HE0.out) (HQ.out.grow HE0.out)) fun z1 => ?_
    go_wp2_with fail
    rw [Exit.noGoto_ret]
    have HS := Lib.hid ((((BR.out.ext z1).set_ 0 (.int .i64 0)).set_ 1 (.int .i64 0)).set_ 2 (.slice none 0 0) |>.set_ 3 (.slice none 0 0))
    have HEf : Hid (Ext w (((((ext V z1).setCell ⟨w.heap.size + 1 + 1 + 1, 0, none⟩ (.int .i64 0)).setCell ⟨w.heap.size + 1 + 1 + 1, 1, none⟩ (.int .i64 0)).setCell ⟨w.heap.size + 1 + 1 + 1, 2, none⟩ (.slice none 0 0)).setCell ⟨w.heap.size + 1 + 1 + 1, 3, none⟩ (.slice none 0 0))) := Lib.hid (Ext.setCell (Ext.setCell (Ext.setCell (Ext.setCell (HE0.out.ext z1) (by show w.heap.size ≤ w.heap.size + 1 + 1 + 1; omega) _) (by show w.heap.size ≤ w.heap.size + 1 + 1 + 1; omega) _) (by show w.heap.size ≤ w.heap.size + 1 + 1 + 1; omega) _) (by show w.heap.size ≤ w.heap.size + 1 + 1 + 1; omega) _)
    generalize ((((ext V z1).setCell ⟨w.heap.size + 1 + 1 + 1, 0, none⟩ (.int .i64 0)).setCell ⟨w.heap.size + 1 + 1 + 1, 1, none⟩ (.int .i64 0)).setCell ⟨w.heap.size + 1 + 1 + 1, 2, none⟩ (.slice none 0 0)).setCell ⟨w.heap.size + 1 + 1 + 1, 3, none⟩ (.slice none 0 0) = Wf at *
    have q0 : Wf.cell? ⟨w.heap.size + 1 + 1 + 1, 0, none⟩ = some (.int .i64 0) := HS.out.cell 0
    have q1 : Wf.cell? ⟨w.heap.size + 1 + 1 + 1, 1, none⟩ = some (.int .i64 0) := HS.out.cell 1
    have q2 : Wf.cell? ⟨w.heap.size + 1 + 1 + 1, 2, none⟩ = some (.slice none 0 0) := HS.out.cell 2
    have q3 : Wf.cell? ⟨w.heap.size + 1 + 1 + 1, 3, none⟩ = some (.slice none 0 0) := HS.out.cell 3
    exact bodyPost_ret (v := .tuple #[.agg #[.int .i64 0, .int .i64 0, .slice none 0 0, .slice none 0 0], .int .i64 x]) (by simp [results, Try.results32, go_sem, q0, q1, q2, q3]) rfl (HZ.out _ _ HEf.out)
  · rw [hn] at CW
    clear hn
    go_enter Try.func32, Try.ntmps32
    go_wp2_with fail
    go_step3
    have BP := Lib.hid ((((Blk.new w 22 #[.slice Ap lp.length cp]).alloc (.cells #[.slice Aq lq.length cq] 22)).alloc (.cells #[.int .i64 c.turns, .int .i64 c.shift, .int .i64 c.elastic, .int .i64 c.reach, .int .i64 c.spread] 38)).alloc (.cells #[.int .i64 0, .int .i64 0, .slice none 0 0, .slice none 0 0] 58))
    have BQ := Lib.hid (((Blk.new' (w.alloc (.cells #[.slice Ap lp.length cp] 22)) 22 #[.slice Aq lq.length cq] (w.heap.size + 1) (by simp)).alloc (.cells #[.int .i64 c.turns, .int .i64 c.shift, .int .i64 c.elastic, .int .i64 c.reach, .int .i64 c.spread] 38)).alloc (.cells #[.int .i64 0, .int .i64 0, .slice none 0 0, .slice none 0 0] 58))
    have BC := Lib.hid ((Blk.new' ((w.alloc (.cells #[.slice Ap lp.length cp] 22)).alloc (.cells #[.slice Aq lq.length cq] 22)) 38 #[.int .i64 c.turns, .int .i64 c.shift, .int .i64 c.elastic, .int .i64 c.reach, .int .i64 c.spread] (w.heap.size + 1 + 1) (by simp)).alloc (.cells #[.int .i64 0, .int .i64 0, .slice none 0 0, .slice none 0 0] 58))
    have BR := Lib.hid (Blk.new' (((w.alloc (.cells #[.slice Ap lp.length cp] 22)).alloc (.cells #[.slice Aq lq.length cq] 22)).alloc (.cells #[.int .i64 c.turns, .int .i64 c.shift, .int .i64 c.elastic, .int .i64 c.reach, .int .i64 c.spread] 38)) 58 #[.int .i64 0, .int .i64 0, .slice none 0 0, .slice none 0 0] (w.heap.size + 1 + 1 + 1) (by simp))
    have HE0 := Lib.hid (((((Ext.refl w).alloc (.cells #[.slice Ap lp.length cp] 22)).alloc (.cells #[.slice Aq lq.length cq] 22)).alloc (.cells #[.int .i64 c.turns, .int .i64 c.shift, .int .i64 c.elastic, .int .i64 c.reach, .int .i64 c.spread] 38)).alloc (.cells #[.int .i64 0, .int .i64 0, .slice none 0 0, .slice none 0 0] 58))
    generalize (((w.alloc (.cells #[.slice Ap lp.length cp] 22)).alloc (.cells #[.slice Aq lq.length cq] 22)).alloc (.cells #[.int .i64 c.turns, .int .i64 c.shift, .int .i64 c.elastic, .int .i64 c.reach, .int .i64 c.spread] 38)).alloc (.cells #[.int .i64 0, .int .i64 0, .slice none 0 0, .slice none 0 0] 58) = V at *
    have oP := Old.mk BP.out.lt
    have oQ := Old.mk BQ.out.lt
    have oC := Old.mk BC.out.lt
    have oR := Old.mk BR.out.lt
    have p0 : V.cell? ⟨w.heap.size, 0, none⟩ = some (.slice Ap lp.length cp) := BP.out.cell 0
    have q0 : V.cell? ⟨w.heap.size + 1, 0, none⟩ = some (.slice Aq lq.length cq) := BQ.out.cell 0
    have c0 : V.cell? ⟨w.heap.size + 1 + 1, 0, none⟩ = some (.int .i64 c.turns) := BC.out.cell 0
    have c1 : V.cell? ⟨w.heap.size + 1 + 1, 1, none⟩ = some (.int .i64 c.shift) := BC.out.cell 1
    have c2 : V.cell? ⟨w.heap.size + 1 + 1, 2, none⟩ = some (.int .i64 c.elastic) := BC.out.cell 2
    have c3 : V.cell? ⟨w.heap.size + 1 + 1, 3, none⟩ = some (.int .i64 c.reach) := BC.out.cell 3
    have c4 : V.cell? ⟨w.heap.size + 1 + 1, 4, none⟩ = some (.int .i64 c.spread) := BC.out.cell 4
    have r0 : V.cell? ⟨w.heap.size + 1 + 1 + 1, 0, none⟩ = some (.int .i64 0) := BR.out.cell 0
    have r1 : V.cell? ⟨w.heap.size + 1 + 1 + 1, 1, none⟩ = some (.int .i64 0) := BR.out.cell 1
    have r2 : V.cell? ⟨w.heap.size + 1 + 1 + 1, 2, none⟩ = some (.slice none 0 0) := BR.out.cell 2
    have r3 : V.cell? ⟨w.heap.size + 1 + 1 + 1, 3, none⟩ = some (.slice none 0 0) := BR.out.cell 3
    have fR := BR.out.frozen
    go_wp2_with fail
    refine Calls.ext (CA.out _ (HP.out.grow HE0.out) (HQ.out.grow HE0.out)) fun z1 => ?_
    go_wp2_with fail
    refine Calls.same (CW.out _ _ ((Blk.new (ext V z1) 3 #[.int .i64 n]).cell 0)) ?_
    go_wp2_with fail
    rw [Exit.noGoto_ret]
    have HS := Lib.hid (((((BR.out.ext z1).alloc (.cells #[.int .i64 n] 3)).set_ 0 (.int .i64 0)).set_ 1 (.int .i64 0)).set_ 2 (.slice none 0 0) |>.set_ 3 (.slice none 0 0))
    have HEf : Hid (Ext w ((((((ext V z1).alloc (.cells #[.int .i64 n] 3)).setCell ⟨w.heap.size + 1 + 1 + 1, 0, none⟩ (.int .i64 0)).setCell ⟨w.heap.size + 1 + 1 + 1, 1, none⟩ (.int .i64 0)).setCell ⟨w.heap.size + 1 + 1 + 1, 2, none⟩ (.slice none 0 0)).setCell ⟨w.heap.size + 1 + 1 + 1, 3, none⟩ (.slice none 0 0))) := Lib.hid (Ext.setCell (Ext.setCell (Ext.setCell (Ext.setCell ((HE0.out.ext z1).alloc _) (by show w.heap.size ≤ w.heap.size + 1 + 1 + 1; omega) _) (by show w.heap.size ≤ w.heap.size + 1 + 1 + 1; omega) _) (by show w.heap.size ≤ w.heap.size + 1 + 1 + 1; omega) _) (by show w.heap.size ≤ w.heap.size + 1 + 1 + 1; omega) _)
    generalize (((((ext V z1).alloc (.cells #[.int .i64 n] 3)).setCell ⟨w.heap.size + 1 + 1 + 1, 0, none⟩ (.int .i64 0)).setCell ⟨w.heap.size + 1 + 1 + 1, 1, none⟩ (.int .i64 0)).setCell ⟨w.heap.size + 1 + 1 + 1, 2, none⟩ (.slice none 0 0)).setCell ⟨w.heap.size + 1 + 1 + 1, 3, none⟩ (.slice none 0 0) = Wf at *
    have q0 : Wf.cell? ⟨w.heap.size + 1 + 1 + 1, 0, none⟩ = some (.int .i64 0) := HS.out.cell 0
    have q1 : Wf.cell? ⟨w.heap.size + 1 + 1 + 1, 1, none⟩ = some (.int .i64 0) := HS.out.cell 1
    have q2 : Wf.cell? ⟨w.heap.size + 1 + 1 + 1, 2, none⟩ = some (.slice none 0 0) := HS.out.cell 2
    have q3 : Wf.cell? ⟨w.heap.size + 1 + 1 + 1, 3, none⟩ = some (.slice none 0 0) := HS.out.cell 3
    exact bodyPost_ret (v := .tuple #[.agg #[.int .i64 0, .int .i64 0, .slice none 0 0, .slice none 0 0], .int .i64 2]) (by simp [results, Try.results32, go_sem, q0, q1, q2, q3]) rfl (HZ.out _ _ HEf.out)
theorem Best_any (c : Cl) (lp lq : List Mi) (n : Int) (hp : ∀ m ∈ lp, 0 ≤ m.dir) (hq : ∀ m ∈ lq, 0 ≤ m.dir) (hnp : lp.length ≤ 100) (hnq : lq.length ≤ 100) (Ap Aq : Option Addr) (cp cq : Nat) (w : World) (hP : Pts w Ap lp) (hQ : Pts w Aq lq) :
    Calls Try.prog 32 #[.slice Ap lp.length cp, .slice Aq lq.length cq, c.val, .int .i64 n] w (RetB (bestS c lp lq n) (bestE c lp lq n) w) := by
  by_cases h0 : askE c lp lq = 0
  · obtain ⟨a1, a2, hc⟩ := askE_ok h0
    obtain ⟨hpo, -⟩ := okP_ok a1 hp
    obtain ⟨hqo, -⟩ := okP_ok a2 hq
    cases hn : inB n 0 2000
    · have e1 : bestE c lp lq n = 2 := by unfold bestE; rw [if_pos h0, hn]; rfl
      have e2 : bestS c lp lq n = ⟨[], []⟩ := by unfold bestS; rw [e1]; rfl
      rw [e1, e2]
      exact best_err c lp lq n 0 h0 (.inr ⟨rfl, hn⟩) hnp hnq Ap Aq cp cq w hP hQ
    · have e1 : bestE c lp lq n = 0 := by unfold bestE; rw [if_pos h0, hn]; rfl
      have e2 : bestS c lp lq n = runS (bndK c lp lq) (trK c lp lq) n.toNat (startS (bndK c lp lq) c) := by unfold bestS; rw [if_pos e1]
      rw [e1, e2]
      exact best_good c hc lp lq n (inB_iff.1 hn) hpo hqo h0 hnp hnq Ap Aq cp cq w hP hQ
  · have e1 : bestE c lp lq n = askE c lp lq := by unfold bestE; rw [if_neg h0]
    have e2 : bestS c lp lq n = ⟨[], []⟩ := by unfold bestS; rw [e1, if_neg h0]
    obtain ⟨x, hx, hx2⟩ := ask_err h0
    have := best_err c lp lq n x hx (.inl hx2) hnp hnq Ap Aq cp cq w hP hQ
    rw [e1, e2, hx]
    have hx0 : (if x = 0 then 2 else x) = x := by rcases hx2 with rfl | rfl <;> rfl
    rw [hx0] at this
    exact this
end Go.Proofs.Ythejomcibobieaa
/- The examples' values; what a search returns is proved (plain). -/
namespace Go.Proofs.Ythejomcibobieaa
open Go.RowKit

def pA : List Mi := [⟨10, 20, 1, 0⟩, ⟨30, 40, 2, 3⟩]
def qA : List Mi := [⟨13, 21, 1, 0⟩, ⟨33, 40, 2, 3⟩]
def cA : Cl := ⟨0, 4, 1, 0, 0⟩
theorem ev_place : placeT ⟨48, 32, 1, 1⟩ ⟨-2, 0, 0⟩ (fun _ => 0) = .tuple #[.int .i64 43, .int .i64 21, .int .i64 0, .int .i64 0] := by kernel_rfl
theorem ev_score : scoreT ⟨0, 4, 0, 1, 0⟩ pA qA ⟨0, 3, 0⟩ (fun _ => 0) = .tuple #[.int .i64 2, .int .i64 0] := by kernel_rfl
theorem ev_try : tryT cA pA qA ⟨0, 3, 0⟩ = .tuple #[(At.val ⟨⟨0, 3, 0⟩, ⟨1, 0, -1, -1⟩, 2⟩), .int .i64 0] := by kernel_rfl
theorem ev_err : bestE cA pA qA 2000 = 0 := by kernel_rfl
theorem ev_err0 : bestE cA pA qA 0 = 0 := by kernel_rfl
theorem ev_best0 : scoreS (bestS cA pA qA 0) = 0 ∧ boundS (bestS cA pA qA 0) = 2 ∧ (bestS cA pA qA 0).left.length = 1 := ⟨by kernel_rfl, by kernel_rfl, by kernel_rfl⟩
theorem ev_best : scoreS (bestS cA pA qA 2000) = 2 ∧ boundS (bestS cA pA qA 2000) = 2 := ⟨by kernel_rfl, by kernel_rfl⟩
theorem best_ok {c : Cl} {lp lq : List Mi} {n : Int} (h : bestE c lp lq n = 0) : askE c lp lq = 0 ∧ 0 ≤ n ∧ n ≤ 2000 ∧ bestS c lp lq n = runS (bndK c lp lq) (trK c lp lq) n.toNat (startS (bndK c lp lq) c) := by
  have h0 := h
  unfold bestE at h
  split at h
  · rename_i h1
    split at h
    · rename_i h2
      have := inB_iff.1 h2
      exact ⟨h1, this.1, this.2, by unfold bestS; rw [if_pos h0]⟩
    · cases h
  · rename_i h1
    exact absurd h h1
/-- of a search without an error -/
theorem best_inv {c : Cl} {lp lq : List Mi} {n : Int} (hp : ∀ m ∈ lp, 0 ≤ m.dir) (h : bestE c lp lq n = 0) : c.ok ∧ (∀ m ∈ lp, m.ok) ∧ Inv c (bndK c lp lq) (trK c lp lq) (bestS c lp lq n) ∧ meas (bestS c lp lq n).left ≤ 1127 ∧ (bestS c lp lq n).att.length ≤ 2000 := by
  obtain ⟨h1, h2, h3, h4⟩ := best_ok h
  obtain ⟨a1, -, hc⟩ := askE_ok h1
  obtain ⟨hpo, -⟩ := okP_ok a1 hp
  have P := prom hc lp lq hpo
  have key : ∀ (n : Nat) (s : St), Inv c (bndK c lp lq) (trK c lp lq) s → meas (runS (bndK c lp lq) (trK c lp lq) n s).left ≤ meas s.left ∧ (runS (bndK c lp lq) (trK c lp lq) n s).att.length ≤ s.att.length + n := by
    intro n
    induction n with
    | zero => intro s _; exact ⟨Nat.le_refl _, Nat.le_refl _⟩
    | succ n ih =>
      intro s hs
      unfold runS
      cases hst : stopS s
      · simp only [Bool.false_eq_true, if_false]
        obtain ⟨i1, i2⟩ := inv_step P hs (stop_no hst)
        obtain ⟨j1, j2⟩ := ih _ i1
        refine ⟨by omega, ?_⟩
        have : (stepS (bndK c lp lq) (trK c lp lq) s).att.length ≤ s.att.length + 1 := by
          unfold stepS
          split
          · omega
          · split
            · simp
            · dsimp only; omega
        omega
      · simp only [if_true]
        exact ⟨Nat.le_refl _, by omega⟩
  obtain ⟨k1, k2⟩ := key n.toNat _ (inv_start hc)
  have hm := meas_start (bnd := bndK c lp lq) hc
  rw [h4]
  refine ⟨hc, hpo, (run_inv P n.toNat _ (inv_start hc)).1, by omega, ?_⟩
  have : (startS (bndK c lp lq) c).att.length = 0 := rfl
  omega
theorem left_len {c : Cl} {bnd : Bk → Int} {tr : Mv → At} {s : St} (h : Inv c bnd tr s) : s.left.length ≤ meas s.left := meas_len fun r hr => (h.left r hr).1
theorem inv_prov {c : Cl} {bnd : Bk → Int} {tr : Mv → At} {s : St} (h : Inv c bnd tr s) : provB c bnd tr s (scoreS s) (boundS s) = true := by
  rw [provB_iff]
  refine ⟨fun a ha => ?_, fun r hr => ?_, fun v hv => ?_, rfl, rfl⟩
  · obtain ⟨h1, h2⟩ := h.att a ha
    unfold okA
    rw [h1, decide_eq_true h2]
    rfl
  · obtain ⟨h1, h2⟩ := h.left r hr
    unfold okR
    rw [h1, decide_eq_true h2]
    rfl
  · rw [h.cov v, if_pos hv]
theorem wf_i {n : Int} (h : -1000 ≤ n ∧ n ≤ 1000) : wfI n := WalkArith.wf_i64 (by omega)
theorem scrK_le (c : Cl) (lp lq : List Mi) (v : Mv) (b : Nat → Int) : scrK c lp lq v b ≤ lp.length ∧ scrK c lp lq v b ≤ lq.length := by
  have h := mmk_max (nbF lq.length (mayL c lp lq v b)) lp.length
  have h1 := isMax_left h
  have h2 := isMax_right (n := lq.length) (fun i j _ hj => (nbF_lt hj).1) h
  unfold scrK
  omega
theorem trK_wf {c : Cl} (hc : c.ok) {lp lq : List Mi} (hnp : lp.length ≤ 100) {v : Mv} (hv : isMove c v = true) : (trK c lp lq v).wf := by
  obtain ⟨m1, m2, m3⟩ := move_in hc hv
  have hb := trK_bend hc lp lq v
  have he := hc.elastic
  obtain ⟨-, l1, l2, -, hs, -⟩ := trK_best hc lp lq v
  have h1 := scrK_le c lp lq v (trK c lp lq v).bd.f
  have h2 := scrK_nonneg c lp lq v (trK c lp lq v).bd.f
  have hmv := trK_mv c lp lq v
  have b0 : -1 ≤ (trK c lp lq v).bd.a ∧ (trK c lp lq v).bd.a ≤ 1 := by have := isBend_f hb 0; show -1 ≤ (trK c lp lq v).bd.f 0 ∧ (trK c lp lq v).bd.f 0 ≤ 1; omega
  have b1 : -1 ≤ (trK c lp lq v).bd.b ∧ (trK c lp lq v).bd.b ≤ 1 := by have := isBend_f hb 1; show -1 ≤ (trK c lp lq v).bd.f 1 ∧ (trK c lp lq v).bd.f 1 ≤ 1; omega
  have b2 : -1 ≤ (trK c lp lq v).bd.c ∧ (trK c lp lq v).bd.c ≤ 1 := by have := isBend_f hb 2; show -1 ≤ (trK c lp lq v).bd.f 2 ∧ (trK c lp lq v).bd.f 2 ≤ 1; omega
  have b3 : -1 ≤ (trK c lp lq v).bd.d ∧ (trK c lp lq v).bd.d ≤ 1 := by have := isBend_f hb 3; show -1 ≤ (trK c lp lq v).bd.f 3 ∧ (trK c lp lq v).bd.f 3 ≤ 1; omega
  exact ⟨wf_i (by rw [hmv]; omega), wf_i (by rw [hmv]; omega), wf_i (by rw [hmv]; omega), wf_i (by omega), wf_i (by omega), wf_i (by omega), wf_i (by omega), wf_i (by rw [hs]; omega)⟩
theorem inv_wf {c : Cl} (hc : c.ok) {lp lq : List Mi} (hnp : lp.length ≤ 100) {s : St} (h : Inv c (bndK c lp lq) (trK c lp lq) s) : ∀ x ∈ s.att, x.wf := fun x hx => by
  obtain ⟨h1, h2⟩ := h.att x hx
  rw [h2]
  exact trK_wf hc hnp h1
end Go.Proofs.Ythejomcibobieaa
/- Some of the chapter's examples, by the walk (alive, 35). -/
namespace Go.Proofs.Ythejomcibobieaa
open Go.RowKit

theorem point_any (x y k d : Int) (w : World) : Calls Try.prog 34 #[.int .i64 x, .int .i64 y, .int .u8 k, .int .u8 d] w fun e w' => e = .returned (.agg #[.int .i64 x, .int .i64 y, .int .u8 k, .int .u8 d]) ∧ Ext w w' := by
  go_enter Try.func34, Try.ntmps34
  go_wp2_with fail
  have HE := Lib.hid ((Ext.refl w).alloc (.cells #[.int .i64 x, .int .i64 y, .int .u8 k, .int .u8 d] 24))
  exact bodyPost_ret (v := .agg #[.int .i64 x, .int .i64 y, .int .u8 k, .int .u8 d]) (by simp [results, Try.results34, go_sem]) rfl ⟨rfl, HE.out⟩
theorem at_any (x y d : Int) (w : World) : Calls Try.prog 36 #[.int .i64 x, .int .i64 y, .int .i64 d, .int .i64 0, .int .i64 x, .int .i64 y, .int .i64 d] w fun e w' => e = .returned (.bool true) ∧ Ext w w' := by
  have h1 : (x == x) = true := by simp
  have h2 : (y == y) = true := by simp
  have h3 : (d == d) = true := by simp
  go_enter Try.func36, Try.ntmps36
  go_wp2_with fail
  go_ret
  exact ⟨rfl, Ext.refl w⟩
theorem pts_blk {w : World} {g : Nat} {a b : Mi} (h : Blk w g 24 #[.int .i64 a.x, .int .i64 a.y, .int .u8 a.kind, .int .u8 a.dir, .int .i64 b.x, .int .i64 b.y, .int .u8 b.kind, .int .u8 b.dir]) : Pts w (some ⟨g, 0, none⟩) [a, b] := by
  refine .inr ⟨g, 0, rfl, h.lt, fun k m hm => ?_⟩
  match k, hm with
  | 0, hm =>
    injection hm with hm
    subst hm
    exact ⟨h.cell 0, h.cell 1, h.cell 2, h.cell 3⟩
  | 1, hm =>
    injection hm with hm
    subst hm
    exact ⟨h.cell 4, h.cell 5, h.cell 6, h.cell 7⟩
theorem two_any' (w : World) : Calls Try.prog 37 #[] w fun e w' => ∃ A1 A2, e = .returned (.tuple #[.slice A1 2 2, .slice A2 2 2]) ∧ Pts w' A1 pA ∧ Pts w' A2 qA ∧ Ext w w' := by
  have C1 := Lib.hid (fun w => point_any 10 20 1 0 w)
  have C2 := Lib.hid (fun w => point_any 30 40 2 3 w)
  have C3 := Lib.hid (fun w => point_any 13 21 1 0 w)
  have C4 := Lib.hid (fun w => point_any 33 40 2 3 w)
  go_enter Try.func37, Try.ntmps37
  go_wp2_with fail
  refine Calls.ext (C1.out _) fun z1 => ?_
  go_wp2_with fail
  refine Calls.ext (C2.out _) fun z2 => ?_
  go_wp2_with fail
  refine Calls.ext (C3.out _) fun z3 => ?_
  go_wp2_with fail
  refine Calls.ext (C4.out _) fun z4 => ?_
  go_wp2_with fail
  have hE1 := ((Ext.refl w).ext z1).ext z2
  have B1 := ((((Blk.new (ext (ext w z1) z2) 24 #[.int .i64 10, .int .i64 20, .int .u8 1, .int .u8 0, .int .i64 30, .int .i64 40, .int .u8 2, .int .u8 3]).ext z3).ext z4).alloc (.cells #[.int .i64 13, .int .i64 21, .int .u8 1, .int .u8 0, .int .i64 33, .int .i64 40, .int .u8 2, .int .u8 3] 24))
  have B2 := Blk.new (ext (ext ((ext (ext w z1) z2).alloc (.cells #[.int .i64 10, .int .i64 20, .int .u8 1, .int .u8 0, .int .i64 30, .int .i64 40, .int .u8 2, .int .u8 3] 24)) z3) z4) 24 #[.int .i64 13, .int .i64 21, .int .u8 1, .int .u8 0, .int .i64 33, .int .i64 40, .int .u8 2, .int .u8 3]
  go_ret2
  exact ⟨_, _, rfl, pts_blk (a := ⟨10, 20, 1, 0⟩) (b := ⟨30, 40, 2, 3⟩) B1, pts_blk (a := ⟨13, 21, 1, 0⟩) (b := ⟨33, 40, 2, 3⟩) B2, ((((hE1.alloc _).ext z3).ext z4).alloc _)⟩
/-- the call of two, for the walks -/
theorem call_two {w : World} {R : Ending → World → Prop} (hR : ∀ A1 A2 z, Pts (ext w z) A1 pA → Pts (ext w z) A2 qA → R (.returned (.tuple #[.slice A1 2 2, .slice A2 2 2])) (ext w z)) : Calls Try.prog 37 #[] w R :=
  (two_any' w).mono fun e w' ⟨A1, A2, he, h1, h2, hw⟩ => by
    subst he
    have := hR A1 A2 w'
    rw [ext_of hw] at this
    exact this h1 h2
/-- the call of Best, for the walks -/
theorem call_best {P : Program} {f : FuncId} {args : Array Value} {s : St} {x : Int} {w : World} {R : Ending → World → Prop} (h : Calls P f args w (RetB s x w)) (hR : ∀ A1 c1 A2 c2 z, Ats (ext w z) A1 s.att → Rss (ext w z) A2 s.left → R (.returned (.tuple #[.agg #[.int .i64 (scoreS s), .int .i64 (boundS s), .slice A1 s.att.length c1, .slice A2 s.left.length c2], .int .i64 x])) (ext w z)) : Calls P f args w R :=
  h.mono fun e w' ⟨A1, c1, A2, c2, he, h1, h2, hw⟩ => by
    subst he
    have := hR A1 c1 A2 c2 w'
    rw [ext_of hw] at this
    exact this h1 h2
theorem pA_dir : ∀ m ∈ pA, 0 ≤ m.dir := by decide
theorem qA_dir : ∀ m ∈ qA, 0 ≤ m.dir := by decide
set_option maxRecDepth 100000 in
set_option maxHeartbeats 8000000 in
theorem alive_any (w : World) : Calls Try.prog 35 #[] w fun e w' => e = .returned (.bool true) ∧ Ext w w' := by
  have C1 := Lib.hid (fun w => point_any 48 32 1 1 w)
  have C2 := Lib.hid (fun w => ev_place ▸ Place_any ⟨48, 32, 1, 1⟩ ⟨-2, 0, 0⟩ (fun _ => 0) (by decide) w)
  have C3 := Lib.hid (fun A A' n n' w h1 h2 => ev_score ▸ Score_any ⟨0, 4, 0, 1, 0⟩ pA qA ⟨0, 3, 0⟩ (fun _ => 0) pA_dir qA_dir (by decide) (by decide) A A' n n' w h1 h2)
  have C4 := Lib.hid (fun A A' n n' w h1 h2 => ev_try ▸ Try_any cA pA qA ⟨0, 3, 0⟩ pA_dir qA_dir (by decide) (by decide) A A' n n' w h1 h2)
  have C5 := Lib.hid (fun A A' n n' w h1 h2 => ev_err ▸ Best_any cA pA qA 2000 pA_dir qA_dir (by decide) (by decide) A A' n n' w h1 h2)
  have C6 := Lib.hid (fun A A' n n' w h1 h2 => ev_err0 ▸ Best_any cA pA qA 0 pA_dir qA_dir (by decide) (by decide) A A' n n' w h1 h2)
  have C7 := Lib.hid (fun w => at_any 43 21 0 w)
  obtain ⟨hc, hpo, hI, hm, ha⟩ := best_inv pA_dir ev_err
  have hl := Nat.le_trans (left_len hI) hm
  have HQ : Hid (chkE cA pA qA (bestS cA pA qA 2000) (scoreS (bestS cA pA qA 2000)) (boundS (bestS cA pA qA 2000)) = 0) := Lib.hid (by
    unfold chkE
    rw [if_pos (best_ok ev_err).1, inv_prov hI]
    rfl)
  have C8 := Lib.hid (fun A A' n n' w A1 A2 c1 c2 h1 h2 h3 h4 => HQ.out ▸ CheckBest_any cA pA qA pA_dir qA_dir (by decide) (by decide) A A' n n' (bestS cA pA qA 2000).att (bestS cA pA qA 2000).left (scoreS (bestS cA pA qA 2000)) (boundS (bestS cA pA qA 2000)) A1 A2 c1 c2 ha (by omega) (inv_wf hc (by decide) hI) w h1 h2 h3 h4)
  obtain ⟨e1, e2, e3⟩ := ev_best0
  obtain ⟨e4, e5⟩ := ev_best
  have E1 := Lib.hid e1
  have E2 := Lib.hid e2
  have E3 := Lib.hid e3
  have E4 := Lib.hid e4
  have E5 := Lib.hid e5
  clear e1 e2 e3 e4 e5 HQ hc hpo hI hm ha hl
  generalize bestS cA pA qA 2000 = s1 at *
  generalize bestS cA pA qA 0 = s0 at *
  go_enter Try.func35, Try.ntmps35
  go_wp2_with fail
  refine call_two fun A1 A2 z1 hP hQ => ?_
  have HP := Lib.hid hP
  have HQ := Lib.hid hQ
  clear hP hQ
  go_wp2_with fail
  refine Calls.ext (C1.out _) fun z2 => ?_
  go_wp2_with fail
  refine Calls.ext (C2.out _) fun z3 => ?_
  go_wp2_with fail
  have hE3 := ((Ext.refl (ext w z1)).ext z2).ext z3
  refine Calls.ext (C3.out _ _ _ _ _ (HP.out.grow hE3) (HQ.out.grow hE3)) fun z4 => ?_
  go_wp2_with fail
  have hE4 := (hE3.ext z4).alloc (.cells #[.int .i64 0, .int .i64 4, .int .i64 1, .int .i64 0, .int .i64 0] 38)
  refine Calls.ext (C4.out _ _ _ _ _ (HP.out.grow hE4) (HQ.out.grow hE4)) fun z5 => ?_
  go_wp2_with fail
  have hE5 := (hE4.ext z5).alloc (.cells #[.int .i64 0, .int .i64 3, .int .i64 0, .int .i64 1, .int .i64 0, .int .i64 (-1), .int .i64 (-1), .int .i64 2] 46)
  refine call_best (C5.out _ _ _ _ _ (HP.out.grow hE5) (HQ.out.grow hE5)) fun B1 n1 B2 n2 z6 hA hL => ?_
  rw [E4.out, E5.out]
  have HA := Lib.hid hA
  have HL := Lib.hid hL
  clear hA hL
  go_wp2_with fail
  have hE6 := (hE5.ext z6).alloc (.cells #[.int .i64 2, .int .i64 2, .slice B1 s1.att.length n1, .slice B2 s1.left.length n2] 58)
  refine call_best (C6.out _ _ _ _ _ (HP.out.grow hE6) (HQ.out.grow hE6)) fun B3 n3 B4 n4 z7 hA2 hL2 => ?_
  clear hA2 hL2
  rw [E1.out, E2.out, E3.out]
  have hE7 := (hE6.ext z7).alloc (.cells #[.int .i64 0, .int .i64 2, .slice B3 s0.att.length n3, .slice B4 1 n4] 58)
  have HAL := Lib.hid (fun z => (⟨HA.out.grow (((Ext.refl _).alloc (.cells #[.int .i64 2, .int .i64 2, .slice B1 s1.att.length n1, .slice B2 s1.left.length n2] 58)).ext z), HL.out.grow (((Ext.refl _).alloc (.cells #[.int .i64 2, .int .i64 2, .slice B1 s1.att.length n1, .slice B2 s1.left.length n2] 58)).ext z)⟩ : Ats (ext ((ext ((ext ((ext (ext (ext (ext w z1) z2) z3) z4).alloc (.cells #[.int .i64 0, .int .i64 4, .int .i64 1, .int .i64 0, .int .i64 0] 38)) z5).alloc (.cells #[.int .i64 0, .int .i64 3, .int .i64 0, .int .i64 1, .int .i64 0, .int .i64 (-1), .int .i64 (-1), .int .i64 2] 46)) z6).alloc (.cells #[.int .i64 2, .int .i64 2, .slice B1 s1.att.length n1, .slice B2 s1.left.length n2] 58)) z) B1 s1.att ∧ Rss (ext ((ext ((ext ((ext (ext (ext (ext w z1) z2) z3) z4).alloc (.cells #[.int .i64 0, .int .i64 4, .int .i64 1, .int .i64 0, .int .i64 0] 38)) z5).alloc (.cells #[.int .i64 0, .int .i64 3, .int .i64 0, .int .i64 1, .int .i64 0, .int .i64 (-1), .int .i64 (-1), .int .i64 2] 46)) z6).alloc (.cells #[.int .i64 2, .int .i64 2, .slice B1 s1.att.length n1, .slice B2 s1.left.length n2] 58)) z) B2 s1.left))
  have hq28 : ∀ w, (Op.equalIn 9999 28 (.agg #[.int .i64 1, .int .i64 0, .int .i64 (-1), .int .i64 (-1)]) (.agg #[.int .i64 1, .int .i64 0, .int .i64 (-1), .int .i64 (-1)])).run Try.prog w = .ok true w := eq28 ⟨1, 0, -1, -1⟩ ⟨1, 0, -1, -1⟩
  rw [E4.out, E5.out] at C8
  go_wp2_with fail
  refine Calls.ext (C7.out _) fun z8 => ?_
  go_wp2_with fail
  have hE8 := hE7.ext z8
  have hX := ((Ext.refl (ext ((ext ((ext ((ext (ext (ext (ext w z1) z2) z3) z4).alloc (.cells #[.int .i64 0, .int .i64 4, .int .i64 1, .int .i64 0, .int .i64 0] 38)) z5).alloc (.cells #[.int .i64 0, .int .i64 3, .int .i64 0, .int .i64 1, .int .i64 0, .int .i64 (-1), .int .i64 (-1), .int .i64 2] 46)) z6).alloc (.cells #[.int .i64 2, .int .i64 2, .slice B1 s1.att.length n1, .slice B2 s1.left.length n2] 58)) z7)).alloc (.cells #[.int .i64 0, .int .i64 2, .slice B3 s0.att.length n3, .slice B4 1 n4] 58)).ext z8
  refine Calls.ext (C8.out _ _ _ _ _ _ _ _ _ (HP.out.grow hE8) (HQ.out.grow hE8) ((HAL.out z7).1.grow hX) ((HAL.out z7).2.grow hX)) fun z9 => ?_
  go_wp2_with fail
  go_ret
  exact ⟨rfl, ((Ext.refl w).ext z1).trans (hE8.ext z9)⟩
end Go.Proofs.Ythejomcibobieaa
