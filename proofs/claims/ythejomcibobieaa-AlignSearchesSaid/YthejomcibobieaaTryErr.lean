/- Attempts with their errors (Try 23, 24). -/
import Derived.Test.YthejomcibobieaaRefTry
namespace Go.Proofs.Ythejomcibobieaa
open Go.RowKit

def trK (c : Cl) (lp lq : List Mi) (v : Mv) : At := tryL (fun b => scrK c lp lq v b.f) v (growL c.elastic.toNat 4 0 bd0)
def at0 : At := ⟨⟨0, 0, 0⟩, bd0, 0⟩
def tryA (c : Cl) (lp lq : List Mi) (v : Mv) : At := if askE c lp lq = 0 then (if isMove c v then trK c lp lq v else at0) else at0
def tryE (c : Cl) (lp lq : List Mi) (v : Mv) : Int := if askE c lp lq = 0 then (if isMove c v then 0 else 2) else askE c lp lq
def tryT (c : Cl) (lp lq : List Mi) (v : Mv) : Value := .tuple #[(tryA c lp lq v).val, .int .i64 (tryE c lp lq v)]
theorem store_zero {W : World} {g : Nat} (h : Blk W g 46 #[.int .i64 0, .int .i64 0, .int .i64 0, .int .i64 0, .int .i64 0, .int .i64 0, .int .i64 0, .int .i64 0]) : Blk ((((((((W.setCell ⟨g, 0, none⟩ (.int .i64 0)).setCell ⟨g, 1, none⟩ (.int .i64 0)).setCell ⟨g, 2, none⟩ (.int .i64 0)).setCell ⟨g, 3, none⟩ (.int .i64 0)).setCell ⟨g, 4, none⟩ (.int .i64 0)).setCell ⟨g, 5, none⟩ (.int .i64 0)).setCell ⟨g, 6, none⟩ (.int .i64 0)).setCell ⟨g, 7, none⟩ (.int .i64 0)) g 46 #[.int .i64 0, .int .i64 0, .int .i64 0, .int .i64 0, .int .i64 0, .int .i64 0, .int .i64 0, .int .i64 0] := by
  have h8 := ((((((((h.set_ 0 (.int .i64 0)).set_ 1 (.int .i64 0)).set_ 2 (.int .i64 0)).set_ 3 (.int .i64 0)).set_ 4 (.int .i64 0)).set_ 5 (.int .i64 0)).set_ 6 (.int .i64 0)).set_ 7 (.int .i64 0))
  simp only [List.setIfInBounds_toArray, List.set_cons_zero, List.set_cons_succ] at h8
  exact h8
theorem attV {W : World} {g : Nat} {x : At} (h : Blk W g 46 x.cells) : W.cell? ⟨g, 0, none⟩ = some (.int .i64 x.mv.turn) ∧ W.cell? ⟨g, 1, none⟩ = some (.int .i64 x.mv.dx) ∧ W.cell? ⟨g, 2, none⟩ = some (.int .i64 x.mv.dy) ∧ W.cell? ⟨g, 3, none⟩ = some (.int .i64 x.bd.a) ∧ W.cell? ⟨g, 4, none⟩ = some (.int .i64 x.bd.b) ∧ W.cell? ⟨g, 5, none⟩ = some (.int .i64 x.bd.c) ∧ W.cell? ⟨g, 6, none⟩ = some (.int .i64 x.bd.d) ∧ W.cell? ⟨g, 7, none⟩ = some (.int .i64 x.score) := ⟨h.cell 0, h.cell 1, h.cell 2, h.cell 3, h.cell 4, h.cell 5, h.cell 6, h.cell 7⟩
set_option maxRecDepth 100000 in
set_option maxHeartbeats 4000000 in
theorem Try_any (c : Cl) (lp lq : List Mi) (v : Mv) (hp : ∀ m ∈ lp, 0 ≤ m.dir) (hq : ∀ m ∈ lq, 0 ≤ m.dir) (hnp : lp.length ≤ 100) (hnq : lq.length ≤ 100) (Ap Aq : Option Addr) (cp cq : Nat) (w : World) (hP : Pts w Ap lp) (hQ : Pts w Aq lq) :
    Calls Try.prog 23 #[.slice Ap lp.length cp, .slice Aq lq.length cq, c.val, v.val] w fun e w' => e = .returned (tryT c lp lq v) ∧ Ext w w' := by
  have CA := Lib.hid (fun w h1 h2 => check2_any c lp lq hnp hnq Ap Aq cp cq w h1 h2)
  have HP := Lib.hid hP
  have HQ := Lib.hid hQ
  clear hP hQ
  by_cases h0 : askE c lp lq = 0
  · obtain ⟨a1, a2, hc⟩ := askE_ok h0
    obtain ⟨hpo, -⟩ := okP_ok a1 hp
    obtain ⟨hqo, -⟩ := okP_ok a2 hq
    clear a1 a2
    rw [h0] at CA
    have CM := Lib.hid (fun w => move_any c v hc w)
    cases h1 : isMove c v
    · rw [h1] at CM
      have HV := Lib.hid (show tryT c lp lq v = .tuple #[.agg #[.int .i64 0, .int .i64 0, .int .i64 0, .int .i64 0, .int .i64 0, .int .i64 0, .int .i64 0, .int .i64 0], .int .i64 2] from by unfold tryT tryA tryE; rw [if_pos h0, if_pos h0, h1]; rfl)
      clear h0
      go_enter Try.func23, Try.ntmps23
      go_wp2_with fail
      have hE0 := Lib.hid ((((Ext.refl w).alloc (.cells #[.int .i64 c.turns, .int .i64 c.shift, .int .i64 c.elastic, .int .i64 c.reach, .int .i64 c.spread] 38)).alloc (.cells #[.int .i64 v.turn, .int .i64 v.dx, .int .i64 v.dy] 26)).alloc (.cells #[.int .i64 0, .int .i64 0, .int .i64 0, .int .i64 0, .int .i64 0, .int .i64 0, .int .i64 0, .int .i64 0] 46))
      have hC0 := Lib.hid (((Blk.new w 38 #[.int .i64 c.turns, .int .i64 c.shift, .int .i64 c.elastic, .int .i64 c.reach, .int .i64 c.spread]).alloc (.cells #[.int .i64 v.turn, .int .i64 v.dx, .int .i64 v.dy] 26)).alloc (.cells #[.int .i64 0, .int .i64 0, .int .i64 0, .int .i64 0, .int .i64 0, .int .i64 0, .int .i64 0, .int .i64 0] 46))
      have hM0 := Lib.hid ((Blk.new' (w.alloc (.cells #[.int .i64 c.turns, .int .i64 c.shift, .int .i64 c.elastic, .int .i64 c.reach, .int .i64 c.spread] 38)) 26 #[.int .i64 v.turn, .int .i64 v.dx, .int .i64 v.dy] (w.heap.size + 1) (by simp)).alloc (.cells #[.int .i64 0, .int .i64 0, .int .i64 0, .int .i64 0, .int .i64 0, .int .i64 0, .int .i64 0, .int .i64 0] 46))
      have hR0 := Lib.hid (Blk.new' ((w.alloc (.cells #[.int .i64 c.turns, .int .i64 c.shift, .int .i64 c.elastic, .int .i64 c.reach, .int .i64 c.spread] 38)).alloc (.cells #[.int .i64 v.turn, .int .i64 v.dx, .int .i64 v.dy] 26)) 46 #[.int .i64 0, .int .i64 0, .int .i64 0, .int .i64 0, .int .i64 0, .int .i64 0, .int .i64 0, .int .i64 0] (w.heap.size + 1 + 1) (by simp))
      generalize ((w.alloc (.cells #[.int .i64 c.turns, .int .i64 c.shift, .int .i64 c.elastic, .int .i64 c.reach, .int .i64 c.spread] 38)).alloc (.cells #[.int .i64 v.turn, .int .i64 v.dx, .int .i64 v.dy] 26)).alloc (.cells #[.int .i64 0, .int .i64 0, .int .i64 0, .int .i64 0, .int .i64 0, .int .i64 0, .int .i64 0, .int .i64 0] 46) = V at *
      have oC := Old.mk hC0.out.lt
      have oM := Old.mk hM0.out.lt
      have oR := Old.mk hR0.out.lt
      have c0 : V.cell? ⟨w.heap.size, 0, none⟩ = some (.int .i64 c.turns) := hC0.out.cell 0
      have c1 : V.cell? ⟨w.heap.size, 1, none⟩ = some (.int .i64 c.shift) := hC0.out.cell 1
      have c2 : V.cell? ⟨w.heap.size, 2, none⟩ = some (.int .i64 c.elastic) := hC0.out.cell 2
      have c3 : V.cell? ⟨w.heap.size, 3, none⟩ = some (.int .i64 c.reach) := hC0.out.cell 3
      have c4 : V.cell? ⟨w.heap.size, 4, none⟩ = some (.int .i64 c.spread) := hC0.out.cell 4
      have v0 : V.cell? ⟨w.heap.size + 1, 0, none⟩ = some (.int .i64 v.turn) := hM0.out.cell 0
      have v1 : V.cell? ⟨w.heap.size + 1, 1, none⟩ = some (.int .i64 v.dx) := hM0.out.cell 1
      have v2 : V.cell? ⟨w.heap.size + 1, 2, none⟩ = some (.int .i64 v.dy) := hM0.out.cell 2
      have z0 : V.cell? ⟨w.heap.size + 1 + 1, 0, none⟩ = some (.int .i64 0) := hR0.out.cell 0
      have z1 : V.cell? ⟨w.heap.size + 1 + 1, 1, none⟩ = some (.int .i64 0) := hR0.out.cell 1
      have z2 : V.cell? ⟨w.heap.size + 1 + 1, 2, none⟩ = some (.int .i64 0) := hR0.out.cell 2
      have z3 : V.cell? ⟨w.heap.size + 1 + 1, 3, none⟩ = some (.int .i64 0) := hR0.out.cell 3
      have z4 : V.cell? ⟨w.heap.size + 1 + 1, 4, none⟩ = some (.int .i64 0) := hR0.out.cell 4
      have z5 : V.cell? ⟨w.heap.size + 1 + 1, 5, none⟩ = some (.int .i64 0) := hR0.out.cell 5
      have z6 : V.cell? ⟨w.heap.size + 1 + 1, 6, none⟩ = some (.int .i64 0) := hR0.out.cell 6
      have z7 : V.cell? ⟨w.heap.size + 1 + 1, 7, none⟩ = some (.int .i64 0) := hR0.out.cell 7
      have zf := hR0.out.frozen
      refine Calls.ext (CA.out _ (HP.out.grow hE0.out) (HQ.out.grow hE0.out)) fun z1 => ?_
      go_wp2_with fail
      refine Calls.ext (CM.out _) fun z2 => ?_
      go_wp2_with fail
      have HS := Lib.hid (store_zero ((hR0.out.ext z1).ext z2))
      have HEf : Hid (Ext w (((((((((ext (ext V z1) z2).setCell ⟨w.heap.size + 1 + 1, 0, none⟩ (.int .i64 0)).setCell ⟨w.heap.size + 1 + 1, 1, none⟩ (.int .i64 0)).setCell ⟨w.heap.size + 1 + 1, 2, none⟩ (.int .i64 0)).setCell ⟨w.heap.size + 1 + 1, 3, none⟩ (.int .i64 0)).setCell ⟨w.heap.size + 1 + 1, 4, none⟩ (.int .i64 0)).setCell ⟨w.heap.size + 1 + 1, 5, none⟩ (.int .i64 0)).setCell ⟨w.heap.size + 1 + 1, 6, none⟩ (.int .i64 0)).setCell ⟨w.heap.size + 1 + 1, 7, none⟩ (.int .i64 0))) := Lib.hid (Ext.setCell (Ext.setCell (Ext.setCell (Ext.setCell (Ext.setCell (Ext.setCell (Ext.setCell (Ext.setCell ((hE0.out.ext z1).ext z2) (p := ⟨w.heap.size + 1 + 1, 0, none⟩) (by show w.heap.size ≤ w.heap.size + 1 + 1; omega) (.int .i64 0)) (p := ⟨w.heap.size + 1 + 1, 1, none⟩) (by show w.heap.size ≤ w.heap.size + 1 + 1; omega) (.int .i64 0)) (p := ⟨w.heap.size + 1 + 1, 2, none⟩) (by show w.heap.size ≤ w.heap.size + 1 + 1; omega) (.int .i64 0)) (p := ⟨w.heap.size + 1 + 1, 3, none⟩) (by show w.heap.size ≤ w.heap.size + 1 + 1; omega) (.int .i64 0)) (p := ⟨w.heap.size + 1 + 1, 4, none⟩) (by show w.heap.size ≤ w.heap.size + 1 + 1; omega) (.int .i64 0)) (p := ⟨w.heap.size + 1 + 1, 5, none⟩) (by show w.heap.size ≤ w.heap.size + 1 + 1; omega) (.int .i64 0)) (p := ⟨w.heap.size + 1 + 1, 6, none⟩) (by show w.heap.size ≤ w.heap.size + 1 + 1; omega) (.int .i64 0)) (p := ⟨w.heap.size + 1 + 1, 7, none⟩) (by show w.heap.size ≤ w.heap.size + 1 + 1; omega) (.int .i64 0))
      generalize (((((((((ext (ext V z1) z2).setCell ⟨w.heap.size + 1 + 1, 0, none⟩ (.int .i64 0)).setCell ⟨w.heap.size + 1 + 1, 1, none⟩ (.int .i64 0)).setCell ⟨w.heap.size + 1 + 1, 2, none⟩ (.int .i64 0)).setCell ⟨w.heap.size + 1 + 1, 3, none⟩ (.int .i64 0)).setCell ⟨w.heap.size + 1 + 1, 4, none⟩ (.int .i64 0)).setCell ⟨w.heap.size + 1 + 1, 5, none⟩ (.int .i64 0)).setCell ⟨w.heap.size + 1 + 1, 6, none⟩ (.int .i64 0)).setCell ⟨w.heap.size + 1 + 1, 7, none⟩ (.int .i64 0)) = Wf at *
      have q0 : Wf.cell? ⟨w.heap.size + 1 + 1, 0, none⟩ = some (.int .i64 0) := HS.out.cell 0
      have q1 : Wf.cell? ⟨w.heap.size + 1 + 1, 1, none⟩ = some (.int .i64 0) := HS.out.cell 1
      have q2 : Wf.cell? ⟨w.heap.size + 1 + 1, 2, none⟩ = some (.int .i64 0) := HS.out.cell 2
      have q3 : Wf.cell? ⟨w.heap.size + 1 + 1, 3, none⟩ = some (.int .i64 0) := HS.out.cell 3
      have q4 : Wf.cell? ⟨w.heap.size + 1 + 1, 4, none⟩ = some (.int .i64 0) := HS.out.cell 4
      have q5 : Wf.cell? ⟨w.heap.size + 1 + 1, 5, none⟩ = some (.int .i64 0) := HS.out.cell 5
      have q6 : Wf.cell? ⟨w.heap.size + 1 + 1, 6, none⟩ = some (.int .i64 0) := HS.out.cell 6
      have q7 : Wf.cell? ⟨w.heap.size + 1 + 1, 7, none⟩ = some (.int .i64 0) := HS.out.cell 7
      refine bodyPost_ret (v := .tuple #[.agg #[.int .i64 0, .int .i64 0, .int .i64 0, .int .i64 0, .int .i64 0, .int .i64 0, .int .i64 0, .int .i64 0], .int .i64 2]) (by simp [results, Try.results23, go_sem, q0, q1, q2, q3, q4, q5, q6, q7]) rfl ⟨ret_of (by rw [HV.out]), HEf.out⟩
    · obtain ⟨m1, m2, m3⟩ := move_in hc h1
      have CS := Lib.hid (fun w h1' h2' => try_any c hc lp lq v hpo hqo m1 m2 m3 hnp hnq Ap Aq cp cq w h1' h2')
      rw [h1] at CM
      have HV := Lib.hid (show tryT c lp lq v = .tuple #[(trK c lp lq v).val, .int .i64 0] from by unfold tryT tryA tryE; rw [if_pos h0, if_pos h0, h1]; rfl)
      obtain ⟨u, hu⟩ : ∃ u, u = trK c lp lq v := ⟨_, rfl⟩
      replace CS := Lib.hid (show ∀ w, Pts w Ap lp → Pts w Aq lq → Calls Try.prog 56 #[.slice Ap lp.length cp, .slice Aq lq.length cq, c.val, v.val] w fun e w' => e = .returned (.agg u.cells) ∧ Ext w w' from fun w h1 h2 => by rw [hu]; exact CS.out w h1 h2)
      rw [← hu] at HV
      clear h0 m1 m2 m3 hu
      go_enter Try.func23, Try.ntmps23
      go_wp2_with fail
      have hE0 := Lib.hid ((((Ext.refl w).alloc (.cells #[.int .i64 c.turns, .int .i64 c.shift, .int .i64 c.elastic, .int .i64 c.reach, .int .i64 c.spread] 38)).alloc (.cells #[.int .i64 v.turn, .int .i64 v.dx, .int .i64 v.dy] 26)).alloc (.cells #[.int .i64 0, .int .i64 0, .int .i64 0, .int .i64 0, .int .i64 0, .int .i64 0, .int .i64 0, .int .i64 0] 46))
      have hC0 := Lib.hid (((Blk.new w 38 #[.int .i64 c.turns, .int .i64 c.shift, .int .i64 c.elastic, .int .i64 c.reach, .int .i64 c.spread]).alloc (.cells #[.int .i64 v.turn, .int .i64 v.dx, .int .i64 v.dy] 26)).alloc (.cells #[.int .i64 0, .int .i64 0, .int .i64 0, .int .i64 0, .int .i64 0, .int .i64 0, .int .i64 0, .int .i64 0] 46))
      have hM0 := Lib.hid ((Blk.new' (w.alloc (.cells #[.int .i64 c.turns, .int .i64 c.shift, .int .i64 c.elastic, .int .i64 c.reach, .int .i64 c.spread] 38)) 26 #[.int .i64 v.turn, .int .i64 v.dx, .int .i64 v.dy] (w.heap.size + 1) (by simp)).alloc (.cells #[.int .i64 0, .int .i64 0, .int .i64 0, .int .i64 0, .int .i64 0, .int .i64 0, .int .i64 0, .int .i64 0] 46))
      have hR0 := Lib.hid (Blk.new' ((w.alloc (.cells #[.int .i64 c.turns, .int .i64 c.shift, .int .i64 c.elastic, .int .i64 c.reach, .int .i64 c.spread] 38)).alloc (.cells #[.int .i64 v.turn, .int .i64 v.dx, .int .i64 v.dy] 26)) 46 #[.int .i64 0, .int .i64 0, .int .i64 0, .int .i64 0, .int .i64 0, .int .i64 0, .int .i64 0, .int .i64 0] (w.heap.size + 1 + 1) (by simp))
      generalize ((w.alloc (.cells #[.int .i64 c.turns, .int .i64 c.shift, .int .i64 c.elastic, .int .i64 c.reach, .int .i64 c.spread] 38)).alloc (.cells #[.int .i64 v.turn, .int .i64 v.dx, .int .i64 v.dy] 26)).alloc (.cells #[.int .i64 0, .int .i64 0, .int .i64 0, .int .i64 0, .int .i64 0, .int .i64 0, .int .i64 0, .int .i64 0] 46) = V at *
      have oC := Old.mk hC0.out.lt
      have oM := Old.mk hM0.out.lt
      have oR := Old.mk hR0.out.lt
      have c0 : V.cell? ⟨w.heap.size, 0, none⟩ = some (.int .i64 c.turns) := hC0.out.cell 0
      have c1 : V.cell? ⟨w.heap.size, 1, none⟩ = some (.int .i64 c.shift) := hC0.out.cell 1
      have c2 : V.cell? ⟨w.heap.size, 2, none⟩ = some (.int .i64 c.elastic) := hC0.out.cell 2
      have c3 : V.cell? ⟨w.heap.size, 3, none⟩ = some (.int .i64 c.reach) := hC0.out.cell 3
      have c4 : V.cell? ⟨w.heap.size, 4, none⟩ = some (.int .i64 c.spread) := hC0.out.cell 4
      have v0 : V.cell? ⟨w.heap.size + 1, 0, none⟩ = some (.int .i64 v.turn) := hM0.out.cell 0
      have v1 : V.cell? ⟨w.heap.size + 1, 1, none⟩ = some (.int .i64 v.dx) := hM0.out.cell 1
      have v2 : V.cell? ⟨w.heap.size + 1, 2, none⟩ = some (.int .i64 v.dy) := hM0.out.cell 2
      have z0 : V.cell? ⟨w.heap.size + 1 + 1, 0, none⟩ = some (.int .i64 0) := hR0.out.cell 0
      have z1 : V.cell? ⟨w.heap.size + 1 + 1, 1, none⟩ = some (.int .i64 0) := hR0.out.cell 1
      have z2 : V.cell? ⟨w.heap.size + 1 + 1, 2, none⟩ = some (.int .i64 0) := hR0.out.cell 2
      have z3 : V.cell? ⟨w.heap.size + 1 + 1, 3, none⟩ = some (.int .i64 0) := hR0.out.cell 3
      have z4 : V.cell? ⟨w.heap.size + 1 + 1, 4, none⟩ = some (.int .i64 0) := hR0.out.cell 4
      have z5 : V.cell? ⟨w.heap.size + 1 + 1, 5, none⟩ = some (.int .i64 0) := hR0.out.cell 5
      have z6 : V.cell? ⟨w.heap.size + 1 + 1, 6, none⟩ = some (.int .i64 0) := hR0.out.cell 6
      have z7 : V.cell? ⟨w.heap.size + 1 + 1, 7, none⟩ = some (.int .i64 0) := hR0.out.cell 7
      have zf := hR0.out.frozen
      refine Calls.ext (CA.out _ (HP.out.grow hE0.out) (HQ.out.grow hE0.out)) fun z1 => ?_
      go_wp2_with fail
      refine Calls.ext (CM.out _) fun z2 => ?_
      go_wp2_with fail
      have hE1 := (hE0.out.ext z1).ext z2
      refine Calls.ext (CS.out _ (HP.out.grow hE1) (HQ.out.grow hE1)) fun z3 => ?_
      go_wp2_with fail
      have HS := Lib.hid (store_att (((hR0.out.ext z1).ext z2).ext z3) (u))
      have HEf : Hid (Ext w (((((((((ext (ext (ext V z1) z2) z3).setCell ⟨w.heap.size + 1 + 1, 0, none⟩ (.int .i64 (u).mv.turn)).setCell ⟨w.heap.size + 1 + 1, 1, none⟩ (.int .i64 (u).mv.dx)).setCell ⟨w.heap.size + 1 + 1, 2, none⟩ (.int .i64 (u).mv.dy)).setCell ⟨w.heap.size + 1 + 1, 3, none⟩ (.int .i64 (u).bd.a)).setCell ⟨w.heap.size + 1 + 1, 4, none⟩ (.int .i64 (u).bd.b)).setCell ⟨w.heap.size + 1 + 1, 5, none⟩ (.int .i64 (u).bd.c)).setCell ⟨w.heap.size + 1 + 1, 6, none⟩ (.int .i64 (u).bd.d)).setCell ⟨w.heap.size + 1 + 1, 7, none⟩ (.int .i64 (u).score))) := Lib.hid (Ext.setCell (Ext.setCell (Ext.setCell (Ext.setCell (Ext.setCell (Ext.setCell (Ext.setCell (Ext.setCell (hE1.ext z3) (p := ⟨w.heap.size + 1 + 1, 0, none⟩) (by show w.heap.size ≤ w.heap.size + 1 + 1; omega) (.int .i64 (u).mv.turn)) (p := ⟨w.heap.size + 1 + 1, 1, none⟩) (by show w.heap.size ≤ w.heap.size + 1 + 1; omega) (.int .i64 (u).mv.dx)) (p := ⟨w.heap.size + 1 + 1, 2, none⟩) (by show w.heap.size ≤ w.heap.size + 1 + 1; omega) (.int .i64 (u).mv.dy)) (p := ⟨w.heap.size + 1 + 1, 3, none⟩) (by show w.heap.size ≤ w.heap.size + 1 + 1; omega) (.int .i64 (u).bd.a)) (p := ⟨w.heap.size + 1 + 1, 4, none⟩) (by show w.heap.size ≤ w.heap.size + 1 + 1; omega) (.int .i64 (u).bd.b)) (p := ⟨w.heap.size + 1 + 1, 5, none⟩) (by show w.heap.size ≤ w.heap.size + 1 + 1; omega) (.int .i64 (u).bd.c)) (p := ⟨w.heap.size + 1 + 1, 6, none⟩) (by show w.heap.size ≤ w.heap.size + 1 + 1; omega) (.int .i64 (u).bd.d)) (p := ⟨w.heap.size + 1 + 1, 7, none⟩) (by show w.heap.size ≤ w.heap.size + 1 + 1; omega) (.int .i64 (u).score))
      generalize (((((((((ext (ext (ext V z1) z2) z3).setCell ⟨w.heap.size + 1 + 1, 0, none⟩ (.int .i64 (u).mv.turn)).setCell ⟨w.heap.size + 1 + 1, 1, none⟩ (.int .i64 (u).mv.dx)).setCell ⟨w.heap.size + 1 + 1, 2, none⟩ (.int .i64 (u).mv.dy)).setCell ⟨w.heap.size + 1 + 1, 3, none⟩ (.int .i64 (u).bd.a)).setCell ⟨w.heap.size + 1 + 1, 4, none⟩ (.int .i64 (u).bd.b)).setCell ⟨w.heap.size + 1 + 1, 5, none⟩ (.int .i64 (u).bd.c)).setCell ⟨w.heap.size + 1 + 1, 6, none⟩ (.int .i64 (u).bd.d)).setCell ⟨w.heap.size + 1 + 1, 7, none⟩ (.int .i64 (u).score)) = Wf at *
      obtain ⟨q0, q1, q2, q3, q4, q5, q6, q7⟩ := attV HS.out
      refine bodyPost_ret (v := .tuple #[(u).val, .int .i64 0]) (by simp [results, Try.results23, go_sem, q0, q1, q2, q3, q4, q5, q6, q7]) rfl ⟨ret_of ?_, HEf.out⟩
      rw [HV.out]
  · obtain ⟨x, hx, hx2⟩ := ask_err h0
    have HV := Lib.hid (show tryT c lp lq v = .tuple #[.agg #[.int .i64 0, .int .i64 0, .int .i64 0, .int .i64 0, .int .i64 0, .int .i64 0, .int .i64 0, .int .i64 0], .int .i64 x] from by unfold tryT tryA tryE; rw [if_neg h0, if_neg h0, hx]; rfl)
    rw [hx] at CA
    clear h0 hx
    have hxn : (x != 0) = true := by rcases hx2 with rfl | rfl <;> rfl
    go_enter Try.func23, Try.ntmps23
    go_wp2_with fail
    have hE0 := Lib.hid ((((Ext.refl w).alloc (.cells #[.int .i64 c.turns, .int .i64 c.shift, .int .i64 c.elastic, .int .i64 c.reach, .int .i64 c.spread] 38)).alloc (.cells #[.int .i64 v.turn, .int .i64 v.dx, .int .i64 v.dy] 26)).alloc (.cells #[.int .i64 0, .int .i64 0, .int .i64 0, .int .i64 0, .int .i64 0, .int .i64 0, .int .i64 0, .int .i64 0] 46))
    have hC0 := Lib.hid (((Blk.new w 38 #[.int .i64 c.turns, .int .i64 c.shift, .int .i64 c.elastic, .int .i64 c.reach, .int .i64 c.spread]).alloc (.cells #[.int .i64 v.turn, .int .i64 v.dx, .int .i64 v.dy] 26)).alloc (.cells #[.int .i64 0, .int .i64 0, .int .i64 0, .int .i64 0, .int .i64 0, .int .i64 0, .int .i64 0, .int .i64 0] 46))
    have hM0 := Lib.hid ((Blk.new' (w.alloc (.cells #[.int .i64 c.turns, .int .i64 c.shift, .int .i64 c.elastic, .int .i64 c.reach, .int .i64 c.spread] 38)) 26 #[.int .i64 v.turn, .int .i64 v.dx, .int .i64 v.dy] (w.heap.size + 1) (by simp)).alloc (.cells #[.int .i64 0, .int .i64 0, .int .i64 0, .int .i64 0, .int .i64 0, .int .i64 0, .int .i64 0, .int .i64 0] 46))
    have hR0 := Lib.hid (Blk.new' ((w.alloc (.cells #[.int .i64 c.turns, .int .i64 c.shift, .int .i64 c.elastic, .int .i64 c.reach, .int .i64 c.spread] 38)).alloc (.cells #[.int .i64 v.turn, .int .i64 v.dx, .int .i64 v.dy] 26)) 46 #[.int .i64 0, .int .i64 0, .int .i64 0, .int .i64 0, .int .i64 0, .int .i64 0, .int .i64 0, .int .i64 0] (w.heap.size + 1 + 1) (by simp))
    generalize ((w.alloc (.cells #[.int .i64 c.turns, .int .i64 c.shift, .int .i64 c.elastic, .int .i64 c.reach, .int .i64 c.spread] 38)).alloc (.cells #[.int .i64 v.turn, .int .i64 v.dx, .int .i64 v.dy] 26)).alloc (.cells #[.int .i64 0, .int .i64 0, .int .i64 0, .int .i64 0, .int .i64 0, .int .i64 0, .int .i64 0, .int .i64 0] 46) = V at *
    have oC := Old.mk hC0.out.lt
    have oM := Old.mk hM0.out.lt
    have oR := Old.mk hR0.out.lt
    have c0 : V.cell? ⟨w.heap.size, 0, none⟩ = some (.int .i64 c.turns) := hC0.out.cell 0
    have c1 : V.cell? ⟨w.heap.size, 1, none⟩ = some (.int .i64 c.shift) := hC0.out.cell 1
    have c2 : V.cell? ⟨w.heap.size, 2, none⟩ = some (.int .i64 c.elastic) := hC0.out.cell 2
    have c3 : V.cell? ⟨w.heap.size, 3, none⟩ = some (.int .i64 c.reach) := hC0.out.cell 3
    have c4 : V.cell? ⟨w.heap.size, 4, none⟩ = some (.int .i64 c.spread) := hC0.out.cell 4
    have v0 : V.cell? ⟨w.heap.size + 1, 0, none⟩ = some (.int .i64 v.turn) := hM0.out.cell 0
    have v1 : V.cell? ⟨w.heap.size + 1, 1, none⟩ = some (.int .i64 v.dx) := hM0.out.cell 1
    have v2 : V.cell? ⟨w.heap.size + 1, 2, none⟩ = some (.int .i64 v.dy) := hM0.out.cell 2
    have z0 : V.cell? ⟨w.heap.size + 1 + 1, 0, none⟩ = some (.int .i64 0) := hR0.out.cell 0
    have z1 : V.cell? ⟨w.heap.size + 1 + 1, 1, none⟩ = some (.int .i64 0) := hR0.out.cell 1
    have z2 : V.cell? ⟨w.heap.size + 1 + 1, 2, none⟩ = some (.int .i64 0) := hR0.out.cell 2
    have z3 : V.cell? ⟨w.heap.size + 1 + 1, 3, none⟩ = some (.int .i64 0) := hR0.out.cell 3
    have z4 : V.cell? ⟨w.heap.size + 1 + 1, 4, none⟩ = some (.int .i64 0) := hR0.out.cell 4
    have z5 : V.cell? ⟨w.heap.size + 1 + 1, 5, none⟩ = some (.int .i64 0) := hR0.out.cell 5
    have z6 : V.cell? ⟨w.heap.size + 1 + 1, 6, none⟩ = some (.int .i64 0) := hR0.out.cell 6
    have z7 : V.cell? ⟨w.heap.size + 1 + 1, 7, none⟩ = some (.int .i64 0) := hR0.out.cell 7
    have zf := hR0.out.frozen
    refine Calls.ext (CA.out _ (HP.out.grow hE0.out) (HQ.out.grow hE0.out)) fun z1 => ?_
    go_wp2_with fail
    have HS := Lib.hid (store_zero (hR0.out.ext z1))
    have HEf : Hid (Ext w (((((((((ext V z1).setCell ⟨w.heap.size + 1 + 1, 0, none⟩ (.int .i64 0)).setCell ⟨w.heap.size + 1 + 1, 1, none⟩ (.int .i64 0)).setCell ⟨w.heap.size + 1 + 1, 2, none⟩ (.int .i64 0)).setCell ⟨w.heap.size + 1 + 1, 3, none⟩ (.int .i64 0)).setCell ⟨w.heap.size + 1 + 1, 4, none⟩ (.int .i64 0)).setCell ⟨w.heap.size + 1 + 1, 5, none⟩ (.int .i64 0)).setCell ⟨w.heap.size + 1 + 1, 6, none⟩ (.int .i64 0)).setCell ⟨w.heap.size + 1 + 1, 7, none⟩ (.int .i64 0))) := Lib.hid (Ext.setCell (Ext.setCell (Ext.setCell (Ext.setCell (Ext.setCell (Ext.setCell (Ext.setCell (Ext.setCell (hE0.out.ext z1) (p := ⟨w.heap.size + 1 + 1, 0, none⟩) (by show w.heap.size ≤ w.heap.size + 1 + 1; omega) (.int .i64 0)) (p := ⟨w.heap.size + 1 + 1, 1, none⟩) (by show w.heap.size ≤ w.heap.size + 1 + 1; omega) (.int .i64 0)) (p := ⟨w.heap.size + 1 + 1, 2, none⟩) (by show w.heap.size ≤ w.heap.size + 1 + 1; omega) (.int .i64 0)) (p := ⟨w.heap.size + 1 + 1, 3, none⟩) (by show w.heap.size ≤ w.heap.size + 1 + 1; omega) (.int .i64 0)) (p := ⟨w.heap.size + 1 + 1, 4, none⟩) (by show w.heap.size ≤ w.heap.size + 1 + 1; omega) (.int .i64 0)) (p := ⟨w.heap.size + 1 + 1, 5, none⟩) (by show w.heap.size ≤ w.heap.size + 1 + 1; omega) (.int .i64 0)) (p := ⟨w.heap.size + 1 + 1, 6, none⟩) (by show w.heap.size ≤ w.heap.size + 1 + 1; omega) (.int .i64 0)) (p := ⟨w.heap.size + 1 + 1, 7, none⟩) (by show w.heap.size ≤ w.heap.size + 1 + 1; omega) (.int .i64 0))
    generalize (((((((((ext V z1).setCell ⟨w.heap.size + 1 + 1, 0, none⟩ (.int .i64 0)).setCell ⟨w.heap.size + 1 + 1, 1, none⟩ (.int .i64 0)).setCell ⟨w.heap.size + 1 + 1, 2, none⟩ (.int .i64 0)).setCell ⟨w.heap.size + 1 + 1, 3, none⟩ (.int .i64 0)).setCell ⟨w.heap.size + 1 + 1, 4, none⟩ (.int .i64 0)).setCell ⟨w.heap.size + 1 + 1, 5, none⟩ (.int .i64 0)).setCell ⟨w.heap.size + 1 + 1, 6, none⟩ (.int .i64 0)).setCell ⟨w.heap.size + 1 + 1, 7, none⟩ (.int .i64 0)) = Wf at *
    have q0 : Wf.cell? ⟨w.heap.size + 1 + 1, 0, none⟩ = some (.int .i64 0) := HS.out.cell 0
    have q1 : Wf.cell? ⟨w.heap.size + 1 + 1, 1, none⟩ = some (.int .i64 0) := HS.out.cell 1
    have q2 : Wf.cell? ⟨w.heap.size + 1 + 1, 2, none⟩ = some (.int .i64 0) := HS.out.cell 2
    have q3 : Wf.cell? ⟨w.heap.size + 1 + 1, 3, none⟩ = some (.int .i64 0) := HS.out.cell 3
    have q4 : Wf.cell? ⟨w.heap.size + 1 + 1, 4, none⟩ = some (.int .i64 0) := HS.out.cell 4
    have q5 : Wf.cell? ⟨w.heap.size + 1 + 1, 5, none⟩ = some (.int .i64 0) := HS.out.cell 5
    have q6 : Wf.cell? ⟨w.heap.size + 1 + 1, 6, none⟩ = some (.int .i64 0) := HS.out.cell 6
    have q7 : Wf.cell? ⟨w.heap.size + 1 + 1, 7, none⟩ = some (.int .i64 0) := HS.out.cell 7
    refine bodyPost_ret (v := .tuple #[.agg #[.int .i64 0, .int .i64 0, .int .i64 0, .int .i64 0, .int .i64 0, .int .i64 0, .int .i64 0, .int .i64 0], .int .i64 x]) (by simp [results, Try.results23, go_sem, q0, q1, q2, q3, q4, q5, q6, q7]) rfl ⟨ret_of (by rw [HV.out]), HEf.out⟩
set_option maxRecDepth 100000 in
set_option maxHeartbeats 4000000 in
theorem refTry_any (c : Cl) (lp lq : List Mi) (v : Mv) (hp : ∀ m ∈ lp, 0 ≤ m.dir) (hq : ∀ m ∈ lq, 0 ≤ m.dir) (hnp : lp.length ≤ 100) (hnq : lq.length ≤ 100) (Ap Aq : Option Addr) (cp cq : Nat) (w : World) (hP : Pts w Ap lp) (hQ : Pts w Aq lq) :
    Calls Try.prog 24 #[.slice Ap lp.length cp, .slice Aq lq.length cq, c.val, v.val] w fun e w' => e = .returned (tryT c lp lq v) ∧ Ext w w' := by
  have CA := Lib.hid (fun w h1 h2 => asked_any c lp lq hnp hnq Ap Aq cp cq w h1 h2)
  have HP := Lib.hid hP
  have HQ := Lib.hid hQ
  clear hP hQ
  by_cases h0 : askE c lp lq = 0
  · obtain ⟨a1, a2, hc⟩ := askE_ok h0
    obtain ⟨hpo, -⟩ := okP_ok a1 hp
    obtain ⟨hqo, -⟩ := okP_ok a2 hq
    clear a1 a2
    rw [h0] at CA
    have CM := Lib.hid (fun w => isMove_any c v hc w)
    cases h1 : isMove c v
    · rw [h1] at CM
      have HV := Lib.hid (show tryT c lp lq v = .tuple #[.agg #[.int .i64 0, .int .i64 0, .int .i64 0, .int .i64 0, .int .i64 0, .int .i64 0, .int .i64 0, .int .i64 0], .int .i64 2] from by unfold tryT tryA tryE; rw [if_pos h0, if_pos h0, h1]; rfl)
      clear h0
      go_enter Try.func24, Try.ntmps24
      go_wp2_with fail
      have hE0 := Lib.hid ((((Ext.refl w).alloc (.cells #[.int .i64 c.turns, .int .i64 c.shift, .int .i64 c.elastic, .int .i64 c.reach, .int .i64 c.spread] 38)).alloc (.cells #[.int .i64 v.turn, .int .i64 v.dx, .int .i64 v.dy] 26)).alloc (.cells #[.int .i64 0, .int .i64 0, .int .i64 0, .int .i64 0, .int .i64 0, .int .i64 0, .int .i64 0, .int .i64 0] 46))
      have hC0 := Lib.hid (((Blk.new w 38 #[.int .i64 c.turns, .int .i64 c.shift, .int .i64 c.elastic, .int .i64 c.reach, .int .i64 c.spread]).alloc (.cells #[.int .i64 v.turn, .int .i64 v.dx, .int .i64 v.dy] 26)).alloc (.cells #[.int .i64 0, .int .i64 0, .int .i64 0, .int .i64 0, .int .i64 0, .int .i64 0, .int .i64 0, .int .i64 0] 46))
      have hM0 := Lib.hid ((Blk.new' (w.alloc (.cells #[.int .i64 c.turns, .int .i64 c.shift, .int .i64 c.elastic, .int .i64 c.reach, .int .i64 c.spread] 38)) 26 #[.int .i64 v.turn, .int .i64 v.dx, .int .i64 v.dy] (w.heap.size + 1) (by simp)).alloc (.cells #[.int .i64 0, .int .i64 0, .int .i64 0, .int .i64 0, .int .i64 0, .int .i64 0, .int .i64 0, .int .i64 0] 46))
      have hR0 := Lib.hid (Blk.new' ((w.alloc (.cells #[.int .i64 c.turns, .int .i64 c.shift, .int .i64 c.elastic, .int .i64 c.reach, .int .i64 c.spread] 38)).alloc (.cells #[.int .i64 v.turn, .int .i64 v.dx, .int .i64 v.dy] 26)) 46 #[.int .i64 0, .int .i64 0, .int .i64 0, .int .i64 0, .int .i64 0, .int .i64 0, .int .i64 0, .int .i64 0] (w.heap.size + 1 + 1) (by simp))
      generalize ((w.alloc (.cells #[.int .i64 c.turns, .int .i64 c.shift, .int .i64 c.elastic, .int .i64 c.reach, .int .i64 c.spread] 38)).alloc (.cells #[.int .i64 v.turn, .int .i64 v.dx, .int .i64 v.dy] 26)).alloc (.cells #[.int .i64 0, .int .i64 0, .int .i64 0, .int .i64 0, .int .i64 0, .int .i64 0, .int .i64 0, .int .i64 0] 46) = V at *
      have oC := Old.mk hC0.out.lt
      have oM := Old.mk hM0.out.lt
      have oR := Old.mk hR0.out.lt
      have c0 : V.cell? ⟨w.heap.size, 0, none⟩ = some (.int .i64 c.turns) := hC0.out.cell 0
      have c1 : V.cell? ⟨w.heap.size, 1, none⟩ = some (.int .i64 c.shift) := hC0.out.cell 1
      have c2 : V.cell? ⟨w.heap.size, 2, none⟩ = some (.int .i64 c.elastic) := hC0.out.cell 2
      have c3 : V.cell? ⟨w.heap.size, 3, none⟩ = some (.int .i64 c.reach) := hC0.out.cell 3
      have c4 : V.cell? ⟨w.heap.size, 4, none⟩ = some (.int .i64 c.spread) := hC0.out.cell 4
      have v0 : V.cell? ⟨w.heap.size + 1, 0, none⟩ = some (.int .i64 v.turn) := hM0.out.cell 0
      have v1 : V.cell? ⟨w.heap.size + 1, 1, none⟩ = some (.int .i64 v.dx) := hM0.out.cell 1
      have v2 : V.cell? ⟨w.heap.size + 1, 2, none⟩ = some (.int .i64 v.dy) := hM0.out.cell 2
      have z0 : V.cell? ⟨w.heap.size + 1 + 1, 0, none⟩ = some (.int .i64 0) := hR0.out.cell 0
      have z1 : V.cell? ⟨w.heap.size + 1 + 1, 1, none⟩ = some (.int .i64 0) := hR0.out.cell 1
      have z2 : V.cell? ⟨w.heap.size + 1 + 1, 2, none⟩ = some (.int .i64 0) := hR0.out.cell 2
      have z3 : V.cell? ⟨w.heap.size + 1 + 1, 3, none⟩ = some (.int .i64 0) := hR0.out.cell 3
      have z4 : V.cell? ⟨w.heap.size + 1 + 1, 4, none⟩ = some (.int .i64 0) := hR0.out.cell 4
      have z5 : V.cell? ⟨w.heap.size + 1 + 1, 5, none⟩ = some (.int .i64 0) := hR0.out.cell 5
      have z6 : V.cell? ⟨w.heap.size + 1 + 1, 6, none⟩ = some (.int .i64 0) := hR0.out.cell 6
      have z7 : V.cell? ⟨w.heap.size + 1 + 1, 7, none⟩ = some (.int .i64 0) := hR0.out.cell 7
      have zf := hR0.out.frozen
      refine Calls.ext (CA.out _ (HP.out.grow hE0.out) (HQ.out.grow hE0.out)) fun z1 => ?_
      go_wp2_with fail
      refine Calls.ext (CM.out _) fun z2 => ?_
      go_wp2_with fail
      have HS := Lib.hid (store_zero ((hR0.out.ext z1).ext z2))
      have HEf : Hid (Ext w (((((((((ext (ext V z1) z2).setCell ⟨w.heap.size + 1 + 1, 0, none⟩ (.int .i64 0)).setCell ⟨w.heap.size + 1 + 1, 1, none⟩ (.int .i64 0)).setCell ⟨w.heap.size + 1 + 1, 2, none⟩ (.int .i64 0)).setCell ⟨w.heap.size + 1 + 1, 3, none⟩ (.int .i64 0)).setCell ⟨w.heap.size + 1 + 1, 4, none⟩ (.int .i64 0)).setCell ⟨w.heap.size + 1 + 1, 5, none⟩ (.int .i64 0)).setCell ⟨w.heap.size + 1 + 1, 6, none⟩ (.int .i64 0)).setCell ⟨w.heap.size + 1 + 1, 7, none⟩ (.int .i64 0))) := Lib.hid (Ext.setCell (Ext.setCell (Ext.setCell (Ext.setCell (Ext.setCell (Ext.setCell (Ext.setCell (Ext.setCell ((hE0.out.ext z1).ext z2) (p := ⟨w.heap.size + 1 + 1, 0, none⟩) (by show w.heap.size ≤ w.heap.size + 1 + 1; omega) (.int .i64 0)) (p := ⟨w.heap.size + 1 + 1, 1, none⟩) (by show w.heap.size ≤ w.heap.size + 1 + 1; omega) (.int .i64 0)) (p := ⟨w.heap.size + 1 + 1, 2, none⟩) (by show w.heap.size ≤ w.heap.size + 1 + 1; omega) (.int .i64 0)) (p := ⟨w.heap.size + 1 + 1, 3, none⟩) (by show w.heap.size ≤ w.heap.size + 1 + 1; omega) (.int .i64 0)) (p := ⟨w.heap.size + 1 + 1, 4, none⟩) (by show w.heap.size ≤ w.heap.size + 1 + 1; omega) (.int .i64 0)) (p := ⟨w.heap.size + 1 + 1, 5, none⟩) (by show w.heap.size ≤ w.heap.size + 1 + 1; omega) (.int .i64 0)) (p := ⟨w.heap.size + 1 + 1, 6, none⟩) (by show w.heap.size ≤ w.heap.size + 1 + 1; omega) (.int .i64 0)) (p := ⟨w.heap.size + 1 + 1, 7, none⟩) (by show w.heap.size ≤ w.heap.size + 1 + 1; omega) (.int .i64 0))
      generalize (((((((((ext (ext V z1) z2).setCell ⟨w.heap.size + 1 + 1, 0, none⟩ (.int .i64 0)).setCell ⟨w.heap.size + 1 + 1, 1, none⟩ (.int .i64 0)).setCell ⟨w.heap.size + 1 + 1, 2, none⟩ (.int .i64 0)).setCell ⟨w.heap.size + 1 + 1, 3, none⟩ (.int .i64 0)).setCell ⟨w.heap.size + 1 + 1, 4, none⟩ (.int .i64 0)).setCell ⟨w.heap.size + 1 + 1, 5, none⟩ (.int .i64 0)).setCell ⟨w.heap.size + 1 + 1, 6, none⟩ (.int .i64 0)).setCell ⟨w.heap.size + 1 + 1, 7, none⟩ (.int .i64 0)) = Wf at *
      have q0 : Wf.cell? ⟨w.heap.size + 1 + 1, 0, none⟩ = some (.int .i64 0) := HS.out.cell 0
      have q1 : Wf.cell? ⟨w.heap.size + 1 + 1, 1, none⟩ = some (.int .i64 0) := HS.out.cell 1
      have q2 : Wf.cell? ⟨w.heap.size + 1 + 1, 2, none⟩ = some (.int .i64 0) := HS.out.cell 2
      have q3 : Wf.cell? ⟨w.heap.size + 1 + 1, 3, none⟩ = some (.int .i64 0) := HS.out.cell 3
      have q4 : Wf.cell? ⟨w.heap.size + 1 + 1, 4, none⟩ = some (.int .i64 0) := HS.out.cell 4
      have q5 : Wf.cell? ⟨w.heap.size + 1 + 1, 5, none⟩ = some (.int .i64 0) := HS.out.cell 5
      have q6 : Wf.cell? ⟨w.heap.size + 1 + 1, 6, none⟩ = some (.int .i64 0) := HS.out.cell 6
      have q7 : Wf.cell? ⟨w.heap.size + 1 + 1, 7, none⟩ = some (.int .i64 0) := HS.out.cell 7
      refine bodyPost_ret (v := .tuple #[.agg #[.int .i64 0, .int .i64 0, .int .i64 0, .int .i64 0, .int .i64 0, .int .i64 0, .int .i64 0, .int .i64 0], .int .i64 2]) (by simp [results, Try.results24, go_sem, q0, q1, q2, q3, q4, q5, q6, q7]) rfl ⟨ret_of (by rw [HV.out]), HEf.out⟩
    · obtain ⟨m1, m2, m3⟩ := move_in hc h1
      have CS := Lib.hid (fun w h1' h2' => tried_any c hc lp lq v hpo hqo m1 m2 m3 hnp hnq Ap Aq cp cq w h1' h2')
      rw [h1] at CM
      have HV := Lib.hid (show tryT c lp lq v = .tuple #[(trK c lp lq v).val, .int .i64 0] from by unfold tryT tryA tryE; rw [if_pos h0, if_pos h0, h1]; rfl)
      obtain ⟨u, hu⟩ : ∃ u, u = trK c lp lq v := ⟨_, rfl⟩
      replace CS := Lib.hid (show ∀ w, Pts w Ap lp → Pts w Aq lq → Calls Try.prog 57 #[.slice Ap lp.length cp, .slice Aq lq.length cq, c.val, v.val] w fun e w' => e = .returned (.agg u.cells) ∧ Ext w w' from fun w h1 h2 => by rw [hu]; exact CS.out w h1 h2)
      rw [← hu] at HV
      clear h0 m1 m2 m3 hu
      go_enter Try.func24, Try.ntmps24
      go_wp2_with fail
      have hE0 := Lib.hid ((((Ext.refl w).alloc (.cells #[.int .i64 c.turns, .int .i64 c.shift, .int .i64 c.elastic, .int .i64 c.reach, .int .i64 c.spread] 38)).alloc (.cells #[.int .i64 v.turn, .int .i64 v.dx, .int .i64 v.dy] 26)).alloc (.cells #[.int .i64 0, .int .i64 0, .int .i64 0, .int .i64 0, .int .i64 0, .int .i64 0, .int .i64 0, .int .i64 0] 46))
      have hC0 := Lib.hid (((Blk.new w 38 #[.int .i64 c.turns, .int .i64 c.shift, .int .i64 c.elastic, .int .i64 c.reach, .int .i64 c.spread]).alloc (.cells #[.int .i64 v.turn, .int .i64 v.dx, .int .i64 v.dy] 26)).alloc (.cells #[.int .i64 0, .int .i64 0, .int .i64 0, .int .i64 0, .int .i64 0, .int .i64 0, .int .i64 0, .int .i64 0] 46))
      have hM0 := Lib.hid ((Blk.new' (w.alloc (.cells #[.int .i64 c.turns, .int .i64 c.shift, .int .i64 c.elastic, .int .i64 c.reach, .int .i64 c.spread] 38)) 26 #[.int .i64 v.turn, .int .i64 v.dx, .int .i64 v.dy] (w.heap.size + 1) (by simp)).alloc (.cells #[.int .i64 0, .int .i64 0, .int .i64 0, .int .i64 0, .int .i64 0, .int .i64 0, .int .i64 0, .int .i64 0] 46))
      have hR0 := Lib.hid (Blk.new' ((w.alloc (.cells #[.int .i64 c.turns, .int .i64 c.shift, .int .i64 c.elastic, .int .i64 c.reach, .int .i64 c.spread] 38)).alloc (.cells #[.int .i64 v.turn, .int .i64 v.dx, .int .i64 v.dy] 26)) 46 #[.int .i64 0, .int .i64 0, .int .i64 0, .int .i64 0, .int .i64 0, .int .i64 0, .int .i64 0, .int .i64 0] (w.heap.size + 1 + 1) (by simp))
      generalize ((w.alloc (.cells #[.int .i64 c.turns, .int .i64 c.shift, .int .i64 c.elastic, .int .i64 c.reach, .int .i64 c.spread] 38)).alloc (.cells #[.int .i64 v.turn, .int .i64 v.dx, .int .i64 v.dy] 26)).alloc (.cells #[.int .i64 0, .int .i64 0, .int .i64 0, .int .i64 0, .int .i64 0, .int .i64 0, .int .i64 0, .int .i64 0] 46) = V at *
      have oC := Old.mk hC0.out.lt
      have oM := Old.mk hM0.out.lt
      have oR := Old.mk hR0.out.lt
      have c0 : V.cell? ⟨w.heap.size, 0, none⟩ = some (.int .i64 c.turns) := hC0.out.cell 0
      have c1 : V.cell? ⟨w.heap.size, 1, none⟩ = some (.int .i64 c.shift) := hC0.out.cell 1
      have c2 : V.cell? ⟨w.heap.size, 2, none⟩ = some (.int .i64 c.elastic) := hC0.out.cell 2
      have c3 : V.cell? ⟨w.heap.size, 3, none⟩ = some (.int .i64 c.reach) := hC0.out.cell 3
      have c4 : V.cell? ⟨w.heap.size, 4, none⟩ = some (.int .i64 c.spread) := hC0.out.cell 4
      have v0 : V.cell? ⟨w.heap.size + 1, 0, none⟩ = some (.int .i64 v.turn) := hM0.out.cell 0
      have v1 : V.cell? ⟨w.heap.size + 1, 1, none⟩ = some (.int .i64 v.dx) := hM0.out.cell 1
      have v2 : V.cell? ⟨w.heap.size + 1, 2, none⟩ = some (.int .i64 v.dy) := hM0.out.cell 2
      have z0 : V.cell? ⟨w.heap.size + 1 + 1, 0, none⟩ = some (.int .i64 0) := hR0.out.cell 0
      have z1 : V.cell? ⟨w.heap.size + 1 + 1, 1, none⟩ = some (.int .i64 0) := hR0.out.cell 1
      have z2 : V.cell? ⟨w.heap.size + 1 + 1, 2, none⟩ = some (.int .i64 0) := hR0.out.cell 2
      have z3 : V.cell? ⟨w.heap.size + 1 + 1, 3, none⟩ = some (.int .i64 0) := hR0.out.cell 3
      have z4 : V.cell? ⟨w.heap.size + 1 + 1, 4, none⟩ = some (.int .i64 0) := hR0.out.cell 4
      have z5 : V.cell? ⟨w.heap.size + 1 + 1, 5, none⟩ = some (.int .i64 0) := hR0.out.cell 5
      have z6 : V.cell? ⟨w.heap.size + 1 + 1, 6, none⟩ = some (.int .i64 0) := hR0.out.cell 6
      have z7 : V.cell? ⟨w.heap.size + 1 + 1, 7, none⟩ = some (.int .i64 0) := hR0.out.cell 7
      have zf := hR0.out.frozen
      refine Calls.ext (CA.out _ (HP.out.grow hE0.out) (HQ.out.grow hE0.out)) fun z1 => ?_
      go_wp2_with fail
      refine Calls.ext (CM.out _) fun z2 => ?_
      go_wp2_with fail
      have hE1 := (hE0.out.ext z1).ext z2
      refine Calls.ext (CS.out _ (HP.out.grow hE1) (HQ.out.grow hE1)) fun z3 => ?_
      go_wp2_with fail
      have HS := Lib.hid (store_att (((hR0.out.ext z1).ext z2).ext z3) (u))
      have HEf : Hid (Ext w (((((((((ext (ext (ext V z1) z2) z3).setCell ⟨w.heap.size + 1 + 1, 0, none⟩ (.int .i64 (u).mv.turn)).setCell ⟨w.heap.size + 1 + 1, 1, none⟩ (.int .i64 (u).mv.dx)).setCell ⟨w.heap.size + 1 + 1, 2, none⟩ (.int .i64 (u).mv.dy)).setCell ⟨w.heap.size + 1 + 1, 3, none⟩ (.int .i64 (u).bd.a)).setCell ⟨w.heap.size + 1 + 1, 4, none⟩ (.int .i64 (u).bd.b)).setCell ⟨w.heap.size + 1 + 1, 5, none⟩ (.int .i64 (u).bd.c)).setCell ⟨w.heap.size + 1 + 1, 6, none⟩ (.int .i64 (u).bd.d)).setCell ⟨w.heap.size + 1 + 1, 7, none⟩ (.int .i64 (u).score))) := Lib.hid (Ext.setCell (Ext.setCell (Ext.setCell (Ext.setCell (Ext.setCell (Ext.setCell (Ext.setCell (Ext.setCell (hE1.ext z3) (p := ⟨w.heap.size + 1 + 1, 0, none⟩) (by show w.heap.size ≤ w.heap.size + 1 + 1; omega) (.int .i64 (u).mv.turn)) (p := ⟨w.heap.size + 1 + 1, 1, none⟩) (by show w.heap.size ≤ w.heap.size + 1 + 1; omega) (.int .i64 (u).mv.dx)) (p := ⟨w.heap.size + 1 + 1, 2, none⟩) (by show w.heap.size ≤ w.heap.size + 1 + 1; omega) (.int .i64 (u).mv.dy)) (p := ⟨w.heap.size + 1 + 1, 3, none⟩) (by show w.heap.size ≤ w.heap.size + 1 + 1; omega) (.int .i64 (u).bd.a)) (p := ⟨w.heap.size + 1 + 1, 4, none⟩) (by show w.heap.size ≤ w.heap.size + 1 + 1; omega) (.int .i64 (u).bd.b)) (p := ⟨w.heap.size + 1 + 1, 5, none⟩) (by show w.heap.size ≤ w.heap.size + 1 + 1; omega) (.int .i64 (u).bd.c)) (p := ⟨w.heap.size + 1 + 1, 6, none⟩) (by show w.heap.size ≤ w.heap.size + 1 + 1; omega) (.int .i64 (u).bd.d)) (p := ⟨w.heap.size + 1 + 1, 7, none⟩) (by show w.heap.size ≤ w.heap.size + 1 + 1; omega) (.int .i64 (u).score))
      generalize (((((((((ext (ext (ext V z1) z2) z3).setCell ⟨w.heap.size + 1 + 1, 0, none⟩ (.int .i64 (u).mv.turn)).setCell ⟨w.heap.size + 1 + 1, 1, none⟩ (.int .i64 (u).mv.dx)).setCell ⟨w.heap.size + 1 + 1, 2, none⟩ (.int .i64 (u).mv.dy)).setCell ⟨w.heap.size + 1 + 1, 3, none⟩ (.int .i64 (u).bd.a)).setCell ⟨w.heap.size + 1 + 1, 4, none⟩ (.int .i64 (u).bd.b)).setCell ⟨w.heap.size + 1 + 1, 5, none⟩ (.int .i64 (u).bd.c)).setCell ⟨w.heap.size + 1 + 1, 6, none⟩ (.int .i64 (u).bd.d)).setCell ⟨w.heap.size + 1 + 1, 7, none⟩ (.int .i64 (u).score)) = Wf at *
      obtain ⟨q0, q1, q2, q3, q4, q5, q6, q7⟩ := attV HS.out
      refine bodyPost_ret (v := .tuple #[(u).val, .int .i64 0]) (by simp [results, Try.results24, go_sem, q0, q1, q2, q3, q4, q5, q6, q7]) rfl ⟨ret_of ?_, HEf.out⟩
      rw [HV.out]
  · obtain ⟨x, hx, hx2⟩ := ask_err h0
    have HV := Lib.hid (show tryT c lp lq v = .tuple #[.agg #[.int .i64 0, .int .i64 0, .int .i64 0, .int .i64 0, .int .i64 0, .int .i64 0, .int .i64 0, .int .i64 0], .int .i64 x] from by unfold tryT tryA tryE; rw [if_neg h0, if_neg h0, hx]; rfl)
    rw [hx] at CA
    clear h0 hx
    have hxn : (x != 0) = true := by rcases hx2 with rfl | rfl <;> rfl
    go_enter Try.func24, Try.ntmps24
    go_wp2_with fail
    have hE0 := Lib.hid ((((Ext.refl w).alloc (.cells #[.int .i64 c.turns, .int .i64 c.shift, .int .i64 c.elastic, .int .i64 c.reach, .int .i64 c.spread] 38)).alloc (.cells #[.int .i64 v.turn, .int .i64 v.dx, .int .i64 v.dy] 26)).alloc (.cells #[.int .i64 0, .int .i64 0, .int .i64 0, .int .i64 0, .int .i64 0, .int .i64 0, .int .i64 0, .int .i64 0] 46))
    have hC0 := Lib.hid (((Blk.new w 38 #[.int .i64 c.turns, .int .i64 c.shift, .int .i64 c.elastic, .int .i64 c.reach, .int .i64 c.spread]).alloc (.cells #[.int .i64 v.turn, .int .i64 v.dx, .int .i64 v.dy] 26)).alloc (.cells #[.int .i64 0, .int .i64 0, .int .i64 0, .int .i64 0, .int .i64 0, .int .i64 0, .int .i64 0, .int .i64 0] 46))
    have hM0 := Lib.hid ((Blk.new' (w.alloc (.cells #[.int .i64 c.turns, .int .i64 c.shift, .int .i64 c.elastic, .int .i64 c.reach, .int .i64 c.spread] 38)) 26 #[.int .i64 v.turn, .int .i64 v.dx, .int .i64 v.dy] (w.heap.size + 1) (by simp)).alloc (.cells #[.int .i64 0, .int .i64 0, .int .i64 0, .int .i64 0, .int .i64 0, .int .i64 0, .int .i64 0, .int .i64 0] 46))
    have hR0 := Lib.hid (Blk.new' ((w.alloc (.cells #[.int .i64 c.turns, .int .i64 c.shift, .int .i64 c.elastic, .int .i64 c.reach, .int .i64 c.spread] 38)).alloc (.cells #[.int .i64 v.turn, .int .i64 v.dx, .int .i64 v.dy] 26)) 46 #[.int .i64 0, .int .i64 0, .int .i64 0, .int .i64 0, .int .i64 0, .int .i64 0, .int .i64 0, .int .i64 0] (w.heap.size + 1 + 1) (by simp))
    generalize ((w.alloc (.cells #[.int .i64 c.turns, .int .i64 c.shift, .int .i64 c.elastic, .int .i64 c.reach, .int .i64 c.spread] 38)).alloc (.cells #[.int .i64 v.turn, .int .i64 v.dx, .int .i64 v.dy] 26)).alloc (.cells #[.int .i64 0, .int .i64 0, .int .i64 0, .int .i64 0, .int .i64 0, .int .i64 0, .int .i64 0, .int .i64 0] 46) = V at *
    have oC := Old.mk hC0.out.lt
    have oM := Old.mk hM0.out.lt
    have oR := Old.mk hR0.out.lt
    have c0 : V.cell? ⟨w.heap.size, 0, none⟩ = some (.int .i64 c.turns) := hC0.out.cell 0
    have c1 : V.cell? ⟨w.heap.size, 1, none⟩ = some (.int .i64 c.shift) := hC0.out.cell 1
    have c2 : V.cell? ⟨w.heap.size, 2, none⟩ = some (.int .i64 c.elastic) := hC0.out.cell 2
    have c3 : V.cell? ⟨w.heap.size, 3, none⟩ = some (.int .i64 c.reach) := hC0.out.cell 3
    have c4 : V.cell? ⟨w.heap.size, 4, none⟩ = some (.int .i64 c.spread) := hC0.out.cell 4
    have v0 : V.cell? ⟨w.heap.size + 1, 0, none⟩ = some (.int .i64 v.turn) := hM0.out.cell 0
    have v1 : V.cell? ⟨w.heap.size + 1, 1, none⟩ = some (.int .i64 v.dx) := hM0.out.cell 1
    have v2 : V.cell? ⟨w.heap.size + 1, 2, none⟩ = some (.int .i64 v.dy) := hM0.out.cell 2
    have z0 : V.cell? ⟨w.heap.size + 1 + 1, 0, none⟩ = some (.int .i64 0) := hR0.out.cell 0
    have z1 : V.cell? ⟨w.heap.size + 1 + 1, 1, none⟩ = some (.int .i64 0) := hR0.out.cell 1
    have z2 : V.cell? ⟨w.heap.size + 1 + 1, 2, none⟩ = some (.int .i64 0) := hR0.out.cell 2
    have z3 : V.cell? ⟨w.heap.size + 1 + 1, 3, none⟩ = some (.int .i64 0) := hR0.out.cell 3
    have z4 : V.cell? ⟨w.heap.size + 1 + 1, 4, none⟩ = some (.int .i64 0) := hR0.out.cell 4
    have z5 : V.cell? ⟨w.heap.size + 1 + 1, 5, none⟩ = some (.int .i64 0) := hR0.out.cell 5
    have z6 : V.cell? ⟨w.heap.size + 1 + 1, 6, none⟩ = some (.int .i64 0) := hR0.out.cell 6
    have z7 : V.cell? ⟨w.heap.size + 1 + 1, 7, none⟩ = some (.int .i64 0) := hR0.out.cell 7
    have zf := hR0.out.frozen
    refine Calls.ext (CA.out _ (HP.out.grow hE0.out) (HQ.out.grow hE0.out)) fun z1 => ?_
    go_wp2_with fail
    have HS := Lib.hid (store_zero (hR0.out.ext z1))
    have HEf : Hid (Ext w (((((((((ext V z1).setCell ⟨w.heap.size + 1 + 1, 0, none⟩ (.int .i64 0)).setCell ⟨w.heap.size + 1 + 1, 1, none⟩ (.int .i64 0)).setCell ⟨w.heap.size + 1 + 1, 2, none⟩ (.int .i64 0)).setCell ⟨w.heap.size + 1 + 1, 3, none⟩ (.int .i64 0)).setCell ⟨w.heap.size + 1 + 1, 4, none⟩ (.int .i64 0)).setCell ⟨w.heap.size + 1 + 1, 5, none⟩ (.int .i64 0)).setCell ⟨w.heap.size + 1 + 1, 6, none⟩ (.int .i64 0)).setCell ⟨w.heap.size + 1 + 1, 7, none⟩ (.int .i64 0))) := Lib.hid (Ext.setCell (Ext.setCell (Ext.setCell (Ext.setCell (Ext.setCell (Ext.setCell (Ext.setCell (Ext.setCell (hE0.out.ext z1) (p := ⟨w.heap.size + 1 + 1, 0, none⟩) (by show w.heap.size ≤ w.heap.size + 1 + 1; omega) (.int .i64 0)) (p := ⟨w.heap.size + 1 + 1, 1, none⟩) (by show w.heap.size ≤ w.heap.size + 1 + 1; omega) (.int .i64 0)) (p := ⟨w.heap.size + 1 + 1, 2, none⟩) (by show w.heap.size ≤ w.heap.size + 1 + 1; omega) (.int .i64 0)) (p := ⟨w.heap.size + 1 + 1, 3, none⟩) (by show w.heap.size ≤ w.heap.size + 1 + 1; omega) (.int .i64 0)) (p := ⟨w.heap.size + 1 + 1, 4, none⟩) (by show w.heap.size ≤ w.heap.size + 1 + 1; omega) (.int .i64 0)) (p := ⟨w.heap.size + 1 + 1, 5, none⟩) (by show w.heap.size ≤ w.heap.size + 1 + 1; omega) (.int .i64 0)) (p := ⟨w.heap.size + 1 + 1, 6, none⟩) (by show w.heap.size ≤ w.heap.size + 1 + 1; omega) (.int .i64 0)) (p := ⟨w.heap.size + 1 + 1, 7, none⟩) (by show w.heap.size ≤ w.heap.size + 1 + 1; omega) (.int .i64 0))
    generalize (((((((((ext V z1).setCell ⟨w.heap.size + 1 + 1, 0, none⟩ (.int .i64 0)).setCell ⟨w.heap.size + 1 + 1, 1, none⟩ (.int .i64 0)).setCell ⟨w.heap.size + 1 + 1, 2, none⟩ (.int .i64 0)).setCell ⟨w.heap.size + 1 + 1, 3, none⟩ (.int .i64 0)).setCell ⟨w.heap.size + 1 + 1, 4, none⟩ (.int .i64 0)).setCell ⟨w.heap.size + 1 + 1, 5, none⟩ (.int .i64 0)).setCell ⟨w.heap.size + 1 + 1, 6, none⟩ (.int .i64 0)).setCell ⟨w.heap.size + 1 + 1, 7, none⟩ (.int .i64 0)) = Wf at *
    have q0 : Wf.cell? ⟨w.heap.size + 1 + 1, 0, none⟩ = some (.int .i64 0) := HS.out.cell 0
    have q1 : Wf.cell? ⟨w.heap.size + 1 + 1, 1, none⟩ = some (.int .i64 0) := HS.out.cell 1
    have q2 : Wf.cell? ⟨w.heap.size + 1 + 1, 2, none⟩ = some (.int .i64 0) := HS.out.cell 2
    have q3 : Wf.cell? ⟨w.heap.size + 1 + 1, 3, none⟩ = some (.int .i64 0) := HS.out.cell 3
    have q4 : Wf.cell? ⟨w.heap.size + 1 + 1, 4, none⟩ = some (.int .i64 0) := HS.out.cell 4
    have q5 : Wf.cell? ⟨w.heap.size + 1 + 1, 5, none⟩ = some (.int .i64 0) := HS.out.cell 5
    have q6 : Wf.cell? ⟨w.heap.size + 1 + 1, 6, none⟩ = some (.int .i64 0) := HS.out.cell 6
    have q7 : Wf.cell? ⟨w.heap.size + 1 + 1, 7, none⟩ = some (.int .i64 0) := HS.out.cell 7
    refine bodyPost_ret (v := .tuple #[.agg #[.int .i64 0, .int .i64 0, .int .i64 0, .int .i64 0, .int .i64 0, .int .i64 0, .int .i64 0, .int .i64 0], .int .i64 x]) (by simp [results, Try.results24, go_sem, q0, q1, q2, q3, q4, q5, q6, q7]) rfl ⟨ret_of (by rw [HV.out]), HEf.out⟩
end Go.Proofs.Ythejomcibobieaa
