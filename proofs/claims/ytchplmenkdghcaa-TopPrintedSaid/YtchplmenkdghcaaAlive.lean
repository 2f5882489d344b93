/- The program: whether a result is proved, with its errors (CheckBest, 29). -/
import Derived.Test.YtchplmenkdghcaaProved
import Derived.Test.YtchplmenkdghcaaBest
import Derived.Test.YtchplmenkdghcaaCovers
import Derived.ChangeKeysEq
import Derived.Test.YtchplmenkdghcaaTries
import Derived.DeepKeys
import Derived.Test.YtchplmenkdghcaaTops
namespace Go.Proofs.Ytchplmenkdghcaa
open Go.RowKit
end Go.Proofs.Ytchplmenkdghcaa
namespace Go.Proofs.Ytchplmenkdghcaa
open Go.RowKit
theorem retB_none {w w' : World} {x : Int} (hE : Ext w w') : RetB ⟨[], []⟩ x w (.returned (.tuple #[.agg #[.int .i64 0, .int .i64 0, .slice none 0 0, .slice none 0 0], .int .i64 x])) w' := ⟨none, 0, none, 0, rfl, .inl rfl, .inl rfl, hE⟩
set_option maxRecDepth 100000 in
set_option maxHeartbeats 8000000 in
theorem best_err (c : Cl) (lp lq : List Mi) (n : Int) (x : Int) (hx : askE c lp lq = x) (hx2 : (x = 2 ∨ x = 20) ∨ (x = 0 ∧ inB n 0 2000 = false)) (hnp : lp.length ≤ 100) (hnq : lq.length ≤ 100) (Ap Aq : Option Addr) (cp cq : Nat) (w : World) (hP : Pts w Ap lp) (hQ : Pts w Aq lq) :
    Calls Try.prog 9 #[.slice Ap lp.length cp, .slice Aq lq.length cq, c.val, .int .i64 n] w (RetB ⟨[], []⟩ (if x = 0 then 2 else x) w) := by
  have CA := Lib.hid (fun w h1 h2 => check2_any c lp lq hnp hnq Ap Aq cp cq w h1 h2)
  rw [hx] at CA
  have CW := Lib.hid (fun (b : Nat) (w : World) (h : w.cell? ⟨b, 0, none⟩ = some (.int .i64 n)) => one_any 0 2000 n b 1 w h)
  have HP := Lib.hid hP
  have HQ := Lib.hid hQ
  have HZ := Lib.hid (fun (w' : World) (y : Int) (h : Ext w w') => retB_none (x := y) h)
  clear hP hQ hx hnp hnq
  rcases hx2 with hx2 | ⟨rfl, hn⟩
  · have hxn : (x != 0) = true := by rcases hx2 with rfl | rfl <;> rfl
    have hx0 : (if x = 0 then 2 else x) = x := by rcases hx2 with rfl | rfl <;> rfl
    rw [hx0]
    clear hx0
    go_enter Try.func9, Try.ntmps9
    go_wp2_with fail
    go_step3
    have BP := Lib.hid ((((Blk.new w 38 #[.slice Ap lp.length cp]).alloc (.cells #[.slice Aq lq.length cq] 38)).alloc (.cells #[.int .i64 c.turns, .int .i64 c.shift, .int .i64 c.elastic, .int .i64 c.reach, .int .i64 c.spread] 26)).alloc (.cells #[.int .i64 0, .int .i64 0, .slice none 0 0, .slice none 0 0] 45))
    have BQ := Lib.hid (((Blk.new' (w.alloc (.cells #[.slice Ap lp.length cp] 38)) 38 #[.slice Aq lq.length cq] (w.heap.size + 1) (by simp)).alloc (.cells #[.int .i64 c.turns, .int .i64 c.shift, .int .i64 c.elastic, .int .i64 c.reach, .int .i64 c.spread] 26)).alloc (.cells #[.int .i64 0, .int .i64 0, .slice none 0 0, .slice none 0 0] 45))
    have BC := Lib.hid ((Blk.new' ((w.alloc (.cells #[.slice Ap lp.length cp] 38)).alloc (.cells #[.slice Aq lq.length cq] 38)) 26 #[.int .i64 c.turns, .int .i64 c.shift, .int .i64 c.elastic, .int .i64 c.reach, .int .i64 c.spread] (w.heap.size + 1 + 1) (by simp)).alloc (.cells #[.int .i64 0, .int .i64 0, .slice none 0 0, .slice none 0 0] 45))
    have BR := Lib.hid (Blk.new' (((w.alloc (.cells #[.slice Ap lp.length cp] 38)).alloc (.cells #[.slice Aq lq.length cq] 38)).alloc (.cells #[.int .i64 c.turns, .int .i64 c.shift, .int .i64 c.elastic, .int .i64 c.reach, .int .i64 c.spread] 26)) 45 #[.int .i64 0, .int .i64 0, .slice none 0 0, .slice none 0 0] (w.heap.size + 1 + 1 + 1) (by simp))
    have HE0 := Lib.hid (((((Ext.refl w).alloc (.cells #[.slice Ap lp.length cp] 38)).alloc (.cells #[.slice Aq lq.length cq] 38)).alloc (.cells #[.int .i64 c.turns, .int .i64 c.shift, .int .i64 c.elastic, .int .i64 c.reach, .int .i64 c.spread] 26)).alloc (.cells #[.int .i64 0, .int .i64 0, .slice none 0 0, .slice none 0 0] 45))
    generalize (((w.alloc (.cells #[.slice Ap lp.length cp] 38)).alloc (.cells #[.slice Aq lq.length cq] 38)).alloc (.cells #[.int .i64 c.turns, .int .i64 c.shift, .int .i64 c.elastic, .int .i64 c.reach, .int .i64 c.spread] 26)).alloc (.cells #[.int .i64 0, .int .i64 0, .slice none 0 0, .slice none 0 0] 45) = V at *
    have oP := Old.mk BP.out.lt
    have oQ := Old.mk BQ.out.lt
    have oC := Old.mk BC.out.lt
    have oR := Old.mk BR.out.lt
    have p0 : V.cell? ⟨w.heap.size, 0, none⟩ = some (.slice Ap lp.length cp) := BP.out.cell 0
    have q0 : V.cell? ⟨w.heap.size + 1, 0, none⟩ = some (.slice Aq lq.length cq) := BQ.out.cell 0
    have c0 : V.cell? ⟨w.heap.size + 1 + 1, 0, none⟩ = some (.int .i64 c.turns) := BC.out.cell 0
    have c1 : V.cell? ⟨w.heap.size + 1 + 1, 1, none⟩ = some (.int .i64 c.shift) := BC.out.cell 1
    have c2 : V.cell? ⟨w.heap.size + 1 + 1, 2, none⟩ = some (.int .i64 c.elastic) := BC.out.cell 2
    have c3 : V.cell? ⟨w.heap.size + 1 + 1, 3, none⟩ = some (.int .i64 c.reach) := BC.out.cell 3
    have c4 : V.cell? ⟨w.heap.size + 1 + 1, 4, none⟩ = some (.int .i64 c.spread) := BC.out.cell 4
    have r0 : V.cell? ⟨w.heap.size + 1 + 1 + 1, 0, none⟩ = some (.int .i64 0) := BR.out.cell 0
    have r1 : V.cell? ⟨w.heap.size + 1 + 1 + 1, 1, none⟩ = some (.int .i64 0) := BR.out.cell 1
    have r2 : V.cell? ⟨w.heap.size + 1 + 1 + 1, 2, none⟩ = some (.slice none 0 0) := BR.out.cell 2
    have r3 : V.cell? ⟨w.heap.size + 1 + 1 + 1, 3, none⟩ = some (.slice none 0 0) := BR.out.cell 3
    have fR := BR.out.frozen
    go_wp2_with fail
    refine Calls.ext (CA.out _ (HP.out.grow HE0.out) (HQ.out.grow HE0.out)) fun z1 => ?_
    go_wp2_with fail
    rw [Exit.noGoto_ret]
    have HS := Lib.hid ((((BR.out.ext z1).set_ 0 (.int .i64 0)).set_ 1 (.int .i64 0)).set_ 2 (.slice none 0 0) |>.set_ 3 (.slice none 0 0))
    have HEf : Hid (Ext w (((((ext V z1).setCell ⟨w.heap.size + 1 + 1 + 1, 0, none⟩ (.int .i64 0)).setCell ⟨w.heap.size + 1 + 1 + 1, 1, none⟩ (.int .i64 0)).setCell ⟨w.heap.size + 1 + 1 + 1, 2, none⟩ (.slice none 0 0)).setCell ⟨w.heap.size + 1 + 1 + 1, 3, none⟩ (.slice none 0 0))) := Lib.hid (Ext.setCell (Ext.setCell (Ext.setCell (Ext.setCell (HE0.out.ext z1) (by show w.heap.size ≤ w.heap.size + 1 + 1 + 1; omega) _) (by show w.heap.size ≤ w.heap.size + 1 + 1 + 1; omega) _) (by show w.heap.size ≤ w.heap.size + 1 + 1 + 1; omega) _) (by show w.heap.size ≤ w.heap.size + 1 + 1 + 1; omega) _)
    generalize ((((ext V z1).setCell ⟨w.heap.size + 1 + 1 + 1, 0, none⟩ (.int .i64 0)).setCell ⟨w.heap.size + 1 + 1 + 1, 1, none⟩ (.int .i64 0)).setCell ⟨w.heap.size + 1 + 1 + 1, 2, none⟩ (.slice none 0 0)).setCell ⟨w.heap.size + 1 + 1 + 1, 3, none⟩ (.slice none 0 0) = Wf at *
    have q0 : Wf.cell? ⟨w.heap.size + 1 + 1 + 1, 0, none⟩ = some (.int .i64 0) := HS.out.cell 0
    have q1 : Wf.cell? ⟨w.heap.size + 1 + 1 + 1, 1, none⟩ = some (.int .i64 0) := HS.out.cell 1
    have q2 : Wf.cell? ⟨w.heap.size + 1 + 1 + 1, 2, none⟩ = some (.slice none 0 0) := HS.out.cell 2
    have q3 : Wf.cell? ⟨w.heap.size + 1 + 1 + 1, 3, none⟩ = some (.slice none 0 0) := HS.out.cell 3
    exact bodyPost_ret (v := .tuple #[.agg #[.int .i64 0, .int .i64 0, .slice none 0 0, .slice none 0 0], .int .i64 x]) (by simp [results, Try.results9, go_sem, q0, q1, q2, q3]) rfl (HZ.out _ _ HEf.out)
  · rw [hn] at CW
    clear hn
    go_enter Try.func9, Try.ntmps9
    go_wp2_with fail
    go_step3
    have BP := Lib.hid ((((Blk.new w 38 #[.slice Ap lp.length cp]).alloc (.cells #[.slice Aq lq.length cq] 38)).alloc (.cells #[.int .i64 c.turns, .int .i64 c.shift, .int .i64 c.elastic, .int .i64 c.reach, .int .i64 c.spread] 26)).alloc (.cells #[.int .i64 0, .int .i64 0, .slice none 0 0, .slice none 0 0] 45))
    have BQ := Lib.hid (((Blk.new' (w.alloc (.cells #[.slice Ap lp.length cp] 38)) 38 #[.slice Aq lq.length cq] (w.heap.size + 1) (by simp)).alloc (.cells #[.int .i64 c.turns, .int .i64 c.shift, .int .i64 c.elastic, .int .i64 c.reach, .int .i64 c.spread] 26)).alloc (.cells #[.int .i64 0, .int .i64 0, .slice none 0 0, .slice none 0 0] 45))
    have BC := Lib.hid ((Blk.new' ((w.alloc (.cells #[.slice Ap lp.length cp] 38)).alloc (.cells #[.slice Aq lq.length cq] 38)) 26 #[.int .i64 c.turns, .int .i64 c.shift, .int .i64 c.elastic, .int .i64 c.reach, .int .i64 c.spread] (w.heap.size + 1 + 1) (by simp)).alloc (.cells #[.int .i64 0, .int .i64 0, .slice none 0 0, .slice none 0 0] 45))
    have BR := Lib.hid (Blk.new' (((w.alloc (.cells #[.slice Ap lp.length cp] 38)).alloc (.cells #[.slice Aq lq.length cq] 38)).alloc (.cells #[.int .i64 c.turns, .int .i64 c.shift, .int .i64 c.elastic, .int .i64 c.reach, .int .i64 c.spread] 26)) 45 #[.int .i64 0, .int .i64 0, .slice none 0 0, .slice none 0 0] (w.heap.size + 1 + 1 + 1) (by simp))
    have HE0 := Lib.hid (((((Ext.refl w).alloc (.cells #[.slice Ap lp.length cp] 38)).alloc (.cells #[.slice Aq lq.length cq] 38)).alloc (.cells #[.int .i64 c.turns, .int .i64 c.shift, .int .i64 c.elastic, .int .i64 c.reach, .int .i64 c.spread] 26)).alloc (.cells #[.int .i64 0, .int .i64 0, .slice none 0 0, .slice none 0 0] 45))
    generalize (((w.alloc (.cells #[.slice Ap lp.length cp] 38)).alloc (.cells #[.slice Aq lq.length cq] 38)).alloc (.cells #[.int .i64 c.turns, .int .i64 c.shift, .int .i64 c.elastic, .int .i64 c.reach, .int .i64 c.spread] 26)).alloc (.cells #[.int .i64 0, .int .i64 0, .slice none 0 0, .slice none 0 0] 45) = V at *
    have oP := Old.mk BP.out.lt
    have oQ := Old.mk BQ.out.lt
    have oC := Old.mk BC.out.lt
    have oR := Old.mk BR.out.lt
    have p0 : V.cell? ⟨w.heap.size, 0, none⟩ = some (.slice Ap lp.length cp) := BP.out.cell 0
    have q0 : V.cell? ⟨w.heap.size + 1, 0, none⟩ = some (.slice Aq lq.length cq) := BQ.out.cell 0
    have c0 : V.cell? ⟨w.heap.size + 1 + 1, 0, none⟩ = some (.int .i64 c.turns) := BC.out.cell 0
    have c1 : V.cell? ⟨w.heap.size + 1 + 1, 1, none⟩ = some (.int .i64 c.shift) := BC.out.cell 1
    have c2 : V.cell? ⟨w.heap.size + 1 + 1, 2, none⟩ = some (.int .i64 c.elastic) := BC.out.cell 2
    have c3 : V.cell? ⟨w.heap.size + 1 + 1, 3, none⟩ = some (.int .i64 c.reach) := BC.out.cell 3
    have c4 : V.cell? ⟨w.heap.size + 1 + 1, 4, none⟩ = some (.int .i64 c.spread) := BC.out.cell 4
    have r0 : V.cell? ⟨w.heap.size + 1 + 1 + 1, 0, none⟩ = some (.int .i64 0) := BR.out.cell 0
    have r1 : V.cell? ⟨w.heap.size + 1 + 1 + 1, 1, none⟩ = some (.int .i64 0) := BR.out.cell 1
    have r2 : V.cell? ⟨w.heap.size + 1 + 1 + 1, 2, none⟩ = some (.slice none 0 0) := BR.out.cell 2
    have r3 : V.cell? ⟨w.heap.size + 1 + 1 + 1, 3, none⟩ = some (.slice none 0 0) := BR.out.cell 3
    have fR := BR.out.frozen
    go_wp2_with fail
    refine Calls.ext (CA.out _ (HP.out.grow HE0.out) (HQ.out.grow HE0.out)) fun z1 => ?_
    go_wp2_with fail
    refine Calls.same (CW.out _ _ ((Blk.new (ext V z1) 3 #[.int .i64 n]).cell 0)) ?_
    go_wp2_with fail
    rw [Exit.noGoto_ret]
    have HS := Lib.hid (((((BR.out.ext z1).alloc (.cells #[.int .i64 n] 3)).set_ 0 (.int .i64 0)).set_ 1 (.int .i64 0)).set_ 2 (.slice none 0 0) |>.set_ 3 (.slice none 0 0))
    have HEf : Hid (Ext w ((((((ext V z1).alloc (.cells #[.int .i64 n] 3)).setCell ⟨w.heap.size + 1 + 1 + 1, 0, none⟩ (.int .i64 0)).setCell ⟨w.heap.size + 1 + 1 + 1, 1, none⟩ (.int .i64 0)).setCell ⟨w.heap.size + 1 + 1 + 1, 2, none⟩ (.slice none 0 0)).setCell ⟨w.heap.size + 1 + 1 + 1, 3, none⟩ (.slice none 0 0))) := Lib.hid (Ext.setCell (Ext.setCell (Ext.setCell (Ext.setCell ((HE0.out.ext z1).alloc _) (by show w.heap.size ≤ w.heap.size + 1 + 1 + 1; omega) _) (by show w.heap.size ≤ w.heap.size + 1 + 1 + 1; omega) _) (by show w.heap.size ≤ w.heap.size + 1 + 1 + 1; omega) _) (by show w.heap.size ≤ w.heap.size + 1 + 1 + 1; omega) _)
    generalize (((((ext V z1).alloc (.cells #[.int .i64 n] 3)).setCell ⟨w.heap.size + 1 + 1 + 1, 0, none⟩ (.int .i64 0)).setCell ⟨w.heap.size + 1 + 1 + 1, 1, none⟩ (.int .i64 0)).setCell ⟨w.heap.size + 1 + 1 + 1, 2, none⟩ (.slice none 0 0)).setCell ⟨w.heap.size + 1 + 1 + 1, 3, none⟩ (.slice none 0 0) = Wf at *
    have q0 : Wf.cell? ⟨w.heap.size + 1 + 1 + 1, 0, none⟩ = some (.int .i64 0) := HS.out.cell 0
    have q1 : Wf.cell? ⟨w.heap.size + 1 + 1 + 1, 1, none⟩ = some (.int .i64 0) := HS.out.cell 1
    have q2 : Wf.cell? ⟨w.heap.size + 1 + 1 + 1, 2, none⟩ = some (.slice none 0 0) := HS.out.cell 2
    have q3 : Wf.cell? ⟨w.heap.size + 1 + 1 + 1, 3, none⟩ = some (.slice none 0 0) := HS.out.cell 3
    exact bodyPost_ret (v := .tuple #[.agg #[.int .i64 0, .int .i64 0, .slice none 0 0, .slice none 0 0], .int .i64 2]) (by simp [results, Try.results9, go_sem, q0, q1, q2, q3]) rfl (HZ.out _ _ HEf.out)
theorem Best_any (c : Cl) (lp lq : List Mi) (n : Int) (hp : ∀ m ∈ lp, 0 ≤ m.dir) (hq : ∀ m ∈ lq, 0 ≤ m.dir) (hnp : lp.length ≤ 100) (hnq : lq.length ≤ 100) (Ap Aq : Option Addr) (cp cq : Nat) (w : World) (hP : Pts w Ap lp) (hQ : Pts w Aq lq) :
    Calls Try.prog 9 #[.slice Ap lp.length cp, .slice Aq lq.length cq, c.val, .int .i64 n] w (RetB (bestS c lp lq n) (bestE c lp lq n) w) := by
  by_cases h0 : askE c lp lq = 0
  · obtain ⟨a1, a2, hc⟩ := askE_ok h0
    obtain ⟨hpo, -⟩ := okP_ok a1 hp
    obtain ⟨hqo, -⟩ := okP_ok a2 hq
    cases hn : inB n 0 2000
    · have e1 : bestE c lp lq n = 2 := by unfold bestE; rw [if_pos h0, hn]; rfl
      have e2 : bestS c lp lq n = ⟨[], []⟩ := by unfold bestS; rw [e1]; rfl
      rw [e1, e2]
      exact best_err c lp lq n 0 h0 (.inr ⟨rfl, hn⟩) hnp hnq Ap Aq cp cq w hP hQ
    · have e1 : bestE c lp lq n = 0 := by unfold bestE; rw [if_pos h0, hn]; rfl
      have e2 : bestS c lp lq n = runS (bndK c lp lq) (trK c lp lq) n.toNat (startS (bndK c lp lq) c) := by unfold bestS; rw [if_pos e1]
      rw [e1, e2]
      exact best_good c hc lp lq n (inB_iff.1 hn) hpo hqo h0 hnp hnq Ap Aq cp cq w hP hQ
  · have e1 : bestE c lp lq n = askE c lp lq := by unfold bestE; rw [if_neg h0]
    have e2 : bestS c lp lq n = ⟨[], []⟩ := by unfold bestS; rw [e1, if_neg h0]
    obtain ⟨x, hx, hx2⟩ := ask_err h0
    have := best_err c lp lq n x hx (.inl hx2) hnp hnq Ap Aq cp cq w hP hQ
    rw [e1, e2, hx]
    have hx0 : (if x = 0 then 2 else x) = x := by rcases hx2 with rfl | rfl <;> rfl
    rw [hx0] at this
    exact this
end Go.Proofs.Ytchplmenkdghcaa
namespace Go.Proofs.Ytchplmenkdghcaa
open Go.RowKit
theorem best_ok {c : Cl} {lp lq : List Mi} {n : Int} (h : bestE c lp lq n = 0) : askE c lp lq = 0 ∧ 0 ≤ n ∧ n ≤ 2000 ∧ bestS c lp lq n = runS (bndK c lp lq) (trK c lp lq) n.toNat (startS (bndK c lp lq) c) := by
  have h0 := h
  unfold bestE at h
  split at h
  · rename_i h1
    split at h
    · rename_i h2
      have := inB_iff.1 h2
      exact ⟨h1, this.1, this.2, by unfold bestS; rw [if_pos h0]⟩
    · cases h
  · rename_i h1
    exact absurd h h1
theorem scrK_le (c : Cl) (lp lq : List Mi) (v : Mv) (b : Nat → Int) : scrK c lp lq v b ≤ lp.length ∧ scrK c lp lq v b ≤ lq.length := by
  have h := mmk_max (nbF lq.length (mayL c lp lq v b)) lp.length
  have h1 := isMax_left h
  have h2 := isMax_right (n := lq.length) (fun i j _ hj => (nbF_lt hj).1) h
  unfold scrK
  omega
end Go.Proofs.Ytchplmenkdghcaa
namespace Go.Proofs.Ytchplmenkdghcaa
open Go.RowKit
/-- the call of Best, for the walks -/
theorem call_best {P : Program} {f : FuncId} {args : Array Value} {s : St} {x : Int} {w : World} {R : Ending → World → Prop} (h : Calls P f args w (RetB s x w)) (hR : ∀ A1 c1 A2 c2 z, Ats (ext w z) A1 s.att → Rss (ext w z) A2 s.left → R (.returned (.tuple #[.agg #[.int .i64 (scoreS s), .int .i64 (boundS s), .slice A1 s.att.length c1, .slice A2 s.left.length c2], .int .i64 x])) (ext w z)) : Calls P f args w R :=
  h.mono fun e w' ⟨A1, c1, A2, c2, he, h1, h2, hw⟩ => by
    subst he
    have := hR A1 c1 A2 c2 w'
    rw [ext_of hw] at this
    exact this h1 h2
end Go.Proofs.Ytchplmenkdghcaa

