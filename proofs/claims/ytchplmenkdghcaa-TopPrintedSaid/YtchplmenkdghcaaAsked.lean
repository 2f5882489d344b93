/- Classes, blocks, and what is asked (valid 72, ValidClass 42, block 58, IsBlock 60, check 52, asked 54). -/
import Derived.Test.YtchplmenkdghcaaSearch
import Derived.Test.YtchplmenkdghcaaPlace
namespace Go.Proofs.Ytchplmenkdghcaa
open Go.RowKit
def okC (c : Cl) : Bool := inB c.turns 0 3 && inB c.shift 0 4 && inB c.elastic 0 1 && inB c.reach 0 4 && inB c.spread 0 4
theorem okC_ok {c : Cl} (h : okC c = true) : c.ok := by
  simp only [okC, Bool.and_eq_true, inB_iff] at h
  exact ⟨h.1.1.1.1, h.1.1.1.2, h.1.1.2, h.1.2, h.2⟩
theorem chP_mem : ∀ (l : List Mi) (k : Int), chP k l = true → ∀ m ∈ l, okM m = true := by
  intro l
  induction l with
  | nil => intro k _ m hm; cases hm
  | cons x l ih =>
    intro k h m hm
    simp only [chP, Bool.and_eq_true] at h
    rcases List.mem_cons.1 hm with rfl | hm
    · exact h.1.1
    · exact ih _ h.2 m hm
theorem okP_ok {l : List Mi} (h : okP l = true) (hd : ∀ m ∈ l, 0 ≤ m.dir) : (∀ m ∈ l, m.ok) ∧ l.length ≤ 12 := by
  simp only [okP, Bool.and_eq_true, decide_eq_true_eq] at h
  refine ⟨fun m hm => ?_, h.1⟩
  obtain ⟨h1, h2, _, h4⟩ := okM_parts (chP_mem l _ h.2 m hm)
  exact ⟨h1, h2, hd m hm, h4⟩
abbrev Bk.val (k : Bk) : Value := .agg #[.int .i64 k.turn, .int .i64 k.x0, .int .i64 k.y0, .int .i64 k.x1, .int .i64 k.y1]
set_option maxRecDepth 100000 in
set_option maxHeartbeats 2000000 in
theorem classP_any (c : Cl) (w : World) : Calls Try.prog 40 #[c.val] w fun e w' => e = .returned (.bool (okC c)) ∧ Ext w w' := by
  have HV := Lib.hid (show okC c = (inB c.turns 0 3 && inB c.shift 0 4 && inB c.elastic 0 1 && inB c.reach 0 4 && inB c.spread 0 4) from rfl)
  have H0 := Lib.hid (fun b q w h0 => one_any 0 3 c.turns b q w h0)
  have H1 := Lib.hid (fun b q w h0 => one_any 0 4 c.shift b q w h0)
  have H2 := Lib.hid (fun b q w h0 => one_any 0 1 c.elastic b q w h0)
  have H3 := Lib.hid (fun b q w h0 => one_any 0 4 c.reach b q w h0)
  have H4 := Lib.hid (fun b q w h0 => one_any 0 4 c.spread b q w h0)
  cases h0 : inB c.turns 0 3
  · rw [h0] at H0 HV
    go_enter Try.func40, Try.ntmps40
    go_wp2_with fail
    refine Calls.same (H0.out _ _ _ (by simp [go_sem])) ?_
    go_wp2_with fail
    go_ret
    refine ⟨ret_of (by rw [HV.out]; rfl), ?_⟩
    repeat' (first | with_reducible exact Ext.refl _ | with_reducible refine Ext.alloc ?_ _ | with_reducible refine Ext.ext ?_ _)
  · rw [h0] at H0 HV
    cases h1 : inB c.shift 0 4
    · rw [h1] at H1 HV
      go_enter Try.func40, Try.ntmps40
      go_wp2_with fail
      refine Calls.same (H0.out _ _ _ (by simp [go_sem])) ?_
      go_wp2_with fail
      refine Calls.same (H1.out _ _ _ (by simp [go_sem])) ?_
      go_wp2_with fail
      go_ret
      refine ⟨ret_of (by rw [HV.out]; rfl), ?_⟩
      repeat' (first | with_reducible exact Ext.refl _ | with_reducible refine Ext.alloc ?_ _ | with_reducible refine Ext.ext ?_ _)
    · rw [h1] at H1 HV
      cases h2 : inB c.elastic 0 1
      · rw [h2] at H2 HV
        go_enter Try.func40, Try.ntmps40
        go_wp2_with fail
        refine Calls.same (H0.out _ _ _ (by simp [go_sem])) ?_
        go_wp2_with fail
        refine Calls.same (H1.out _ _ _ (by simp [go_sem])) ?_
        go_wp2_with fail
        refine Calls.same (H2.out _ _ _ (by simp [go_sem])) ?_
        go_wp2_with fail
        go_ret
        refine ⟨ret_of (by rw [HV.out]; rfl), ?_⟩
        repeat' (first | with_reducible exact Ext.refl _ | with_reducible refine Ext.alloc ?_ _ | with_reducible refine Ext.ext ?_ _)
      · rw [h2] at H2 HV
        cases h3 : inB c.reach 0 4
        · rw [h3] at H3 HV
          go_enter Try.func40, Try.ntmps40
          go_wp2_with fail
          refine Calls.same (H0.out _ _ _ (by simp [go_sem])) ?_
          go_wp2_with fail
          refine Calls.same (H1.out _ _ _ (by simp [go_sem])) ?_
          go_wp2_with fail
          refine Calls.same (H2.out _ _ _ (by simp [go_sem])) ?_
          go_wp2_with fail
          refine Calls.same (H3.out _ _ _ (by simp [go_sem])) ?_
          go_wp2_with fail
          go_ret
          refine ⟨ret_of (by rw [HV.out]; rfl), ?_⟩
          repeat' (first | with_reducible exact Ext.refl _ | with_reducible refine Ext.alloc ?_ _ | with_reducible refine Ext.ext ?_ _)
        · rw [h3] at H3 HV
          cases h4 : inB c.spread 0 4
          · rw [h4] at H4 HV
            go_enter Try.func40, Try.ntmps40
            go_wp2_with fail
            refine Calls.same (H0.out _ _ _ (by simp [go_sem])) ?_
            go_wp2_with fail
            refine Calls.same (H1.out _ _ _ (by simp [go_sem])) ?_
            go_wp2_with fail
            refine Calls.same (H2.out _ _ _ (by simp [go_sem])) ?_
            go_wp2_with fail
            refine Calls.same (H3.out _ _ _ (by simp [go_sem])) ?_
            go_wp2_with fail
            refine Calls.same (H4.out _ _ _ (by simp [go_sem])) ?_
            go_wp2_with fail
            go_ret
            refine ⟨ret_of (by rw [HV.out]; rfl), ?_⟩
            repeat' (first | with_reducible exact Ext.refl _ | with_reducible refine Ext.alloc ?_ _ | with_reducible refine Ext.ext ?_ _)
          · rw [h4] at H4 HV
            go_enter Try.func40, Try.ntmps40
            go_wp2_with fail
            refine Calls.same (H0.out _ _ _ (by simp [go_sem])) ?_
            go_wp2_with fail
            refine Calls.same (H1.out _ _ _ (by simp [go_sem])) ?_
            go_wp2_with fail
            refine Calls.same (H2.out _ _ _ (by simp [go_sem])) ?_
            go_wp2_with fail
            refine Calls.same (H3.out _ _ _ (by simp [go_sem])) ?_
            go_wp2_with fail
            refine Calls.same (H4.out _ _ _ (by simp [go_sem])) ?_
            go_wp2_with fail
            go_ret
            refine ⟨ret_of (by rw [HV.out]; rfl), ?_⟩
            repeat' (first | with_reducible exact Ext.refl _ | with_reducible refine Ext.alloc ?_ _ | with_reducible refine Ext.ext ?_ _)
set_option maxRecDepth 100000 in
set_option maxHeartbeats 2000000 in
theorem classR_any (c : Cl) (w : World) : Calls Try.prog 6 #[c.val] w fun e w' => e = .returned (.bool (okC c)) ∧ Ext w w' := by
  have HV := Lib.hid (show okC c = (inB c.turns 0 3 && inB c.shift 0 4 && inB c.elastic 0 1 && inB c.reach 0 4 && inB c.spread 0 4) from rfl)
  have H0 := Lib.hid (fun w => within_any c.turns 0 3 w)
  have H1 := Lib.hid (fun w => within_any c.shift 0 4 w)
  have H2 := Lib.hid (fun w => within_any c.elastic 0 1 w)
  have H3 := Lib.hid (fun w => within_any c.reach 0 4 w)
  have H4 := Lib.hid (fun w => within_any c.spread 0 4 w)
  cases h0 : inB c.turns 0 3
  · rw [h0] at H0 HV
    go_enter Try.func6, Try.ntmps6
    go_wp2_with fail
    refine Calls.same (H0.out _) ?_
    go_wp2_with fail
    go_ret
    refine ⟨ret_of (by rw [HV.out]; rfl), ?_⟩
    repeat' (first | with_reducible exact Ext.refl _ | with_reducible refine Ext.alloc ?_ _ | with_reducible refine Ext.ext ?_ _)
  · rw [h0] at H0 HV
    cases h1 : inB c.shift 0 4
    · rw [h1] at H1 HV
      go_enter Try.func6, Try.ntmps6
      go_wp2_with fail
      refine Calls.same (H0.out _) ?_
      go_wp2_with fail
      refine Calls.same (H1.out _) ?_
      go_wp2_with fail
      go_ret
      refine ⟨ret_of (by rw [HV.out]; rfl), ?_⟩
      repeat' (first | with_reducible exact Ext.refl _ | with_reducible refine Ext.alloc ?_ _ | with_reducible refine Ext.ext ?_ _)
    · rw [h1] at H1 HV
      cases h2 : inB c.elastic 0 1
      · rw [h2] at H2 HV
        go_enter Try.func6, Try.ntmps6
        go_wp2_with fail
        refine Calls.same (H0.out _) ?_
        go_wp2_with fail
        refine Calls.same (H1.out _) ?_
        go_wp2_with fail
        refine Calls.same (H2.out _) ?_
        go_wp2_with fail
        go_ret
        refine ⟨ret_of (by rw [HV.out]; rfl), ?_⟩
        repeat' (first | with_reducible exact Ext.refl _ | with_reducible refine Ext.alloc ?_ _ | with_reducible refine Ext.ext ?_ _)
      · rw [h2] at H2 HV
        cases h3 : inB c.reach 0 4
        · rw [h3] at H3 HV
          go_enter Try.func6, Try.ntmps6
          go_wp2_with fail
          refine Calls.same (H0.out _) ?_
          go_wp2_with fail
          refine Calls.same (H1.out _) ?_
          go_wp2_with fail
          refine Calls.same (H2.out _) ?_
          go_wp2_with fail
          refine Calls.same (H3.out _) ?_
          go_wp2_with fail
          go_ret
          refine ⟨ret_of (by rw [HV.out]; rfl), ?_⟩
          repeat' (first | with_reducible exact Ext.refl _ | with_reducible refine Ext.alloc ?_ _ | with_reducible refine Ext.ext ?_ _)
        · rw [h3] at H3 HV
          cases h4 : inB c.spread 0 4
          · rw [h4] at H4 HV
            go_enter Try.func6, Try.ntmps6
            go_wp2_with fail
            refine Calls.same (H0.out _) ?_
            go_wp2_with fail
            refine Calls.same (H1.out _) ?_
            go_wp2_with fail
            refine Calls.same (H2.out _) ?_
            go_wp2_with fail
            refine Calls.same (H3.out _) ?_
            go_wp2_with fail
            refine Calls.same (H4.out _) ?_
            go_wp2_with fail
            go_ret
            refine ⟨ret_of (by rw [HV.out]; rfl), ?_⟩
            repeat' (first | with_reducible exact Ext.refl _ | with_reducible refine Ext.alloc ?_ _ | with_reducible refine Ext.ext ?_ _)
          · rw [h4] at H4 HV
            go_enter Try.func6, Try.ntmps6
            go_wp2_with fail
            refine Calls.same (H0.out _) ?_
            go_wp2_with fail
            refine Calls.same (H1.out _) ?_
            go_wp2_with fail
            refine Calls.same (H2.out _) ?_
            go_wp2_with fail
            refine Calls.same (H3.out _) ?_
            go_wp2_with fail
            refine Calls.same (H4.out _) ?_
            go_wp2_with fail
            go_ret
            refine ⟨ret_of (by rw [HV.out]; rfl), ?_⟩
            repeat' (first | with_reducible exact Ext.refl _ | with_reducible refine Ext.alloc ?_ _ | with_reducible refine Ext.ext ?_ _)
def askE (c : Cl) (lp lq : List Mi) : Int := if okP lp && okP lq then (if okC c then 0 else 2) else 20
set_option maxRecDepth 100000 in
set_option maxHeartbeats 2000000 in
theorem check2_any (c : Cl) (lp lq : List Mi) (hnp : lp.length ≤ 100) (hnq : lq.length ≤ 100) (Ap Aq : Option Addr) (cp cq : Nat) (w : World) (hP : Pts w Ap lp) (hQ : Pts w Aq lq) :
    Calls Try.prog 17 #[.slice Ap lp.length cp, .slice Aq lq.length cq, c.val] w fun e w' => e = .returned (.int .i64 (askE c lp lq)) ∧ Ext w w' := by
  have CP := Lib.hid (fun w h => check_any Ap cp lp w h hnp)
  have CQ := Lib.hid (fun w h => check_any Aq cq lq w h hnq)
  have CC := Lib.hid (fun w => classP_any c w)
  have HV := Lib.hid (show askE c lp lq = if okP lp && okP lq then (if okC c then 0 else 2) else 20 from rfl)
  have HP := Lib.hid hP
  have HQ := Lib.hid hQ
  unfold chkI at CP CQ
  clear hP hQ hnp hnq
  cases h0 : okP lp
  · rw [h0] at CP HV
    go_enter Try.func17, Try.ntmps17
    go_wp2_with fail
    have hE0 := (Ext.refl w).alloc (.cells #[.int .i64 c.turns, .int .i64 c.shift, .int .i64 c.elastic, .int .i64 c.reach, .int .i64 c.spread] 26)
    refine Calls.ext (CP.out _ (HP.out.grow hE0)) fun z1 => ?_
    go_wp2_with fail
    go_ret
    refine ⟨ret_of (by rw [HV.out]; rfl), ?_⟩
    repeat' (first | with_reducible exact Ext.refl _ | with_reducible refine Ext.alloc ?_ _ | with_reducible refine Ext.ext ?_ _)
  rw [h0] at CP HV
  cases h1 : okP lq
  · rw [h1] at CQ HV
    go_enter Try.func17, Try.ntmps17
    go_wp2_with fail
    have hE0 := (Ext.refl w).alloc (.cells #[.int .i64 c.turns, .int .i64 c.shift, .int .i64 c.elastic, .int .i64 c.reach, .int .i64 c.spread] 26)
    refine Calls.ext (CP.out _ (HP.out.grow hE0)) fun z1 => ?_
    go_wp2_with fail
    have hE1 := hE0.ext z1
    refine Calls.ext (CQ.out _ (HQ.out.grow hE1)) fun z2 => ?_
    go_wp2_with fail
    go_ret
    refine ⟨ret_of (by rw [HV.out]; rfl), ?_⟩
    repeat' (first | with_reducible exact Ext.refl _ | with_reducible refine Ext.alloc ?_ _ | with_reducible refine Ext.ext ?_ _)
  rw [h1] at CQ HV
  cases h2 : okC c
  · rw [h2] at CC HV
    go_enter Try.func17, Try.ntmps17
    go_wp2_with fail
    have hE0 := (Ext.refl w).alloc (.cells #[.int .i64 c.turns, .int .i64 c.shift, .int .i64 c.elastic, .int .i64 c.reach, .int .i64 c.spread] 26)
    refine Calls.ext (CP.out _ (HP.out.grow hE0)) fun z1 => ?_
    go_wp2_with fail
    have hE1 := hE0.ext z1
    refine Calls.ext (CQ.out _ (HQ.out.grow hE1)) fun z2 => ?_
    go_wp2_with fail
    refine Calls.ext (CC.out _) fun z3 => ?_
    go_wp2_with fail
    go_ret
    refine ⟨ret_of (by rw [HV.out]; rfl), ?_⟩
    repeat' (first | with_reducible exact Ext.refl _ | with_reducible refine Ext.alloc ?_ _ | with_reducible refine Ext.ext ?_ _)
  · rw [h2] at CC HV
    go_enter Try.func17, Try.ntmps17
    go_wp2_with fail
    have hE0 := (Ext.refl w).alloc (.cells #[.int .i64 c.turns, .int .i64 c.shift, .int .i64 c.elastic, .int .i64 c.reach, .int .i64 c.spread] 26)
    refine Calls.ext (CP.out _ (HP.out.grow hE0)) fun z1 => ?_
    go_wp2_with fail
    have hE1 := hE0.ext z1
    refine Calls.ext (CQ.out _ (HQ.out.grow hE1)) fun z2 => ?_
    go_wp2_with fail
    refine Calls.ext (CC.out _) fun z3 => ?_
    go_wp2_with fail
    go_ret
    refine ⟨ret_of (by rw [HV.out]; rfl), ?_⟩
    repeat' (first | with_reducible exact Ext.refl _ | with_reducible refine Ext.alloc ?_ _ | with_reducible refine Ext.ext ?_ _)
theorem askE_ok {c : Cl} {lp lq : List Mi} (h : askE c lp lq = 0) : okP lp = true ∧ okP lq = true ∧ c.ok := by
  unfold askE at h
  cases h0 : okP lp <;> cases h1 : okP lq <;> cases h2 : okC c <;> rw [h0, h1, h2] at h <;> first | exact ⟨rfl, rfl, okC_ok h2⟩ | (simp at h)
theorem askE_vals (c : Cl) (lp lq : List Mi) : askE c lp lq = 0 ∨ askE c lp lq = 2 ∨ askE c lp lq = 20 := by
  unfold askE
  cases okP lp <;> cases okP lq <;> cases okC c <;> simp
end Go.Proofs.Ytchplmenkdghcaa

