/- The exported talk, both sides. -/
import Derived.Test.YtfdcapblgdlkaaaTalked
import Derived.Test.YtfdcapblgdlkaaaExp
namespace Go.Proofs.Ytfdcapblgdlkaaa
open Go.RowKit

theorem wpList_load_row_g {P : Program} {ops : Array Oper} {rest : List Oper} {o : Oper} {a : Act} {w : World} {Q : Exit → Act → World → Prop} (ty : TypeId) (x : Operand) (ho : o.op = .load ty x) (hw : Region.wanted o (yielded ops a.tmps) = true)
    (g : Nat) (hx : a.eval x = .pointer (some ⟨g, 0, none⟩)) (t : TypeId) (cs : Array Value) (fr : Nat × Nat) (d : TypeDesc) (hg : w.heap[g]? = some (.cells cs t fr))
    (hu : P.underlying ty = some d) (hd : (match d with | .struct _ | .array _ _ => true | _ => false) = true) (hi : (P.info? ty).map (·.size) = some cs.size)
    (h : wpList P ops Q rest (a.put o.dst (.agg cs)) w) : wpList P ops Q (o :: rest) a w := by
  unfold wpList
  rw [if_pos hw]
  exact .inl (wp_load_row ty x ho g hx t cs fr d hg hu hd hi h)
theorem info26 (p : Pty) : (Try.prog.info? 26).map (·.size) = some p.cells.size := by rw [Pty.size]; kernel_rfl
def talkErr (p q : Pty) (x y : BitVec 16) : Int := if p.okB && q.okB then (if fitB 15 x && fitB 15 y then 0 else 2) else 60
def playC (p q : Pty) (x y : BitVec 16) : Array Value := if talkErr p q x y = 0 then (talkOf p q x y).cells else Z35
end Go.Proofs.Ytfdcapblgdlkaaa
/- The exported talk, both sides. -/
namespace Go.Proofs.Ytfdcapblgdlkaaa
open Go.RowKit
theorem z35t' : Z35.size = Z35.size := rfl
theorem z35_one : Z35.all (·.oneCell') = true := by kernel_rfl
theorem info29z : (Try.prog.info? 29).map (·.size) = some Z35.size := by kernel_rfl
theorem talkErr_p {p q : Pty} {x y : BitVec 16} (h : p.okB = false) : talkErr p q x y = 60 := by unfold talkErr; rw [h]; rfl
theorem talkErr_q {p q : Pty} {x y : BitVec 16} (h : q.okB = false) : talkErr p q x y = 60 := by unfold talkErr; rw [h, Bool.and_false]; rfl
theorem talkErr_x {p q : Pty} {x y : BitVec 16} (hp : p.okB = true) (hq : q.okB = true) (h : fitB 15 x = false) : talkErr p q x y = 2 := by unfold talkErr; rw [hp, hq, h]; rfl
theorem talkErr_y {p q : Pty} {x y : BitVec 16} (hp : p.okB = true) (hq : q.okB = true) (h : fitB 15 y = false) : talkErr p q x y = 2 := by unfold talkErr; rw [hp, hq, h, Bool.and_false]; rfl
theorem talkErr_0 {p q : Pty} {x y : BitVec 16} (hp : p.okB = true) (hq : q.okB = true) (h : fitB 15 x = true) (h2 : fitB 15 y = true) : talkErr p q x y = 0 := by unfold talkErr; rw [hp, hq, h, h2]; rfl
theorem playC_e {p q : Pty} {x y : BitVec 16} (h : talkErr p q x y ≠ 0) : playC p q x y = Z35 := by unfold playC; rw [if_neg h]
theorem playC_0 {p q : Pty} {x y : BitVec 16} (h : talkErr p q x y = 0) : playC p q x y = (talkOf p q x y).cells := by unfold playC; rw [if_pos h]
theorem ok_m {p : Pty} (hk : p.okB = true) (h : p.ok) : (∀ i, i < 15 → 0 ≤ p.m i ∧ p.m i < 31) ∧ (∀ i, i < 15 → 0 ≤ p.s i ∧ p.s i < 31) ∧ (0 ≤ p.sh ∧ p.sh < 31) := by
  unfold Pty.okB at hk
  simp only [Bool.and_eq_true, decide_eq_true_eq] at hk
  exact ⟨fun i hi => ⟨(h.m i hi).1, num_at hk.1.1.1 i hi⟩, fun i hi => ⟨(h.s i hi).1, num_at hk.1.1.2 i hi⟩, h.sh.1, hk.1.2⟩
theorem p15 : ((2 ^ 15 : Nat) : Int) = 32768 := rfl
theorem fit15 {x : BitVec 16} (h : fitB 15 x = true) : uv x < 32768 := by have := fit_lt h; rwa [p15] at this
theorem fit15' {x : BitVec 16} (h : fitB 15 x = false) : 32768 ≤ uv x := by have := fit_ge h; rwa [p15] at this
set_option maxRecDepth 100000 in
set_option maxHeartbeats 4000000 in
theorem Play_any (p q : Pty) (x y : BitVec 16) (hp : p.ok) (hq : q.ok) (w : World) : Calls Try.prog 17 #[p.val, q.val, .int .u16 (uv x), .int .u16 (uv y)] w fun e w' => e = .returned (.tuple #[.agg (playC p q x y), .int .i64 (talkErr p q x y)]) ∧ Ext w w' := by
  have C1 := Lib.hid (fun w => party_any p w)
  have C2 := Lib.hid (fun w => party_any q w)
  cases hp1 : p.okB
  · rw [hp1] at C1
    have HV := Lib.hid (talkErr_p (q := q) (x := x) (y := y) hp1)
    have HC := Lib.hid (playC_e (x := x) (y := y) (p := p) (q := q) (by rw [HV.out]; decide))
    go_enter Try.func17, Try.ntmps17
    go_wp2_with (refine wpList_load_row rfl 26 (.tmp 4) rfl (w.heap.size) rfl 26 p.cells (0, 0) _ (((Blk.new w 26 p.cells).alloc _).alloc _) Try.underlying26 rfl (info26 p) ?_)
    change Calls _ _ _ (((w.alloc (.cells p.cells 26)).alloc (.cells q.cells 26)).alloc (.cells Z35 29)) _
    refine Calls.ext (C1.out _) fun z1 => ?_
    have H4 := Lib.hid ((((Blk.new w 26 p.cells).alloc (.cells q.cells 26)).alloc (.cells Z35 29)).ext z1)
    have H5 := Lib.hid (((Blk.new' (w.alloc (.cells p.cells 26)) 26 q.cells (w.heap.size + 1) (by simp)).alloc (.cells Z35 29)).ext z1)
    have H8 := Lib.hid ((Blk.new' ((w.alloc (.cells p.cells 26)).alloc (.cells q.cells 26)) 29 Z35 (w.heap.size + 1 + 1) (by simp)).ext z1)
    have HE := Lib.hid (((((Ext.refl w).alloc (.cells p.cells 26)).alloc (.cells q.cells 26)).alloc (.cells Z35 29)).ext z1)
    generalize ext (((w.alloc (.cells p.cells 26)).alloc (.cells q.cells 26)).alloc (.cells Z35 29)) z1 = W at *
    go_wp2_with (refine wpList_store_row rfl 29 (.tmp 8) (.tmp 18) rfl (w.heap.size + 1 + 1) rfl 29 Z35 Z35 rfl (H8.out) info29z z35t' z35_one ?_)
    refine bodyPost_ret (results_cell_tmp rfl _ _ (w.heap.size + 1 + 1) 29 Z35 (0, 0) _ rfl (Blk.row (H8.out) _) Try.underlying29 rfl info29z) rfl ⟨ret_of (by rw [HV.out, HC.out]; rfl), Ext.row (HE.out) (by omega) _⟩
  · rw [hp1] at C1
    cases hq1 : q.okB
    · rw [hq1] at C2
      have HV := Lib.hid (talkErr_q (p := p) (x := x) (y := y) hq1)
      have HC := Lib.hid (playC_e (x := x) (y := y) (p := p) (q := q) (by rw [HV.out]; decide))
      go_enter Try.func17, Try.ntmps17
      go_wp2_with (refine wpList_load_row rfl 26 (.tmp 4) rfl (w.heap.size) rfl 26 p.cells (0, 0) _ (((Blk.new w 26 p.cells).alloc _).alloc _) Try.underlying26 rfl (info26 p) ?_)
      change Calls _ _ _ (((w.alloc (.cells p.cells 26)).alloc (.cells q.cells 26)).alloc (.cells Z35 29)) _
      refine Calls.ext (C1.out _) fun z1 => ?_
      have H4 := Lib.hid ((((Blk.new w 26 p.cells).alloc (.cells q.cells 26)).alloc (.cells Z35 29)).ext z1)
      have H5 := Lib.hid (((Blk.new' (w.alloc (.cells p.cells 26)) 26 q.cells (w.heap.size + 1) (by simp)).alloc (.cells Z35 29)).ext z1)
      have H8 := Lib.hid ((Blk.new' ((w.alloc (.cells p.cells 26)).alloc (.cells q.cells 26)) 29 Z35 (w.heap.size + 1 + 1) (by simp)).ext z1)
      have HE := Lib.hid (((((Ext.refl w).alloc (.cells p.cells 26)).alloc (.cells q.cells 26)).alloc (.cells Z35 29)).ext z1)
      generalize ext (((w.alloc (.cells p.cells 26)).alloc (.cells q.cells 26)).alloc (.cells Z35 29)) z1 = W at *
      go_wp2_with (refine wpList_load_row_g 26 (.tmp 5) rfl (by kernel_rfl) (w.heap.size + 1) rfl 26 q.cells (0, 0) _ H5.out Try.underlying26 rfl (info26 q) ?_)
      refine Calls.ext (C2.out _) fun z2 => ?_
      go_wp2_with (refine wpList_store_row rfl 29 (.tmp 8) (.tmp 18) rfl (w.heap.size + 1 + 1) rfl 29 Z35 Z35 rfl (H8.out.ext z2) info29z z35t' z35_one ?_)
      refine bodyPost_ret (results_cell_tmp rfl _ _ (w.heap.size + 1 + 1) 29 Z35 (0, 0) _ rfl (Blk.row (H8.out.ext z2) _) Try.underlying29 rfl info29z) rfl ⟨ret_of (by rw [HV.out, HC.out]; rfl), Ext.row (HE.out.ext z2) (by omega) _⟩
    · rw [hq1] at C2
      have C3 := Lib.hid (fun w => play_any p q x y hp.m hq.m hp.s hq.s hp.sh hq.sh w)
      have HX := Lib.hid (uv_lt x)
      have HY := Lib.hid (uv_lt y)
      cases hx1 : fitB 15 x
      · have HV := Lib.hid (talkErr_x (y := y) hp1 hq1 hx1)
        have HC := Lib.hid (playC_e (x := x) (y := y) (p := p) (q := q) (by rw [HV.out]; decide))
        have hx2 := fit15' hx1
        generalize uv x = a at *
        generalize uv y = b at *
        by_cases hxy : a < b
        · have bxy : decide (a < b) = true := by simpa using hxy
          have b1 : decide (32768 ≤ b) = true := by simp; omega
          clear hxy
          go_enter Try.func17, Try.ntmps17
          go_wp2_with (refine wpList_load_row rfl 26 (.tmp 4) rfl (w.heap.size) rfl 26 p.cells (0, 0) _ (((Blk.new w 26 p.cells).alloc _).alloc _) Try.underlying26 rfl (info26 p) ?_)
          change Calls _ _ _ (((w.alloc (.cells p.cells 26)).alloc (.cells q.cells 26)).alloc (.cells Z35 29)) _
          refine Calls.ext (C1.out _) fun z1 => ?_
          have H4 := Lib.hid ((((Blk.new w 26 p.cells).alloc (.cells q.cells 26)).alloc (.cells Z35 29)).ext z1)
          have H5 := Lib.hid (((Blk.new' (w.alloc (.cells p.cells 26)) 26 q.cells (w.heap.size + 1) (by simp)).alloc (.cells Z35 29)).ext z1)
          have H8 := Lib.hid ((Blk.new' ((w.alloc (.cells p.cells 26)).alloc (.cells q.cells 26)) 29 Z35 (w.heap.size + 1 + 1) (by simp)).ext z1)
          have HE := Lib.hid (((((Ext.refl w).alloc (.cells p.cells 26)).alloc (.cells q.cells 26)).alloc (.cells Z35 29)).ext z1)
          generalize ext (((w.alloc (.cells p.cells 26)).alloc (.cells q.cells 26)).alloc (.cells Z35 29)) z1 = W at *
          go_wp2_with (refine wpList_load_row_g 26 (.tmp 5) rfl (by kernel_rfl) (w.heap.size + 1) rfl 26 q.cells (0, 0) _ H5.out Try.underlying26 rfl (info26 q) ?_)
          refine Calls.ext (C2.out _) fun z2 => ?_
          go_wp2_with (refine wpList_store_row rfl 29 (.tmp 8) (.tmp 23) rfl (w.heap.size + 1 + 1) rfl 29 Z35 Z35 rfl (H8.out.ext z2) info29z z35t' z35_one ?_)
          refine bodyPost_ret (results_cell_tmp rfl _ _ (w.heap.size + 1 + 1) 29 Z35 (0, 0) _ rfl (Blk.row (H8.out.ext z2) _) Try.underlying29 rfl info29z) rfl ⟨ret_of (by rw [HV.out, HC.out]; rfl), Ext.row (HE.out.ext z2) (by omega) _⟩
        · have bxy : decide (a < b) = false := by simpa using hxy
          have b1 : decide (32768 ≤ a) = true := by simp; omega
          clear hxy
          go_enter Try.func17, Try.ntmps17
          go_wp2_with (refine wpList_load_row rfl 26 (.tmp 4) rfl (w.heap.size) rfl 26 p.cells (0, 0) _ (((Blk.new w 26 p.cells).alloc _).alloc _) Try.underlying26 rfl (info26 p) ?_)
          change Calls _ _ _ (((w.alloc (.cells p.cells 26)).alloc (.cells q.cells 26)).alloc (.cells Z35 29)) _
          refine Calls.ext (C1.out _) fun z1 => ?_
          have H4 := Lib.hid ((((Blk.new w 26 p.cells).alloc (.cells q.cells 26)).alloc (.cells Z35 29)).ext z1)
          have H5 := Lib.hid (((Blk.new' (w.alloc (.cells p.cells 26)) 26 q.cells (w.heap.size + 1) (by simp)).alloc (.cells Z35 29)).ext z1)
          have H8 := Lib.hid ((Blk.new' ((w.alloc (.cells p.cells 26)).alloc (.cells q.cells 26)) 29 Z35 (w.heap.size + 1 + 1) (by simp)).ext z1)
          have HE := Lib.hid (((((Ext.refl w).alloc (.cells p.cells 26)).alloc (.cells q.cells 26)).alloc (.cells Z35 29)).ext z1)
          generalize ext (((w.alloc (.cells p.cells 26)).alloc (.cells q.cells 26)).alloc (.cells Z35 29)) z1 = W at *
          go_wp2_with (refine wpList_load_row_g 26 (.tmp 5) rfl (by kernel_rfl) (w.heap.size + 1) rfl 26 q.cells (0, 0) _ H5.out Try.underlying26 rfl (info26 q) ?_)
          refine Calls.ext (C2.out _) fun z2 => ?_
          go_wp2_with (refine wpList_store_row rfl 29 (.tmp 8) (.tmp 23) rfl (w.heap.size + 1 + 1) rfl 29 Z35 Z35 rfl (H8.out.ext z2) info29z z35t' z35_one ?_)
          refine bodyPost_ret (results_cell_tmp rfl _ _ (w.heap.size + 1 + 1) 29 Z35 (0, 0) _ rfl (Blk.row (H8.out.ext z2) _) Try.underlying29 rfl info29z) rfl ⟨ret_of (by rw [HV.out, HC.out]; rfl), Ext.row (HE.out.ext z2) (by omega) _⟩
      · cases hy1 : fitB 15 y
        · have HV := Lib.hid (talkErr_y (x := x) hp1 hq1 hy1)
          have HC := Lib.hid (playC_e (x := x) (y := y) (p := p) (q := q) (by rw [HV.out]; decide))
          have hx2 := fit15' hy1
          have hx3 := fit15 hx1
          generalize uv x = a at *
          generalize uv y = b at *
          by_cases hxy : a < b
          · have bxy : decide (a < b) = true := by simpa using hxy
            have b1 : decide (32768 ≤ b) = true := by simp; omega
            clear hxy
            go_enter Try.func17, Try.ntmps17
            go_wp2_with (refine wpList_load_row rfl 26 (.tmp 4) rfl (w.heap.size) rfl 26 p.cells (0, 0) _ (((Blk.new w 26 p.cells).alloc _).alloc _) Try.underlying26 rfl (info26 p) ?_)
            change Calls _ _ _ (((w.alloc (.cells p.cells 26)).alloc (.cells q.cells 26)).alloc (.cells Z35 29)) _
            refine Calls.ext (C1.out _) fun z1 => ?_
            have H4 := Lib.hid ((((Blk.new w 26 p.cells).alloc (.cells q.cells 26)).alloc (.cells Z35 29)).ext z1)
            have H5 := Lib.hid (((Blk.new' (w.alloc (.cells p.cells 26)) 26 q.cells (w.heap.size + 1) (by simp)).alloc (.cells Z35 29)).ext z1)
            have H8 := Lib.hid ((Blk.new' ((w.alloc (.cells p.cells 26)).alloc (.cells q.cells 26)) 29 Z35 (w.heap.size + 1 + 1) (by simp)).ext z1)
            have HE := Lib.hid (((((Ext.refl w).alloc (.cells p.cells 26)).alloc (.cells q.cells 26)).alloc (.cells Z35 29)).ext z1)
            generalize ext (((w.alloc (.cells p.cells 26)).alloc (.cells q.cells 26)).alloc (.cells Z35 29)) z1 = W at *
            go_wp2_with (refine wpList_load_row_g 26 (.tmp 5) rfl (by kernel_rfl) (w.heap.size + 1) rfl 26 q.cells (0, 0) _ H5.out Try.underlying26 rfl (info26 q) ?_)
            refine Calls.ext (C2.out _) fun z2 => ?_
            go_wp2_with (refine wpList_store_row rfl 29 (.tmp 8) (.tmp 23) rfl (w.heap.size + 1 + 1) rfl 29 Z35 Z35 rfl (H8.out.ext z2) info29z z35t' z35_one ?_)
            refine bodyPost_ret (results_cell_tmp rfl _ _ (w.heap.size + 1 + 1) 29 Z35 (0, 0) _ rfl (Blk.row (H8.out.ext z2) _) Try.underlying29 rfl info29z) rfl ⟨ret_of (by rw [HV.out, HC.out]; rfl), Ext.row (HE.out.ext z2) (by omega) _⟩
          · have bxy : decide (a < b) = false := by simpa using hxy
            exfalso; omega
        · have HV := Lib.hid (talkErr_0 hp1 hq1 hx1 hy1)
          have HC := Lib.hid (playC_0 HV.out)
          have hx2 := fit15 hx1
          have hx3 := fit15 hy1
          generalize uv x = a at *
          generalize uv y = b at *
          by_cases hxy : a < b
          · have bxy : decide (a < b) = true := by simpa using hxy
            have b1 : decide (32768 ≤ b) = false := by simp; omega
            clear hxy
            go_enter Try.func17, Try.ntmps17
            go_wp2_with (refine wpList_load_row rfl 26 (.tmp 4) rfl (w.heap.size) rfl 26 p.cells (0, 0) _ (((Blk.new w 26 p.cells).alloc _).alloc _) Try.underlying26 rfl (info26 p) ?_)
            change Calls _ _ _ (((w.alloc (.cells p.cells 26)).alloc (.cells q.cells 26)).alloc (.cells Z35 29)) _
            refine Calls.ext (C1.out _) fun z1 => ?_
            have H4 := Lib.hid ((((Blk.new w 26 p.cells).alloc (.cells q.cells 26)).alloc (.cells Z35 29)).ext z1)
            have H5 := Lib.hid (((Blk.new' (w.alloc (.cells p.cells 26)) 26 q.cells (w.heap.size + 1) (by simp)).alloc (.cells Z35 29)).ext z1)
            have H8 := Lib.hid ((Blk.new' ((w.alloc (.cells p.cells 26)).alloc (.cells q.cells 26)) 29 Z35 (w.heap.size + 1 + 1) (by simp)).ext z1)
            have HE := Lib.hid (((((Ext.refl w).alloc (.cells p.cells 26)).alloc (.cells q.cells 26)).alloc (.cells Z35 29)).ext z1)
            generalize ext (((w.alloc (.cells p.cells 26)).alloc (.cells q.cells 26)).alloc (.cells Z35 29)) z1 = W at *
            go_wp2_with (refine wpList_load_row_g 26 (.tmp 5) rfl (by kernel_rfl) (w.heap.size + 1) rfl 26 q.cells (0, 0) _ H5.out Try.underlying26 rfl (info26 q) ?_)
            refine Calls.ext (C2.out _) fun z2 => ?_
            go_wp2_with (first | (refine wpList_load_row rfl 26 (.tmp 4) rfl (w.heap.size) rfl 26 p.cells (0, 0) _ (H4.out.ext z2) Try.underlying26 rfl (info26 p) ?_) | (refine wpList_load_row rfl 26 (.tmp 5) rfl (w.heap.size + 1) rfl 26 q.cells (0, 0) _ (H5.out.ext z2) Try.underlying26 rfl (info26 q) ?_))
            refine Calls.ext (C3.out _) fun z9 => ?_
            go_wp2_with (refine wpList_store_row rfl 29 (.tmp 8) (.tmp 28) rfl (w.heap.size + 1 + 1) rfl 29 Z35 (talkOf p q x y).cells rfl ((H8.out.ext z2).ext z9) (info29t _) (z35t _) tlk_one ?_)
            refine bodyPost_ret (results_cell_tmp rfl _ _ (w.heap.size + 1 + 1) 29 (talkOf p q x y).cells (0, 0) _ rfl (Blk.row ((H8.out.ext z2).ext z9) _) Try.underlying29 rfl (info29t _)) rfl ⟨ret_of (by rw [HV.out, HC.out]; rfl), Ext.row ((HE.out.ext z2).ext z9) (by omega) _⟩
          · have bxy : decide (a < b) = false := by simpa using hxy
            have b1 : decide (32768 ≤ a) = false := by simp; omega
            clear hxy
            go_enter Try.func17, Try.ntmps17
            go_wp2_with (refine wpList_load_row rfl 26 (.tmp 4) rfl (w.heap.size) rfl 26 p.cells (0, 0) _ (((Blk.new w 26 p.cells).alloc _).alloc _) Try.underlying26 rfl (info26 p) ?_)
            change Calls _ _ _ (((w.alloc (.cells p.cells 26)).alloc (.cells q.cells 26)).alloc (.cells Z35 29)) _
            refine Calls.ext (C1.out _) fun z1 => ?_
            have H4 := Lib.hid ((((Blk.new w 26 p.cells).alloc (.cells q.cells 26)).alloc (.cells Z35 29)).ext z1)
            have H5 := Lib.hid (((Blk.new' (w.alloc (.cells p.cells 26)) 26 q.cells (w.heap.size + 1) (by simp)).alloc (.cells Z35 29)).ext z1)
            have H8 := Lib.hid ((Blk.new' ((w.alloc (.cells p.cells 26)).alloc (.cells q.cells 26)) 29 Z35 (w.heap.size + 1 + 1) (by simp)).ext z1)
            have HE := Lib.hid (((((Ext.refl w).alloc (.cells p.cells 26)).alloc (.cells q.cells 26)).alloc (.cells Z35 29)).ext z1)
            generalize ext (((w.alloc (.cells p.cells 26)).alloc (.cells q.cells 26)).alloc (.cells Z35 29)) z1 = W at *
            go_wp2_with (refine wpList_load_row_g 26 (.tmp 5) rfl (by kernel_rfl) (w.heap.size + 1) rfl 26 q.cells (0, 0) _ H5.out Try.underlying26 rfl (info26 q) ?_)
            refine Calls.ext (C2.out _) fun z2 => ?_
            go_wp2_with (first | (refine wpList_load_row rfl 26 (.tmp 4) rfl (w.heap.size) rfl 26 p.cells (0, 0) _ (H4.out.ext z2) Try.underlying26 rfl (info26 p) ?_) | (refine wpList_load_row rfl 26 (.tmp 5) rfl (w.heap.size + 1) rfl 26 q.cells (0, 0) _ (H5.out.ext z2) Try.underlying26 rfl (info26 q) ?_))
            refine Calls.ext (C3.out _) fun z9 => ?_
            go_wp2_with (refine wpList_store_row rfl 29 (.tmp 8) (.tmp 28) rfl (w.heap.size + 1 + 1) rfl 29 Z35 (talkOf p q x y).cells rfl ((H8.out.ext z2).ext z9) (info29t _) (z35t _) tlk_one ?_)
            refine bodyPost_ret (results_cell_tmp rfl _ _ (w.heap.size + 1 + 1) 29 (talkOf p q x y).cells (0, 0) _ rfl (Blk.row ((H8.out.ext z2).ext z9) _) Try.underlying29 rfl (info29t _)) rfl ⟨ret_of (by rw [HV.out, HC.out]; rfl), Ext.row ((HE.out.ext z2).ext z9) (by omega) _⟩
set_option maxRecDepth 100000 in
set_option maxHeartbeats 4000000 in
theorem refPlay_any (p q : Pty) (x y : BitVec 16) (hp : p.ok) (hq : q.ok) (w : World) : Calls Try.prog 18 #[p.val, q.val, .int .u16 (uv x), .int .u16 (uv y)] w fun e w' => e = .returned (.tuple #[.agg (playC p q x y), .int .i64 (talkErr p q x y)]) ∧ Ext w w' := by
  have C1 := Lib.hid (fun w => validParty_any p hp w)
  have C2 := Lib.hid (fun w => validParty_any q hq w)
  cases hp1 : p.okB
  · rw [hp1] at C1
    have HV := Lib.hid (talkErr_p (q := q) (x := x) (y := y) hp1)
    have HC := Lib.hid (playC_e (x := x) (y := y) (p := p) (q := q) (by rw [HV.out]; decide))
    go_enter Try.func18, Try.ntmps18
    go_wp2_with (refine wpList_load_row rfl 26 (.tmp 4) rfl (w.heap.size) rfl 26 p.cells (0, 0) _ (((Blk.new w 26 p.cells).alloc _).alloc _) Try.underlying26 rfl (info26 p) ?_)
    change Calls _ _ _ (((w.alloc (.cells p.cells 26)).alloc (.cells q.cells 26)).alloc (.cells Z35 29)) _
    refine Calls.ext (C1.out _) fun z1 => ?_
    have H4 := Lib.hid ((((Blk.new w 26 p.cells).alloc (.cells q.cells 26)).alloc (.cells Z35 29)).ext z1)
    have H5 := Lib.hid (((Blk.new' (w.alloc (.cells p.cells 26)) 26 q.cells (w.heap.size + 1) (by simp)).alloc (.cells Z35 29)).ext z1)
    have H8 := Lib.hid ((Blk.new' ((w.alloc (.cells p.cells 26)).alloc (.cells q.cells 26)) 29 Z35 (w.heap.size + 1 + 1) (by simp)).ext z1)
    have HE := Lib.hid (((((Ext.refl w).alloc (.cells p.cells 26)).alloc (.cells q.cells 26)).alloc (.cells Z35 29)).ext z1)
    generalize ext (((w.alloc (.cells p.cells 26)).alloc (.cells q.cells 26)).alloc (.cells Z35 29)) z1 = W at *
    go_wp2_with (refine wpList_store_row rfl 29 (.tmp 8) (.tmp 18) rfl (w.heap.size + 1 + 1) rfl 29 Z35 Z35 rfl (H8.out) info29z z35t' z35_one ?_)
    refine bodyPost_ret (results_cell_tmp rfl _ _ (w.heap.size + 1 + 1) 29 Z35 (0, 0) _ rfl (Blk.row (H8.out) _) Try.underlying29 rfl info29z) rfl ⟨ret_of (by rw [HV.out, HC.out]; rfl), Ext.row (HE.out) (by omega) _⟩
  · rw [hp1] at C1
    cases hq1 : q.okB
    · rw [hq1] at C2
      have HV := Lib.hid (talkErr_q (p := p) (x := x) (y := y) hq1)
      have HC := Lib.hid (playC_e (x := x) (y := y) (p := p) (q := q) (by rw [HV.out]; decide))
      go_enter Try.func18, Try.ntmps18
      go_wp2_with (refine wpList_load_row rfl 26 (.tmp 4) rfl (w.heap.size) rfl 26 p.cells (0, 0) _ (((Blk.new w 26 p.cells).alloc _).alloc _) Try.underlying26 rfl (info26 p) ?_)
      change Calls _ _ _ (((w.alloc (.cells p.cells 26)).alloc (.cells q.cells 26)).alloc (.cells Z35 29)) _
      refine Calls.ext (C1.out _) fun z1 => ?_
      have H4 := Lib.hid ((((Blk.new w 26 p.cells).alloc (.cells q.cells 26)).alloc (.cells Z35 29)).ext z1)
      have H5 := Lib.hid (((Blk.new' (w.alloc (.cells p.cells 26)) 26 q.cells (w.heap.size + 1) (by simp)).alloc (.cells Z35 29)).ext z1)
      have H8 := Lib.hid ((Blk.new' ((w.alloc (.cells p.cells 26)).alloc (.cells q.cells 26)) 29 Z35 (w.heap.size + 1 + 1) (by simp)).ext z1)
      have HE := Lib.hid (((((Ext.refl w).alloc (.cells p.cells 26)).alloc (.cells q.cells 26)).alloc (.cells Z35 29)).ext z1)
      generalize ext (((w.alloc (.cells p.cells 26)).alloc (.cells q.cells 26)).alloc (.cells Z35 29)) z1 = W at *
      go_wp2_with (refine wpList_load_row_g 26 (.tmp 5) rfl (by kernel_rfl) (w.heap.size + 1) rfl 26 q.cells (0, 0) _ H5.out Try.underlying26 rfl (info26 q) ?_)
      refine Calls.ext (C2.out _) fun z2 => ?_
      go_wp2_with (refine wpList_store_row rfl 29 (.tmp 8) (.tmp 18) rfl (w.heap.size + 1 + 1) rfl 29 Z35 Z35 rfl (H8.out.ext z2) info29z z35t' z35_one ?_)
      refine bodyPost_ret (results_cell_tmp rfl _ _ (w.heap.size + 1 + 1) 29 Z35 (0, 0) _ rfl (Blk.row (H8.out.ext z2) _) Try.underlying29 rfl info29z) rfl ⟨ret_of (by rw [HV.out, HC.out]; rfl), Ext.row (HE.out.ext z2) (by omega) _⟩
    · rw [hq1] at C2
      have C3 := Lib.hid (fun w => talked_any p q x y (ok_m hp1 hp).1 (ok_m hq1 hq).1 (ok_m hp1 hp).2.1 (ok_m hq1 hq).2.1 (ok_m hp1 hp).2.2 (ok_m hq1 hq).2.2 w)
      have CX := Lib.hid (fun w => fits_any 15 (by omega) x w)
      have CY := Lib.hid (fun w => fits_any 15 (by omega) y w)
      cases hx1 : fitB 15 x
      · rw [hx1] at CX
        have HV := Lib.hid (talkErr_x (y := y) hp1 hq1 hx1)
        have HC := Lib.hid (playC_e (x := x) (y := y) (p := p) (q := q) (by rw [HV.out]; decide))
        go_enter Try.func18, Try.ntmps18
        go_wp2_with (refine wpList_load_row rfl 26 (.tmp 4) rfl (w.heap.size) rfl 26 p.cells (0, 0) _ (((Blk.new w 26 p.cells).alloc _).alloc _) Try.underlying26 rfl (info26 p) ?_)
        change Calls _ _ _ (((w.alloc (.cells p.cells 26)).alloc (.cells q.cells 26)).alloc (.cells Z35 29)) _
        refine Calls.ext (C1.out _) fun z1 => ?_
        have H4 := Lib.hid ((((Blk.new w 26 p.cells).alloc (.cells q.cells 26)).alloc (.cells Z35 29)).ext z1)
        have H5 := Lib.hid (((Blk.new' (w.alloc (.cells p.cells 26)) 26 q.cells (w.heap.size + 1) (by simp)).alloc (.cells Z35 29)).ext z1)
        have H8 := Lib.hid ((Blk.new' ((w.alloc (.cells p.cells 26)).alloc (.cells q.cells 26)) 29 Z35 (w.heap.size + 1 + 1) (by simp)).ext z1)
        have HE := Lib.hid (((((Ext.refl w).alloc (.cells p.cells 26)).alloc (.cells q.cells 26)).alloc (.cells Z35 29)).ext z1)
        generalize ext (((w.alloc (.cells p.cells 26)).alloc (.cells q.cells 26)).alloc (.cells Z35 29)) z1 = W at *
        go_wp2_with (refine wpList_load_row_g 26 (.tmp 5) rfl (by kernel_rfl) (w.heap.size + 1) rfl 26 q.cells (0, 0) _ H5.out Try.underlying26 rfl (info26 q) ?_)
        refine Calls.ext (C2.out _) fun z2 => ?_
        go_wp2_with fail
        refine Calls.same (CX.out _) ?_
        go_wp2_with (refine wpList_store_row rfl 29 (.tmp 8) (.tmp 27) rfl (w.heap.size + 1 + 1) rfl 29 Z35 Z35 rfl (H8.out.ext z2) info29z z35t' z35_one ?_)
        refine bodyPost_ret (results_cell_tmp rfl _ _ (w.heap.size + 1 + 1) 29 Z35 (0, 0) _ rfl (Blk.row (H8.out.ext z2) _) Try.underlying29 rfl info29z) rfl ⟨ret_of (by rw [HV.out, HC.out]; rfl), Ext.row (HE.out.ext z2) (by omega) _⟩
      · rw [hx1] at CX
        cases hy1 : fitB 15 y
        · rw [hy1] at CY
          have HV := Lib.hid (talkErr_y (x := x) hp1 hq1 hy1)
          have HC := Lib.hid (playC_e (x := x) (y := y) (p := p) (q := q) (by rw [HV.out]; decide))
          go_enter Try.func18, Try.ntmps18
          go_wp2_with (refine wpList_load_row rfl 26 (.tmp 4) rfl (w.heap.size) rfl 26 p.cells (0, 0) _ (((Blk.new w 26 p.cells).alloc _).alloc _) Try.underlying26 rfl (info26 p) ?_)
          change Calls _ _ _ (((w.alloc (.cells p.cells 26)).alloc (.cells q.cells 26)).alloc (.cells Z35 29)) _
          refine Calls.ext (C1.out _) fun z1 => ?_
          have H4 := Lib.hid ((((Blk.new w 26 p.cells).alloc (.cells q.cells 26)).alloc (.cells Z35 29)).ext z1)
          have H5 := Lib.hid (((Blk.new' (w.alloc (.cells p.cells 26)) 26 q.cells (w.heap.size + 1) (by simp)).alloc (.cells Z35 29)).ext z1)
          have H8 := Lib.hid ((Blk.new' ((w.alloc (.cells p.cells 26)).alloc (.cells q.cells 26)) 29 Z35 (w.heap.size + 1 + 1) (by simp)).ext z1)
          have HE := Lib.hid (((((Ext.refl w).alloc (.cells p.cells 26)).alloc (.cells q.cells 26)).alloc (.cells Z35 29)).ext z1)
          generalize ext (((w.alloc (.cells p.cells 26)).alloc (.cells q.cells 26)).alloc (.cells Z35 29)) z1 = W at *
          go_wp2_with (refine wpList_load_row_g 26 (.tmp 5) rfl (by kernel_rfl) (w.heap.size + 1) rfl 26 q.cells (0, 0) _ H5.out Try.underlying26 rfl (info26 q) ?_)
          refine Calls.ext (C2.out _) fun z2 => ?_
          go_wp2_with fail
          refine Calls.same (CX.out _) ?_
          go_wp2_with fail
          refine Calls.same (CY.out _) ?_
          go_wp2_with (refine wpList_store_row rfl 29 (.tmp 8) (.tmp 27) rfl (w.heap.size + 1 + 1) rfl 29 Z35 Z35 rfl (H8.out.ext z2) info29z z35t' z35_one ?_)
          refine bodyPost_ret (results_cell_tmp rfl _ _ (w.heap.size + 1 + 1) 29 Z35 (0, 0) _ rfl (Blk.row (H8.out.ext z2) _) Try.underlying29 rfl info29z) rfl ⟨ret_of (by rw [HV.out, HC.out]; rfl), Ext.row (HE.out.ext z2) (by omega) _⟩
        · rw [hy1] at CY
          have HV := Lib.hid (talkErr_0 hp1 hq1 hx1 hy1)
          have HC := Lib.hid (playC_0 HV.out)
          go_enter Try.func18, Try.ntmps18
          go_wp2_with (refine wpList_load_row rfl 26 (.tmp 4) rfl (w.heap.size) rfl 26 p.cells (0, 0) _ (((Blk.new w 26 p.cells).alloc _).alloc _) Try.underlying26 rfl (info26 p) ?_)
          change Calls _ _ _ (((w.alloc (.cells p.cells 26)).alloc (.cells q.cells 26)).alloc (.cells Z35 29)) _
          refine Calls.ext (C1.out _) fun z1 => ?_
          have H4 := Lib.hid ((((Blk.new w 26 p.cells).alloc (.cells q.cells 26)).alloc (.cells Z35 29)).ext z1)
          have H5 := Lib.hid (((Blk.new' (w.alloc (.cells p.cells 26)) 26 q.cells (w.heap.size + 1) (by simp)).alloc (.cells Z35 29)).ext z1)
          have H8 := Lib.hid ((Blk.new' ((w.alloc (.cells p.cells 26)).alloc (.cells q.cells 26)) 29 Z35 (w.heap.size + 1 + 1) (by simp)).ext z1)
          have HE := Lib.hid (((((Ext.refl w).alloc (.cells p.cells 26)).alloc (.cells q.cells 26)).alloc (.cells Z35 29)).ext z1)
          generalize ext (((w.alloc (.cells p.cells 26)).alloc (.cells q.cells 26)).alloc (.cells Z35 29)) z1 = W at *
          go_wp2_with (refine wpList_load_row_g 26 (.tmp 5) rfl (by kernel_rfl) (w.heap.size + 1) rfl 26 q.cells (0, 0) _ H5.out Try.underlying26 rfl (info26 q) ?_)
          refine Calls.ext (C2.out _) fun z2 => ?_
          go_wp2_with fail
          refine Calls.same (CX.out _) ?_
          go_wp2_with fail
          refine Calls.same (CY.out _) ?_
          go_wp2_with (first | (refine wpList_load_row rfl 26 (.tmp 4) rfl (w.heap.size) rfl 26 p.cells (0, 0) _ (H4.out.ext z2) Try.underlying26 rfl (info26 p) ?_) | (refine wpList_load_row rfl 26 (.tmp 5) rfl (w.heap.size + 1) rfl 26 q.cells (0, 0) _ (H5.out.ext z2) Try.underlying26 rfl (info26 q) ?_))
          refine Calls.ext (C3.out _) fun z9 => ?_
          go_wp2_with (refine wpList_store_row rfl 29 (.tmp 8) (.tmp 32) rfl (w.heap.size + 1 + 1) rfl 29 Z35 (talkOf p q x y).cells rfl ((H8.out.ext z2).ext z9) (info29t _) (z35t _) tlk_one ?_)
          refine bodyPost_ret (results_cell_tmp rfl _ _ (w.heap.size + 1 + 1) 29 (talkOf p q x y).cells (0, 0) _ rfl (Blk.row ((H8.out.ext z2).ext z9) _) Try.underlying29 rfl (info29t _)) rfl ⟨ret_of (by rw [HV.out, HC.out]; rfl), Ext.row ((HE.out.ext z2).ext z9) (by omega) _⟩
end Go.Proofs.Ytfdcapblgdlkaaa
