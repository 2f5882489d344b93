/- Classes, blocks, and what is asked (valid 72, ValidClass 42, block 58, IsBlock 60, check 52, asked 54). -/
import Derived.Test.YthejomcibobieaaSearch
import Derived.Test.YthejomcibobieaaAlike
namespace Go.Proofs.Ythejomcibobieaa
open Go.RowKit

def okC (c : Cl) : Bool := inB c.turns 0 3 && inB c.shift 0 4 && inB c.elastic 0 1 && inB c.reach 0 4 && inB c.spread 0 4
theorem okC_ok {c : Cl} (h : okC c = true) : c.ok := by
  simp only [okC, Bool.and_eq_true, inB_iff] at h
  exact ⟨h.1.1.1.1, h.1.1.1.2, h.1.1.2, h.1.2, h.2⟩
theorem ok_okC {c : Cl} (h : c.ok) : okC c = true := by
  simp only [okC, Bool.and_eq_true, inB_iff]
  exact ⟨⟨⟨⟨h.turns, h.shift⟩, h.elastic⟩, h.reach⟩, h.spread⟩
theorem chP_mem : ∀ (l : List Mi) (k : Int), chP k l = true → ∀ m ∈ l, okM m = true := by
  intro l
  induction l with
  | nil => intro k _ m hm; cases hm
  | cons x l ih =>
    intro k h m hm
    simp only [chP, Bool.and_eq_true] at h
    rcases List.mem_cons.1 hm with rfl | hm
    · exact h.1.1
    · exact ih _ h.2 m hm
theorem okP_ok {l : List Mi} (h : okP l = true) (hd : ∀ m ∈ l, 0 ≤ m.dir) : (∀ m ∈ l, m.ok) ∧ l.length ≤ 12 := by
  simp only [okP, Bool.and_eq_true, decide_eq_true_eq] at h
  refine ⟨fun m hm => ?_, h.1⟩
  obtain ⟨h1, h2, _, h4⟩ := okM_parts (chP_mem l _ h.2 m hm)
  exact ⟨h1, h2, hd m hm, h4⟩
abbrev Bk.val (k : Bk) : Value := .agg #[.int .i64 k.turn, .int .i64 k.x0, .int .i64 k.y0, .int .i64 k.x1, .int .i64 k.y1]
def four (p q r s : Int) (j : Nat) : Int := match j with | 0 => p | 1 => q | 2 => r | _ => s
theorem four_any (lo hi p q r s : Int) (b c : Nat) (w : World) (h0 : w.cell? ⟨b, 0, none⟩ = some (.int .i64 p)) (h1 : w.cell? ⟨b, 1, none⟩ = some (.int .i64 q)) (h2 : w.cell? ⟨b, 2, none⟩ = some (.int .i64 r)) (h3 : w.cell? ⟨b, 3, none⟩ = some (.int .i64 s)) :
    Calls Try.prog 51 #[.int .i64 lo, .int .i64 hi, .slice (some ⟨b, 0, none⟩) 4 c] w fun e w' => e = .returned (.bool (allB lo hi 4 (four p q r s))) ∧ w = w' :=
  withinAll_any lo hi 4 (by omega) (four p q r s) b 0 c w (fun j hj => by
    rw [Nat.zero_add]
    rcases (show j = 0 ∨ j = 1 ∨ j = 2 ∨ j = 3 by omega) with rfl | rfl | rfl | rfl <;> assumption)
theorem isBlk_prog (c : Cl) (k : Bk) : isBlk c k = (inB k.turn (-c.turns) c.turns && allB (-c.shift) c.shift 4 (four k.x0 k.x1 k.y0 k.y1) && decide (k.x0 ≤ k.x1) && decide (k.y0 ≤ k.y1)) := by
  have e : allB (-c.shift) c.shift 4 (four k.x0 k.x1 k.y0 k.y1) = (inB k.x0 (-c.shift) c.shift && (inB k.x1 (-c.shift) c.shift && (inB k.y0 (-c.shift) c.shift && (inB k.y1 (-c.shift) c.shift && true)))) := rfl
  rw [e, Bool.eq_iff_iff, isBlk_iff]
  simp only [Bool.and_true, Bool.and_eq_true, decide_eq_true_eq, inB_iff]
  omega
theorem isBlk_ref (c : Cl) (k : Bk) : isBlk c k = (inB k.turn (-c.turns) c.turns && decide (-c.shift ≤ k.x0) && decide (k.x0 ≤ k.x1) && decide (k.x1 ≤ c.shift) && decide (-c.shift ≤ k.y0) && decide (k.y0 ≤ k.y1) && decide (k.y1 ≤ c.shift)) := by
  rw [Bool.eq_iff_iff, isBlk_iff]
  simp only [Bool.and_eq_true, decide_eq_true_eq, inB_iff]
  omega
set_option maxRecDepth 100000 in
set_option maxHeartbeats 2000000 in
theorem classP_any (c : Cl) (w : World) : Calls Try.prog 72 #[c.val] w fun e w' => e = .returned (.bool (okC c)) ∧ Ext w w' := by
  have HV := Lib.hid (show okC c = (inB c.turns 0 3 && inB c.shift 0 4 && inB c.elastic 0 1 && inB c.reach 0 4 && inB c.spread 0 4) from rfl)
  have H0 := Lib.hid (fun b q w h0 => one_any 0 3 c.turns b q w h0)
  have H1 := Lib.hid (fun b q w h0 => one_any 0 4 c.shift b q w h0)
  have H2 := Lib.hid (fun b q w h0 => one_any 0 1 c.elastic b q w h0)
  have H3 := Lib.hid (fun b q w h0 => one_any 0 4 c.reach b q w h0)
  have H4 := Lib.hid (fun b q w h0 => one_any 0 4 c.spread b q w h0)
  cases h0 : inB c.turns 0 3
  · rw [h0] at H0 HV
    go_enter Try.func72, Try.ntmps72
    go_wp2_with fail
    refine Calls.same (H0.out _ _ _ (by simp [go_sem])) ?_
    go_wp2_with fail
    go_ret
    refine ⟨ret_of (by rw [HV.out]; rfl), ?_⟩
    repeat' (first | with_reducible exact Ext.refl _ | with_reducible refine Ext.alloc ?_ _ | with_reducible refine Ext.ext ?_ _)
  · rw [h0] at H0 HV
    cases h1 : inB c.shift 0 4
    · rw [h1] at H1 HV
      go_enter Try.func72, Try.ntmps72
      go_wp2_with fail
      refine Calls.same (H0.out _ _ _ (by simp [go_sem])) ?_
      go_wp2_with fail
      refine Calls.same (H1.out _ _ _ (by simp [go_sem])) ?_
      go_wp2_with fail
      go_ret
      refine ⟨ret_of (by rw [HV.out]; rfl), ?_⟩
      repeat' (first | with_reducible exact Ext.refl _ | with_reducible refine Ext.alloc ?_ _ | with_reducible refine Ext.ext ?_ _)
    · rw [h1] at H1 HV
      cases h2 : inB c.elastic 0 1
      · rw [h2] at H2 HV
        go_enter Try.func72, Try.ntmps72
        go_wp2_with fail
        refine Calls.same (H0.out _ _ _ (by simp [go_sem])) ?_
        go_wp2_with fail
        refine Calls.same (H1.out _ _ _ (by simp [go_sem])) ?_
        go_wp2_with fail
        refine Calls.same (H2.out _ _ _ (by simp [go_sem])) ?_
        go_wp2_with fail
        go_ret
        refine ⟨ret_of (by rw [HV.out]; rfl), ?_⟩
        repeat' (first | with_reducible exact Ext.refl _ | with_reducible refine Ext.alloc ?_ _ | with_reducible refine Ext.ext ?_ _)
      · rw [h2] at H2 HV
        cases h3 : inB c.reach 0 4
        · rw [h3] at H3 HV
          go_enter Try.func72, Try.ntmps72
          go_wp2_with fail
          refine Calls.same (H0.out _ _ _ (by simp [go_sem])) ?_
          go_wp2_with fail
          refine Calls.same (H1.out _ _ _ (by simp [go_sem])) ?_
          go_wp2_with fail
          refine Calls.same (H2.out _ _ _ (by simp [go_sem])) ?_
          go_wp2_with fail
          refine Calls.same (H3.out _ _ _ (by simp [go_sem])) ?_
          go_wp2_with fail
          go_ret
          refine ⟨ret_of (by rw [HV.out]; rfl), ?_⟩
          repeat' (first | with_reducible exact Ext.refl _ | with_reducible refine Ext.alloc ?_ _ | with_reducible refine Ext.ext ?_ _)
        · rw [h3] at H3 HV
          cases h4 : inB c.spread 0 4
          · rw [h4] at H4 HV
            go_enter Try.func72, Try.ntmps72
            go_wp2_with fail
            refine Calls.same (H0.out _ _ _ (by simp [go_sem])) ?_
            go_wp2_with fail
            refine Calls.same (H1.out _ _ _ (by simp [go_sem])) ?_
            go_wp2_with fail
            refine Calls.same (H2.out _ _ _ (by simp [go_sem])) ?_
            go_wp2_with fail
            refine Calls.same (H3.out _ _ _ (by simp [go_sem])) ?_
            go_wp2_with fail
            refine Calls.same (H4.out _ _ _ (by simp [go_sem])) ?_
            go_wp2_with fail
            go_ret
            refine ⟨ret_of (by rw [HV.out]; rfl), ?_⟩
            repeat' (first | with_reducible exact Ext.refl _ | with_reducible refine Ext.alloc ?_ _ | with_reducible refine Ext.ext ?_ _)
          · rw [h4] at H4 HV
            go_enter Try.func72, Try.ntmps72
            go_wp2_with fail
            refine Calls.same (H0.out _ _ _ (by simp [go_sem])) ?_
            go_wp2_with fail
            refine Calls.same (H1.out _ _ _ (by simp [go_sem])) ?_
            go_wp2_with fail
            refine Calls.same (H2.out _ _ _ (by simp [go_sem])) ?_
            go_wp2_with fail
            refine Calls.same (H3.out _ _ _ (by simp [go_sem])) ?_
            go_wp2_with fail
            refine Calls.same (H4.out _ _ _ (by simp [go_sem])) ?_
            go_wp2_with fail
            go_ret
            refine ⟨ret_of (by rw [HV.out]; rfl), ?_⟩
            repeat' (first | with_reducible exact Ext.refl _ | with_reducible refine Ext.alloc ?_ _ | with_reducible refine Ext.ext ?_ _)
set_option maxRecDepth 100000 in
set_option maxHeartbeats 2000000 in
theorem classR_any (c : Cl) (w : World) : Calls Try.prog 42 #[c.val] w fun e w' => e = .returned (.bool (okC c)) ∧ Ext w w' := by
  have HV := Lib.hid (show okC c = (inB c.turns 0 3 && inB c.shift 0 4 && inB c.elastic 0 1 && inB c.reach 0 4 && inB c.spread 0 4) from rfl)
  have H0 := Lib.hid (fun w => within_any c.turns 0 3 w)
  have H1 := Lib.hid (fun w => within_any c.shift 0 4 w)
  have H2 := Lib.hid (fun w => within_any c.elastic 0 1 w)
  have H3 := Lib.hid (fun w => within_any c.reach 0 4 w)
  have H4 := Lib.hid (fun w => within_any c.spread 0 4 w)
  cases h0 : inB c.turns 0 3
  · rw [h0] at H0 HV
    go_enter Try.func42, Try.ntmps42
    go_wp2_with fail
    refine Calls.same (H0.out _) ?_
    go_wp2_with fail
    go_ret
    refine ⟨ret_of (by rw [HV.out]; rfl), ?_⟩
    repeat' (first | with_reducible exact Ext.refl _ | with_reducible refine Ext.alloc ?_ _ | with_reducible refine Ext.ext ?_ _)
  · rw [h0] at H0 HV
    cases h1 : inB c.shift 0 4
    · rw [h1] at H1 HV
      go_enter Try.func42, Try.ntmps42
      go_wp2_with fail
      refine Calls.same (H0.out _) ?_
      go_wp2_with fail
      refine Calls.same (H1.out _) ?_
      go_wp2_with fail
      go_ret
      refine ⟨ret_of (by rw [HV.out]; rfl), ?_⟩
      repeat' (first | with_reducible exact Ext.refl _ | with_reducible refine Ext.alloc ?_ _ | with_reducible refine Ext.ext ?_ _)
    · rw [h1] at H1 HV
      cases h2 : inB c.elastic 0 1
      · rw [h2] at H2 HV
        go_enter Try.func42, Try.ntmps42
        go_wp2_with fail
        refine Calls.same (H0.out _) ?_
        go_wp2_with fail
        refine Calls.same (H1.out _) ?_
        go_wp2_with fail
        refine Calls.same (H2.out _) ?_
        go_wp2_with fail
        go_ret
        refine ⟨ret_of (by rw [HV.out]; rfl), ?_⟩
        repeat' (first | with_reducible exact Ext.refl _ | with_reducible refine Ext.alloc ?_ _ | with_reducible refine Ext.ext ?_ _)
      · rw [h2] at H2 HV
        cases h3 : inB c.reach 0 4
        · rw [h3] at H3 HV
          go_enter Try.func42, Try.ntmps42
          go_wp2_with fail
          refine Calls.same (H0.out _) ?_
          go_wp2_with fail
          refine Calls.same (H1.out _) ?_
          go_wp2_with fail
          refine Calls.same (H2.out _) ?_
          go_wp2_with fail
          refine Calls.same (H3.out _) ?_
          go_wp2_with fail
          go_ret
          refine ⟨ret_of (by rw [HV.out]; rfl), ?_⟩
          repeat' (first | with_reducible exact Ext.refl _ | with_reducible refine Ext.alloc ?_ _ | with_reducible refine Ext.ext ?_ _)
        · rw [h3] at H3 HV
          cases h4 : inB c.spread 0 4
          · rw [h4] at H4 HV
            go_enter Try.func42, Try.ntmps42
            go_wp2_with fail
            refine Calls.same (H0.out _) ?_
            go_wp2_with fail
            refine Calls.same (H1.out _) ?_
            go_wp2_with fail
            refine Calls.same (H2.out _) ?_
            go_wp2_with fail
            refine Calls.same (H3.out _) ?_
            go_wp2_with fail
            refine Calls.same (H4.out _) ?_
            go_wp2_with fail
            go_ret
            refine ⟨ret_of (by rw [HV.out]; rfl), ?_⟩
            repeat' (first | with_reducible exact Ext.refl _ | with_reducible refine Ext.alloc ?_ _ | with_reducible refine Ext.ext ?_ _)
          · rw [h4] at H4 HV
            go_enter Try.func42, Try.ntmps42
            go_wp2_with fail
            refine Calls.same (H0.out _) ?_
            go_wp2_with fail
            refine Calls.same (H1.out _) ?_
            go_wp2_with fail
            refine Calls.same (H2.out _) ?_
            go_wp2_with fail
            refine Calls.same (H3.out _) ?_
            go_wp2_with fail
            refine Calls.same (H4.out _) ?_
            go_wp2_with fail
            go_ret
            refine ⟨ret_of (by rw [HV.out]; rfl), ?_⟩
            repeat' (first | with_reducible exact Ext.refl _ | with_reducible refine Ext.alloc ?_ _ | with_reducible refine Ext.ext ?_ _)
set_option maxRecDepth 100000 in
set_option maxHeartbeats 2000000 in
theorem block_any (c : Cl) (k : Bk) (h : c.ok) (w : World) : Calls Try.prog 58 #[c.val, k.val] w fun e w' => e = .returned (.bool (isBlk c k)) ∧ Ext w w' := by
  have h1 := h.turns
  have h2 := h.shift
  have HV := Lib.hid (show isBlk c k = (inB k.turn (-c.turns) c.turns && allB (-c.shift) c.shift 4 (four k.x0 k.x1 k.y0 k.y1) && decide (k.x0 ≤ k.x1) && decide (k.y0 ≤ k.y1)) from isBlk_prog c k)
  have H0 := Lib.hid (fun b q w h0 => one_any (-c.turns) c.turns k.turn b q w h0)
  have H1 := Lib.hid (fun b q w h0 h1 h2 h3 => four_any (-c.shift) c.shift k.x0 k.x1 k.y0 k.y1 b q w h0 h1 h2 h3)
  cases h0 : inB k.turn (-c.turns) c.turns
  · rw [h0] at H0 HV
    go_enter Try.func58, Try.ntmps58
    go_wp2_with fail
    refine Calls.same (H0.out _ _ _ (by simp [go_sem])) ?_
    go_wp2_with fail
    go_ret
    refine ⟨ret_of (by rw [HV.out]; rfl), ?_⟩
    repeat' (first | with_reducible exact Ext.refl _ | with_reducible refine Ext.alloc ?_ _ | with_reducible refine Ext.ext ?_ _)
  · rw [h0] at H0 HV
    cases h1 : allB (-c.shift) c.shift 4 (four k.x0 k.x1 k.y0 k.y1)
    · rw [h1] at H1 HV
      go_enter Try.func58, Try.ntmps58
      go_wp2_with fail
      refine Calls.same (H0.out _ _ _ (by simp [go_sem])) ?_
      go_wp2_with fail
      refine Calls.same (H1.out _ _ _ (by simp [go_sem]) (by simp [go_sem]) (by simp [go_sem]) (by simp [go_sem])) ?_
      go_wp2_with fail
      go_ret
      refine ⟨ret_of (by rw [HV.out]; rfl), ?_⟩
      repeat' (first | with_reducible exact Ext.refl _ | with_reducible refine Ext.alloc ?_ _ | with_reducible refine Ext.ext ?_ _)
    · rw [h1] at H1 HV
      cases h2 : decide (k.x0 ≤ k.x1)
      · rw [h2] at HV
        go_enter Try.func58, Try.ntmps58
        go_wp2_with fail
        refine Calls.same (H0.out _ _ _ (by simp [go_sem])) ?_
        go_wp2_with fail
        refine Calls.same (H1.out _ _ _ (by simp [go_sem]) (by simp [go_sem]) (by simp [go_sem]) (by simp [go_sem])) ?_
        go_wp2_with fail
        go_ret
        refine ⟨ret_of (by rw [HV.out]; rfl), ?_⟩
        repeat' (first | with_reducible exact Ext.refl _ | with_reducible refine Ext.alloc ?_ _ | with_reducible refine Ext.ext ?_ _)
      · rw [h2] at HV
        cases h3 : decide (k.y0 ≤ k.y1)
        · rw [h3] at HV
          go_enter Try.func58, Try.ntmps58
          go_wp2_with fail
          refine Calls.same (H0.out _ _ _ (by simp [go_sem])) ?_
          go_wp2_with fail
          refine Calls.same (H1.out _ _ _ (by simp [go_sem]) (by simp [go_sem]) (by simp [go_sem]) (by simp [go_sem])) ?_
          go_wp2_with fail
          go_ret
          refine ⟨ret_of (by rw [HV.out]; rfl), ?_⟩
          repeat' (first | with_reducible exact Ext.refl _ | with_reducible refine Ext.alloc ?_ _ | with_reducible refine Ext.ext ?_ _)
        · rw [h3] at HV
          go_enter Try.func58, Try.ntmps58
          go_wp2_with fail
          refine Calls.same (H0.out _ _ _ (by simp [go_sem])) ?_
          go_wp2_with fail
          refine Calls.same (H1.out _ _ _ (by simp [go_sem]) (by simp [go_sem]) (by simp [go_sem]) (by simp [go_sem])) ?_
          go_wp2_with fail
          go_ret
          refine ⟨ret_of (by rw [HV.out]; rfl), ?_⟩
          repeat' (first | with_reducible exact Ext.refl _ | with_reducible refine Ext.alloc ?_ _ | with_reducible refine Ext.ext ?_ _)
set_option maxRecDepth 100000 in
set_option maxHeartbeats 2000000 in
theorem isBlock_any (c : Cl) (k : Bk) (h : c.ok) (w : World) : Calls Try.prog 60 #[c.val, k.val] w fun e w' => e = .returned (.bool (isBlk c k)) ∧ Ext w w' := by
  have h1 := h.turns
  have h2 := h.shift
  have HV := Lib.hid (show isBlk c k = (inB k.turn (-c.turns) c.turns && decide (-c.shift ≤ k.x0) && decide (k.x0 ≤ k.x1) && decide (k.x1 ≤ c.shift) && decide (-c.shift ≤ k.y0) && decide (k.y0 ≤ k.y1) && decide (k.y1 ≤ c.shift)) from isBlk_ref c k)
  have H0 := Lib.hid (fun w => within_any k.turn (-c.turns) c.turns w)
  cases h0 : inB k.turn (-c.turns) c.turns
  · rw [h0] at H0 HV
    go_enter Try.func60, Try.ntmps60
    go_wp2_with fail
    refine Calls.same (H0.out _) ?_
    go_wp2_with fail
    go_ret
    refine ⟨ret_of (by rw [HV.out]; rfl), ?_⟩
    repeat' (first | with_reducible exact Ext.refl _ | with_reducible refine Ext.alloc ?_ _ | with_reducible refine Ext.ext ?_ _)
  · rw [h0] at H0 HV
    cases h1 : decide (-c.shift ≤ k.x0)
    · rw [h1] at HV
      go_enter Try.func60, Try.ntmps60
      go_wp2_with fail
      refine Calls.same (H0.out _) ?_
      go_wp2_with fail
      go_ret
      refine ⟨ret_of (by rw [HV.out]; rfl), ?_⟩
      repeat' (first | with_reducible exact Ext.refl _ | with_reducible refine Ext.alloc ?_ _ | with_reducible refine Ext.ext ?_ _)
    · rw [h1] at HV
      cases h2 : decide (k.x0 ≤ k.x1)
      · rw [h2] at HV
        go_enter Try.func60, Try.ntmps60
        go_wp2_with fail
        refine Calls.same (H0.out _) ?_
        go_wp2_with fail
        go_ret
        refine ⟨ret_of (by rw [HV.out]; rfl), ?_⟩
        repeat' (first | with_reducible exact Ext.refl _ | with_reducible refine Ext.alloc ?_ _ | with_reducible refine Ext.ext ?_ _)
      · rw [h2] at HV
        cases h3 : decide (k.x1 ≤ c.shift)
        · rw [h3] at HV
          go_enter Try.func60, Try.ntmps60
          go_wp2_with fail
          refine Calls.same (H0.out _) ?_
          go_wp2_with fail
          go_ret
          refine ⟨ret_of (by rw [HV.out]; rfl), ?_⟩
          repeat' (first | with_reducible exact Ext.refl _ | with_reducible refine Ext.alloc ?_ _ | with_reducible refine Ext.ext ?_ _)
        · rw [h3] at HV
          cases h4 : decide (-c.shift ≤ k.y0)
          · rw [h4] at HV
            go_enter Try.func60, Try.ntmps60
            go_wp2_with fail
            refine Calls.same (H0.out _) ?_
            go_wp2_with fail
            go_ret
            refine ⟨ret_of (by rw [HV.out]; rfl), ?_⟩
            repeat' (first | with_reducible exact Ext.refl _ | with_reducible refine Ext.alloc ?_ _ | with_reducible refine Ext.ext ?_ _)
          · rw [h4] at HV
            cases h5 : decide (k.y0 ≤ k.y1)
            · rw [h5] at HV
              go_enter Try.func60, Try.ntmps60
              go_wp2_with fail
              refine Calls.same (H0.out _) ?_
              go_wp2_with fail
              go_ret
              refine ⟨ret_of (by rw [HV.out]; rfl), ?_⟩
              repeat' (first | with_reducible exact Ext.refl _ | with_reducible refine Ext.alloc ?_ _ | with_reducible refine Ext.ext ?_ _)
            · rw [h5] at HV
              cases h6 : decide (k.y1 ≤ c.shift)
              · rw [h6] at HV
                go_enter Try.func60, Try.ntmps60
                go_wp2_with fail
                refine Calls.same (H0.out _) ?_
                go_wp2_with fail
                go_ret
                refine ⟨ret_of (by rw [HV.out]; rfl), ?_⟩
                repeat' (first | with_reducible exact Ext.refl _ | with_reducible refine Ext.alloc ?_ _ | with_reducible refine Ext.ext ?_ _)
              · rw [h6] at HV
                go_enter Try.func60, Try.ntmps60
                go_wp2_with fail
                refine Calls.same (H0.out _) ?_
                go_wp2_with fail
                go_ret
                refine ⟨ret_of (by rw [HV.out]; rfl), ?_⟩
                repeat' (first | with_reducible exact Ext.refl _ | with_reducible refine Ext.alloc ?_ _ | with_reducible refine Ext.ext ?_ _)
def askE (c : Cl) (lp lq : List Mi) : Int := if okP lp && okP lq then (if okC c then 0 else 2) else 20
set_option maxRecDepth 100000 in
set_option maxHeartbeats 2000000 in
theorem check2_any (c : Cl) (lp lq : List Mi) (hnp : lp.length ≤ 100) (hnq : lq.length ≤ 100) (Ap Aq : Option Addr) (cp cq : Nat) (w : World) (hP : Pts w Ap lp) (hQ : Pts w Aq lq) :
    Calls Try.prog 52 #[.slice Ap lp.length cp, .slice Aq lq.length cq, c.val] w fun e w' => e = .returned (.int .i64 (askE c lp lq)) ∧ Ext w w' := by
  have CP := Lib.hid (fun w h => check_any Ap cp lp w h hnp)
  have CQ := Lib.hid (fun w h => check_any Aq cq lq w h hnq)
  have CC := Lib.hid (fun w => classP_any c w)
  have HV := Lib.hid (show askE c lp lq = if okP lp && okP lq then (if okC c then 0 else 2) else 20 from rfl)
  have HP := Lib.hid hP
  have HQ := Lib.hid hQ
  unfold chkI at CP CQ
  clear hP hQ hnp hnq
  cases h0 : okP lp
  · rw [h0] at CP HV
    go_enter Try.func52, Try.ntmps52
    go_wp2_with fail
    have hE0 := (Ext.refl w).alloc (.cells #[.int .i64 c.turns, .int .i64 c.shift, .int .i64 c.elastic, .int .i64 c.reach, .int .i64 c.spread] 38)
    refine Calls.ext (CP.out _ (HP.out.grow hE0)) fun z1 => ?_
    go_wp2_with fail
    go_ret
    refine ⟨ret_of (by rw [HV.out]; rfl), ?_⟩
    repeat' (first | with_reducible exact Ext.refl _ | with_reducible refine Ext.alloc ?_ _ | with_reducible refine Ext.ext ?_ _)
  rw [h0] at CP HV
  cases h1 : okP lq
  · rw [h1] at CQ HV
    go_enter Try.func52, Try.ntmps52
    go_wp2_with fail
    have hE0 := (Ext.refl w).alloc (.cells #[.int .i64 c.turns, .int .i64 c.shift, .int .i64 c.elastic, .int .i64 c.reach, .int .i64 c.spread] 38)
    refine Calls.ext (CP.out _ (HP.out.grow hE0)) fun z1 => ?_
    go_wp2_with fail
    have hE1 := hE0.ext z1
    refine Calls.ext (CQ.out _ (HQ.out.grow hE1)) fun z2 => ?_
    go_wp2_with fail
    go_ret
    refine ⟨ret_of (by rw [HV.out]; rfl), ?_⟩
    repeat' (first | with_reducible exact Ext.refl _ | with_reducible refine Ext.alloc ?_ _ | with_reducible refine Ext.ext ?_ _)
  rw [h1] at CQ HV
  cases h2 : okC c
  · rw [h2] at CC HV
    go_enter Try.func52, Try.ntmps52
    go_wp2_with fail
    have hE0 := (Ext.refl w).alloc (.cells #[.int .i64 c.turns, .int .i64 c.shift, .int .i64 c.elastic, .int .i64 c.reach, .int .i64 c.spread] 38)
    refine Calls.ext (CP.out _ (HP.out.grow hE0)) fun z1 => ?_
    go_wp2_with fail
    have hE1 := hE0.ext z1
    refine Calls.ext (CQ.out _ (HQ.out.grow hE1)) fun z2 => ?_
    go_wp2_with fail
    refine Calls.ext (CC.out _) fun z3 => ?_
    go_wp2_with fail
    go_ret
    refine ⟨ret_of (by rw [HV.out]; rfl), ?_⟩
    repeat' (first | with_reducible exact Ext.refl _ | with_reducible refine Ext.alloc ?_ _ | with_reducible refine Ext.ext ?_ _)
  · rw [h2] at CC HV
    go_enter Try.func52, Try.ntmps52
    go_wp2_with fail
    have hE0 := (Ext.refl w).alloc (.cells #[.int .i64 c.turns, .int .i64 c.shift, .int .i64 c.elastic, .int .i64 c.reach, .int .i64 c.spread] 38)
    refine Calls.ext (CP.out _ (HP.out.grow hE0)) fun z1 => ?_
    go_wp2_with fail
    have hE1 := hE0.ext z1
    refine Calls.ext (CQ.out _ (HQ.out.grow hE1)) fun z2 => ?_
    go_wp2_with fail
    refine Calls.ext (CC.out _) fun z3 => ?_
    go_wp2_with fail
    go_ret
    refine ⟨ret_of (by rw [HV.out]; rfl), ?_⟩
    repeat' (first | with_reducible exact Ext.refl _ | with_reducible refine Ext.alloc ?_ _ | with_reducible refine Ext.ext ?_ _)
set_option maxRecDepth 100000 in
set_option maxHeartbeats 2000000 in
theorem asked_any (c : Cl) (lp lq : List Mi) (hnp : lp.length ≤ 100) (hnq : lq.length ≤ 100) (Ap Aq : Option Addr) (cp cq : Nat) (w : World) (hP : Pts w Ap lp) (hQ : Pts w Aq lq) :
    Calls Try.prog 54 #[.slice Ap lp.length cp, .slice Aq lq.length cq, c.val] w fun e w' => e = .returned (.int .i64 (askE c lp lq)) ∧ Ext w w' := by
  have CP := Lib.hid (fun w h => valid_any Ap cp lp w h hnp)
  have CQ := Lib.hid (fun w h => valid_any Aq cq lq w h hnq)
  have CC := Lib.hid (fun w => classR_any c w)
  have HV := Lib.hid (show askE c lp lq = if okP lp && okP lq then (if okC c then 0 else 2) else 20 from rfl)
  have HP := Lib.hid hP
  have HQ := Lib.hid hQ
  clear hP hQ hnp hnq
  cases h0 : okP lp
  · rw [h0] at CP HV
    go_enter Try.func54, Try.ntmps54
    go_wp2_with fail
    have hE0 := (Ext.refl w).alloc (.cells #[.int .i64 c.turns, .int .i64 c.shift, .int .i64 c.elastic, .int .i64 c.reach, .int .i64 c.spread] 38)
    refine Calls.ext (CP.out _ (HP.out.grow hE0)) fun z1 => ?_
    go_wp2_with fail
    go_ret
    refine ⟨ret_of (by rw [HV.out]; rfl), ?_⟩
    repeat' (first | with_reducible exact Ext.refl _ | with_reducible refine Ext.alloc ?_ _ | with_reducible refine Ext.ext ?_ _)
  rw [h0] at CP HV
  cases h1 : okP lq
  · rw [h1] at CQ HV
    go_enter Try.func54, Try.ntmps54
    go_wp2_with fail
    have hE0 := (Ext.refl w).alloc (.cells #[.int .i64 c.turns, .int .i64 c.shift, .int .i64 c.elastic, .int .i64 c.reach, .int .i64 c.spread] 38)
    refine Calls.ext (CP.out _ (HP.out.grow hE0)) fun z1 => ?_
    go_wp2_with fail
    have hE1 := hE0.ext z1
    refine Calls.ext (CQ.out _ (HQ.out.grow hE1)) fun z2 => ?_
    go_wp2_with fail
    go_ret
    refine ⟨ret_of (by rw [HV.out]; rfl), ?_⟩
    repeat' (first | with_reducible exact Ext.refl _ | with_reducible refine Ext.alloc ?_ _ | with_reducible refine Ext.ext ?_ _)
  rw [h1] at CQ HV
  cases h2 : okC c
  · rw [h2] at CC HV
    go_enter Try.func54, Try.ntmps54
    go_wp2_with fail
    have hE0 := (Ext.refl w).alloc (.cells #[.int .i64 c.turns, .int .i64 c.shift, .int .i64 c.elastic, .int .i64 c.reach, .int .i64 c.spread] 38)
    refine Calls.ext (CP.out _ (HP.out.grow hE0)) fun z1 => ?_
    go_wp2_with fail
    have hE1 := hE0.ext z1
    refine Calls.ext (CQ.out _ (HQ.out.grow hE1)) fun z2 => ?_
    go_wp2_with fail
    refine Calls.ext (CC.out _) fun z3 => ?_
    go_wp2_with fail
    go_ret
    refine ⟨ret_of (by rw [HV.out]; rfl), ?_⟩
    repeat' (first | with_reducible exact Ext.refl _ | with_reducible refine Ext.alloc ?_ _ | with_reducible refine Ext.ext ?_ _)
  · rw [h2] at CC HV
    go_enter Try.func54, Try.ntmps54
    go_wp2_with fail
    have hE0 := (Ext.refl w).alloc (.cells #[.int .i64 c.turns, .int .i64 c.shift, .int .i64 c.elastic, .int .i64 c.reach, .int .i64 c.spread] 38)
    refine Calls.ext (CP.out _ (HP.out.grow hE0)) fun z1 => ?_
    go_wp2_with fail
    have hE1 := hE0.ext z1
    refine Calls.ext (CQ.out _ (HQ.out.grow hE1)) fun z2 => ?_
    go_wp2_with fail
    refine Calls.ext (CC.out _) fun z3 => ?_
    go_wp2_with fail
    go_ret
    refine ⟨ret_of (by rw [HV.out]; rfl), ?_⟩
    repeat' (first | with_reducible exact Ext.refl _ | with_reducible refine Ext.alloc ?_ _ | with_reducible refine Ext.ext ?_ _)
theorem askE_ok {c : Cl} {lp lq : List Mi} (h : askE c lp lq = 0) : okP lp = true ∧ okP lq = true ∧ c.ok := by
  unfold askE at h
  cases h0 : okP lp <;> cases h1 : okP lq <;> cases h2 : okC c <;> rw [h0, h1, h2] at h <;> first | exact ⟨rfl, rfl, okC_ok h2⟩ | (simp at h)
theorem askE_vals (c : Cl) (lp lq : List Mi) : askE c lp lq = 0 ∨ askE c lp lq = 2 ∨ askE c lp lq = 20 := by
  unfold askE
  cases okP lp <;> cases okP lq <;> cases okC c <;> simp
end Go.Proofs.Ythejomcibobieaa
