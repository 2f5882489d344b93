/- Moves and bends of a class. -/
import Derived.Test.YthejomcibobieaaPrint
namespace Go.Proofs.Ythejomcibobieaa
open Go.RowKit

structure Cl where
  turns : Int
  shift : Int
  elastic : Int
  reach : Int
  spread : Int
abbrev Cl.val (c : Cl) : Value := .agg #[.int .i64 c.turns, .int .i64 c.shift, .int .i64 c.elastic, .int .i64 c.reach, .int .i64 c.spread]
structure Cl.ok (c : Cl) : Prop where
  turns : 0 ≤ c.turns ∧ c.turns ≤ 3
  shift : 0 ≤ c.shift ∧ c.shift ≤ 4
  elastic : 0 ≤ c.elastic ∧ c.elastic ≤ 1
  reach : 0 ≤ c.reach ∧ c.reach ≤ 4
  spread : 0 ≤ c.spread ∧ c.spread ≤ 4
structure Mv where
  turn : Int
  dx : Int
  dy : Int
abbrev Mv.val (v : Mv) : Value := .agg #[.int .i64 v.turn, .int .i64 v.dx, .int .i64 v.dy]
abbrev bendV (b : Nat → Int) : Value := .agg #[.int .i64 (b 0), .int .i64 (b 1), .int .i64 (b 2), .int .i64 (b 3)]
def isMove (c : Cl) (v : Mv) : Bool := inB v.turn (-c.turns) c.turns && inB v.dx (-c.shift) c.shift && inB v.dy (-c.shift) c.shift
set_option maxRecDepth 100000 in
set_option maxHeartbeats 1000000 in
theorem move_any (c : Cl) (v : Mv) (h : c.ok) (w : World) : Calls Try.prog 47 #[c.val, v.val] w fun e w' => e = .returned (.bool (isMove c v)) ∧ Ext w w' := by
  have h1 := h.turns
  have h2 := h.shift
  have HV := Lib.hid (show isMove c v = (inB v.turn (-c.turns) c.turns && inB v.dx (-c.shift) c.shift && inB v.dy (-c.shift) c.shift) from rfl)
  have HX := Lib.hid (fun b q w h0 => one_any (-c.turns) c.turns v.turn b q w h0)
  have HY := Lib.hid (fun b q w h0 h1 => two_any (-c.shift) c.shift v.dx v.dy b q w h0 h1)
  cases hx : inB v.turn (-c.turns) c.turns
  · rw [hx] at HX HV
    go_enter Try.func47, Try.ntmps47
    go_wp2_with fail
    refine Calls.same (HX.out _ _ _ (by simp [go_sem])) ?_
    go_wp2_with fail
    go_ret
    exact ⟨ret_of (by rw [HV.out]; rfl), (((Ext.refl w).alloc _).alloc _).alloc _⟩
  · rw [hx] at HX HV
    go_enter Try.func47, Try.ntmps47
    go_wp2_with fail
    refine Calls.same (HX.out _ _ _ (by simp [go_sem])) ?_
    go_wp2_with fail
    refine Calls.same (HY.out _ _ _ (by simp [go_sem]) (by simp [go_sem])) ?_
    go_wp2_with fail
    go_ret
    exact ⟨ret_of (by rw [HV.out]; rfl), ((((Ext.refl w).alloc _).alloc _).alloc _).alloc _⟩
set_option maxRecDepth 100000 in
set_option maxHeartbeats 1000000 in
theorem isMove_any (c : Cl) (v : Mv) (h : c.ok) (w : World) : Calls Try.prog 44 #[c.val, v.val] w fun e w' => e = .returned (.bool (isMove c v)) ∧ Ext w w' := by
  have h1 := h.turns
  have h2 := h.shift
  have HV := Lib.hid (show isMove c v = (inB v.turn (-c.turns) c.turns && inB v.dx (-c.shift) c.shift && inB v.dy (-c.shift) c.shift) from rfl)
  have HX := Lib.hid (fun w => within_any v.turn (-c.turns) c.turns w)
  have HY := Lib.hid (fun w => within_any v.dx (-c.shift) c.shift w)
  have HZ := Lib.hid (fun w => within_any v.dy (-c.shift) c.shift w)
  cases hx : inB v.turn (-c.turns) c.turns
  · rw [hx] at HX HV
    go_enter Try.func44, Try.ntmps44
    go_wp2_with fail
    refine Calls.same (HX.out _) ?_
    go_wp2_with fail
    go_ret
    exact ⟨ret_of (by rw [HV.out]; rfl), ((Ext.refl w).alloc _).alloc _⟩
  · rw [hx] at HX HV
    cases hy : inB v.dx (-c.shift) c.shift
    · rw [hy] at HY HV
      go_enter Try.func44, Try.ntmps44
      go_wp2_with fail
      refine Calls.same (HX.out _) ?_
      go_wp2_with fail
      refine Calls.same (HY.out _) ?_
      go_wp2_with fail
      go_ret
      exact ⟨ret_of (by rw [HV.out]; rfl), ((Ext.refl w).alloc _).alloc _⟩
    · rw [hy] at HY HV
      go_enter Try.func44, Try.ntmps44
      go_wp2_with fail
      refine Calls.same (HX.out _) ?_
      go_wp2_with fail
      refine Calls.same (HY.out _) ?_
      go_wp2_with fail
      refine Calls.same (HZ.out _) ?_
      go_wp2_with fail
      go_ret
      exact ⟨ret_of (by rw [HV.out]; rfl), ((Ext.refl w).alloc _).alloc _⟩
end Go.Proofs.Ythejomcibobieaa
