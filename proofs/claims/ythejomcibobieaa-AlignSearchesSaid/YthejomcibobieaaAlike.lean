/- The reference: whether two points are alike (Alike, 74). -/
import Derived.Test.YthejomcibobieaaPlace
namespace Go.Proofs.Ythejomcibobieaa
open Go.RowKit

def absD (a b : Int) : Int := max (a - b) (-(a - b))
def turnO (m o : Mi) (n : Int) : Int := absD (turnD m n) (2 * o.dir)
def alikeB (c : Cl) (m o : Mi) (v : Mv) (b : Nat → Int) : Bool :=
  decide (m.kind = o.kind) && decide (absD (placeX m v) o.x ≤ c.reach) && decide (absD (placeY m v b) o.y ≤ c.reach) && decide (min (turnO m o v.turn) (16 - turnO m o v.turn) ≤ c.spread)
structure Mi.ok (m : Mi) : Prop where
  x : 0 ≤ m.x ∧ m.x ≤ 63
  y : 0 ≤ m.y ∧ m.y ≤ 63
  dir : 0 ≤ m.dir ∧ m.dir ≤ 7
set_option maxRecDepth 100000 in
set_option maxHeartbeats 4000000 in
theorem alike_any (c : Cl) (m o : Mi) (v : Mv) (b : Nat → Int) (hm : m.ok) (ho : o.ok) (ht : -3 ≤ v.turn ∧ v.turn ≤ 3) (hdx : -4 ≤ v.dx ∧ v.dx ≤ 4) (hdy : -4 ≤ v.dy ∧ v.dy ≤ 4) (hb : ∀ i, i < 4 → -1 ≤ b i ∧ b i ≤ 1) (w : World) :
    Calls Try.prog 74 #[c.val, m.val, o.val, v.val, bendV b] w fun e w' => e = .returned (.bool (alikeB c m o v b)) ∧ Ext w w' := by
  have CP := Lib.hid (fun w => placed_any m v b hm.x hm.y hm.dir ht hdx hdy hb w)
  have b1 := turnX_in (n := v.turn) hm.x hm.y
  have b2 := turnY_in (n := v.turn) hm.x hm.y
  have b3 := hb (m.x / 16).toNat (by have := hm.x; omega)
  have x1 : -1000 ≤ placeX m v ∧ placeX m v ≤ 1000 := by unfold placeX; omega
  have y1 : -1000 ≤ placeY m v b ∧ placeY m v b ≤ 1000 := by unfold placeY; omega
  have d1 : 0 ≤ turnD m v.turn ∧ turnD m v.turn < 16 := by unfold turnD; omega
  obtain ⟨o1, o2⟩ := ho.x
  obtain ⟨o3, o4⟩ := ho.y
  obtain ⟨o5, o6⟩ := ho.dir
  have C1 := Lib.hid (fun w => abs_any (turnD m v.turn - 2 * o.dir) (by omega) w)
  have C2 := Lib.hid (fun w => abs_any (placeX m v - o.x) (by omega) w)
  have C3 := Lib.hid (fun w => abs_any (placeY m v b - o.y) (by omega) w)
  have HV := Lib.hid (show alikeB c m o v b = (decide (m.kind = o.kind) && decide (max (placeX m v - o.x) (-(placeX m v - o.x)) ≤ c.reach) && decide (max (placeY m v b - o.y) (-(placeY m v b - o.y)) ≤ c.reach) && decide (min (max (turnD m v.turn - 2 * o.dir) (-(turnD m v.turn - 2 * o.dir))) (16 - max (turnD m v.turn - 2 * o.dir) (-(turnD m v.turn - 2 * o.dir))) ≤ c.spread)) from rfl)
  have a1 : 0 ≤ max (turnD m v.turn - 2 * o.dir) (-(turnD m v.turn - 2 * o.dir)) ∧ max (turnD m v.turn - 2 * o.dir) (-(turnD m v.turn - 2 * o.dir)) ≤ 100 := by omega
  clear hm ho ht hdx hdy hb b1 b2 b3
  generalize turnD m v.turn = td at *
  generalize placeX m v = px at *
  generalize placeY m v b = py at *
  obtain ⟨ta, hta⟩ : ∃ ta, ta = max (td - 2 * o.dir) (-(td - 2 * o.dir)) := ⟨_, rfl⟩
  obtain ⟨xa, hxa⟩ : ∃ xa, xa = max (px - o.x) (-(px - o.x)) := ⟨_, rfl⟩
  obtain ⟨ya, hya⟩ : ∃ ya, ya = max (py - o.y) (-(py - o.y)) := ⟨_, rfl⟩
  rw [← hta] at C1 HV a1
  rw [← hxa] at C2 HV
  rw [← hya] at C3 HV
  clear hta hxa hya
  go_enter Try.func74, Try.ntmps74
  go_wp2_with fail
  refine Calls.ext (CP.out _) fun z1 => ?_
  go_wp2_with fail
  refine Calls.same (C1.out _) ?_
  go_wp2_with fail
  cases e1 : decide (m.kind = o.kind)
  · have HV1 := Lib.hid (show alikeB c m o v b = false from HV.out.trans (by rw [e1]; simp))
    have e1' : (m.kind == o.kind) = false := by simpa using e1
    clear C1 C2 C3 HV
    refine wp_region_ext (by kernel_rfl) (by kernel_rfl) ?_
    repeat (go_big_quiet_step (fail))
    refine wpQuiet_nil ?_
    rintro _ ⟨z2, rfl⟩
    go_wp2_with fail
    go_ret
    refine ⟨ret_of (congrArg Value.bool HV1.out.symm), ?_⟩
    repeat' (first | with_reducible exact Ext.refl _ | with_reducible refine Ext.alloc ?_ _ | with_reducible refine Ext.ext ?_ _)
  have e1' : (m.kind == o.kind) = true := by simpa using e1
  cases e2 : decide (xa ≤ c.reach)
  · have HV1 := Lib.hid (show alikeB c m o v b = false from HV.out.trans (by rw [e1, e2]; simp))
    clear C1 C3 HV
    refine wp_region_ext (by kernel_rfl) (by kernel_rfl) ?_
    repeat (go_big_quiet_step (first | (go_at_call 70; exact Calls.quiet_same (C2.out _))))
    refine wpQuiet_nil ?_
    rintro _ ⟨z2, rfl⟩
    go_wp2_with fail
    go_ret
    refine ⟨ret_of (congrArg Value.bool HV1.out.symm), ?_⟩
    repeat' (first | with_reducible exact Ext.refl _ | with_reducible refine Ext.alloc ?_ _ | with_reducible refine Ext.ext ?_ _)
  cases e3 : decide (ya ≤ c.reach)
  · have HV1 := Lib.hid (show alikeB c m o v b = false from HV.out.trans (by rw [e1, e2, e3]; simp))
    clear C1 HV
    refine wp_region_ext (by kernel_rfl) (by kernel_rfl) ?_
    repeat (go_big_quiet_step (first | (go_at_call 70; exact Calls.quiet_same (C2.out _)) | (go_at_call 70; exact Calls.quiet_same (C3.out _))))
    refine wpQuiet_nil ?_
    rintro _ ⟨z2, rfl⟩
    go_wp2_with fail
    go_ret
    refine ⟨ret_of (congrArg Value.bool HV1.out.symm), ?_⟩
    repeat' (first | with_reducible exact Ext.refl _ | with_reducible refine Ext.alloc ?_ _ | with_reducible refine Ext.ext ?_ _)
  have HV1 := Lib.hid (show alikeB c m o v b = decide (min ta (16 - ta) ≤ c.spread) from HV.out.trans (by rw [e1, e2, e3]; simp))
  clear C1 HV
  refine wp_region_ext (by kernel_rfl) (by kernel_rfl) ?_
  repeat (go_big_quiet_step (first | (go_at_call 70; exact Calls.quiet_same (C2.out _)) | (go_at_call 70; exact Calls.quiet_same (C3.out _))))
  refine wpQuiet_nil ?_
  rintro _ ⟨z2, rfl⟩
  go_wp2_with fail
  · have hmn : min ta (16 - ta) = 16 - ta := by omega
    go_ret
    refine ⟨ret_of (congrArg Value.bool (by rw [HV1.out, hmn])), ?_⟩
    repeat' (first | with_reducible exact Ext.refl _ | with_reducible refine Ext.alloc ?_ _ | with_reducible refine Ext.ext ?_ _)
  · have hmn : min ta (16 - ta) = ta := by omega
    go_ret
    refine ⟨ret_of (congrArg Value.bool (by rw [HV1.out, hmn])), ?_⟩
    repeat' (first | with_reducible exact Ext.refl _ | with_reducible refine Ext.alloc ?_ _ | with_reducible refine Ext.ext ?_ _)
end Go.Proofs.Ythejomcibobieaa
