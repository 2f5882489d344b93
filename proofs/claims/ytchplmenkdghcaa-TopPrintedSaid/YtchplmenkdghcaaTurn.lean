/- Where a move and a bend bring a point. -/
import Derived.Test.YtchplmenkdghcaaBend
namespace Go.Proofs.Ytchplmenkdghcaa
open Go.RowKit
def cosI (n : Int) : Int := if n = 0 then 64 else if n = 1 ∨ n = -1 then 59 else if n = 2 ∨ n = -2 then 45 else 24
def sinI (n : Int) : Int := if n = 0 then 0 else if n = 1 then 24 else if n = -1 then -24 else if n = 2 then 45 else if n = -2 then -45 else if n = 3 then 59 else -59
def turnX (m : Mi) (n : Int) : Int := 32 + (cosI n * (m.x - 32) - sinI n * (m.y - 32) + 32) / 64
def turnY (m : Mi) (n : Int) : Int := 32 + (sinI n * (m.x - 32) + cosI n * (m.y - 32) + 32) / 64
def turnD (m : Mi) (n : Int) : Int := (2 * m.dir + n + 16) % 16
def turnV (m : Mi) (n : Int) : Value := .agg #[.int .i64 (turnX m n), .int .i64 (turnY m n), .int .i64 (turnD m n), .int .i64 (m.x / 16), .int .u8 m.kind]
set_option maxRecDepth 100000 in
set_option maxHeartbeats 4000000 in
theorem turn_any (m : Mi) (n : Int) (hx : 0 ≤ m.x ∧ m.x ≤ 63) (hy : 0 ≤ m.y ∧ m.y ≤ 63) (hd : 0 ≤ m.dir ∧ m.dir ≤ 7) (hn : -3 ≤ n ∧ n ≤ 3) (w : World) : Calls Try.prog 49 #[m.val, .int .i64 n] w fun e w' => e = .returned (turnV m n) ∧ Ext w w' := by
  have h7 : n = -3 ∨ n = -2 ∨ n = -1 ∨ n = 0 ∨ n = 1 ∨ n = 2 ∨ n = 3 := by omega
  clear hn
  rcases h7 with rfl | rfl | rfl | rfl | rfl | rfl | rfl
  · have hc : (Instr.index 119 (.agg #[.int .i64 24, .int .i64 45, .int .i64 59, .int .i64 64, .int .i64 59, .int .i64 45, .int .i64 24]) (.int .i64 0)).run Try.prog = fun w => .ok (.int .i64 24) w := funext fun w => by kernel_rfl
    have hs : (Instr.index 119 (.agg #[.int .i64 (-59), .int .i64 (-45), .int .i64 (-24), .int .i64 0, .int .i64 24, .int .i64 45, .int .i64 59]) (.int .i64 0)).run Try.prog = fun w => .ok (.int .i64 (-59)) w := funext fun w => by kernel_rfl
    go_enter Try.func49, Try.ntmps49
    go_wp2_with fail
    refine wp_region_ext (by kernel_rfl) (by kernel_rfl) ?_
    repeat (go_big_quiet_step (fail))
    refine wpQuiet_nil ?_
    rintro _ ⟨z1, rfl⟩
    clear hc hs
    go_wp2_with fail
    refine wp_region_ext (by kernel_rfl) (by kernel_rfl) ?_
    repeat (go_big_quiet_step (fail))
    refine wpQuiet_nil ?_
    rintro _ ⟨z2, rfl⟩
    go_wp2_with fail
    refine bodyPost_ret (v := .agg #[.int .i64 (32 + (24 * (m.x - 32) - -59 * (m.y - 32) + 32) / 64), .int .i64 (32 + (-59 * (m.x - 32) + 24 * (m.y - 32) + 32) / 64), .int .i64 ((2 * m.dir + -3) % 16), .int .i64 (m.x / 16), .int .u8 m.kind]) (by simp [results, Try.results49, go_sem]) rfl ⟨ret_of ?_, ?_⟩
    · have h1 : cosI (-3) = 24 := rfl
      have h2 : sinI (-3) = -59 := rfl
      have e1 : turnX m (-3) = 32 + (24 * (m.x - 32) - -59 * (m.y - 32) + 32) / 64 := by unfold turnX; rw [h1, h2]; first | done | omega
      have e2 : turnY m (-3) = 32 + (-59 * (m.x - 32) + 24 * (m.y - 32) + 32) / 64 := by unfold turnY; rw [h1, h2]; first | done | omega
      have e3 : turnD m (-3) = (2 * m.dir + -3) % 16 := by unfold turnD; omega
      unfold turnV
      rw [e1, e2, e3]
    · repeat' (first | with_reducible exact Ext.refl _ | with_reducible refine Ext.alloc ?_ _ | with_reducible refine Ext.ext ?_ _ | with_reducible refine Ext.setCell ?_ (by simp) _)
  · have hc : (Instr.index 119 (.agg #[.int .i64 24, .int .i64 45, .int .i64 59, .int .i64 64, .int .i64 59, .int .i64 45, .int .i64 24]) (.int .i64 1)).run Try.prog = fun w => .ok (.int .i64 45) w := funext fun w => by kernel_rfl
    have hs : (Instr.index 119 (.agg #[.int .i64 (-59), .int .i64 (-45), .int .i64 (-24), .int .i64 0, .int .i64 24, .int .i64 45, .int .i64 59]) (.int .i64 1)).run Try.prog = fun w => .ok (.int .i64 (-45)) w := funext fun w => by kernel_rfl
    go_enter Try.func49, Try.ntmps49
    go_wp2_with fail
    refine wp_region_ext (by kernel_rfl) (by kernel_rfl) ?_
    repeat (go_big_quiet_step (fail))
    refine wpQuiet_nil ?_
    rintro _ ⟨z1, rfl⟩
    clear hc hs
    go_wp2_with fail
    refine wp_region_ext (by kernel_rfl) (by kernel_rfl) ?_
    repeat (go_big_quiet_step (fail))
    refine wpQuiet_nil ?_
    rintro _ ⟨z2, rfl⟩
    go_wp2_with fail
    refine bodyPost_ret (v := .agg #[.int .i64 (32 + (45 * (m.x - 32) - -45 * (m.y - 32) + 32) / 64), .int .i64 (32 + (-45 * (m.x - 32) + 45 * (m.y - 32) + 32) / 64), .int .i64 ((2 * m.dir + -2) % 16), .int .i64 (m.x / 16), .int .u8 m.kind]) (by simp [results, Try.results49, go_sem]) rfl ⟨ret_of ?_, ?_⟩
    · have h1 : cosI (-2) = 45 := rfl
      have h2 : sinI (-2) = -45 := rfl
      have e1 : turnX m (-2) = 32 + (45 * (m.x - 32) - -45 * (m.y - 32) + 32) / 64 := by unfold turnX; rw [h1, h2]; first | done | omega
      have e2 : turnY m (-2) = 32 + (-45 * (m.x - 32) + 45 * (m.y - 32) + 32) / 64 := by unfold turnY; rw [h1, h2]; first | done | omega
      have e3 : turnD m (-2) = (2 * m.dir + -2) % 16 := by unfold turnD; omega
      unfold turnV
      rw [e1, e2, e3]
    · repeat' (first | with_reducible exact Ext.refl _ | with_reducible refine Ext.alloc ?_ _ | with_reducible refine Ext.ext ?_ _ | with_reducible refine Ext.setCell ?_ (by simp) _)
  · have hc : (Instr.index 119 (.agg #[.int .i64 24, .int .i64 45, .int .i64 59, .int .i64 64, .int .i64 59, .int .i64 45, .int .i64 24]) (.int .i64 2)).run Try.prog = fun w => .ok (.int .i64 59) w := funext fun w => by kernel_rfl
    have hs : (Instr.index 119 (.agg #[.int .i64 (-59), .int .i64 (-45), .int .i64 (-24), .int .i64 0, .int .i64 24, .int .i64 45, .int .i64 59]) (.int .i64 2)).run Try.prog = fun w => .ok (.int .i64 (-24)) w := funext fun w => by kernel_rfl
    go_enter Try.func49, Try.ntmps49
    go_wp2_with fail
    refine wp_region_ext (by kernel_rfl) (by kernel_rfl) ?_
    repeat (go_big_quiet_step (fail))
    refine wpQuiet_nil ?_
    rintro _ ⟨z1, rfl⟩
    clear hc hs
    go_wp2_with fail
    refine wp_region_ext (by kernel_rfl) (by kernel_rfl) ?_
    repeat (go_big_quiet_step (fail))
    refine wpQuiet_nil ?_
    rintro _ ⟨z2, rfl⟩
    go_wp2_with fail
    refine bodyPost_ret (v := .agg #[.int .i64 (32 + (59 * (m.x - 32) - -24 * (m.y - 32) + 32) / 64), .int .i64 (32 + (-24 * (m.x - 32) + 59 * (m.y - 32) + 32) / 64), .int .i64 ((2 * m.dir + -1) % 16), .int .i64 (m.x / 16), .int .u8 m.kind]) (by simp [results, Try.results49, go_sem]) rfl ⟨ret_of ?_, ?_⟩
    · have h1 : cosI (-1) = 59 := rfl
      have h2 : sinI (-1) = -24 := rfl
      have e1 : turnX m (-1) = 32 + (59 * (m.x - 32) - -24 * (m.y - 32) + 32) / 64 := by unfold turnX; rw [h1, h2]; first | done | omega
      have e2 : turnY m (-1) = 32 + (-24 * (m.x - 32) + 59 * (m.y - 32) + 32) / 64 := by unfold turnY; rw [h1, h2]; first | done | omega
      have e3 : turnD m (-1) = (2 * m.dir + -1) % 16 := by unfold turnD; omega
      unfold turnV
      rw [e1, e2, e3]
    · repeat' (first | with_reducible exact Ext.refl _ | with_reducible refine Ext.alloc ?_ _ | with_reducible refine Ext.ext ?_ _ | with_reducible refine Ext.setCell ?_ (by simp) _)
  · have hc : (Instr.index 119 (.agg #[.int .i64 24, .int .i64 45, .int .i64 59, .int .i64 64, .int .i64 59, .int .i64 45, .int .i64 24]) (.int .i64 3)).run Try.prog = fun w => .ok (.int .i64 64) w := funext fun w => by kernel_rfl
    have hs : (Instr.index 119 (.agg #[.int .i64 (-59), .int .i64 (-45), .int .i64 (-24), .int .i64 0, .int .i64 24, .int .i64 45, .int .i64 59]) (.int .i64 3)).run Try.prog = fun w => .ok (.int .i64 0) w := funext fun w => by kernel_rfl
    go_enter Try.func49, Try.ntmps49
    go_wp2_with fail
    refine wp_region_ext (by kernel_rfl) (by kernel_rfl) ?_
    repeat (go_big_quiet_step (fail))
    refine wpQuiet_nil ?_
    rintro _ ⟨z1, rfl⟩
    clear hc hs
    go_wp2_with fail
    refine wp_region_ext (by kernel_rfl) (by kernel_rfl) ?_
    repeat (go_big_quiet_step (fail))
    refine wpQuiet_nil ?_
    rintro _ ⟨z2, rfl⟩
    go_wp2_with fail
    refine bodyPost_ret (v := .agg #[.int .i64 (32 + (64 * (m.x - 32) + 32) / 64), .int .i64 (32 + (64 * (m.y - 32) + 32) / 64), .int .i64 (2 * m.dir % 16), .int .i64 (m.x / 16), .int .u8 m.kind]) (by simp [results, Try.results49, go_sem]) rfl ⟨ret_of ?_, ?_⟩
    · have h1 : cosI 0 = 64 := rfl
      have h2 : sinI 0 = 0 := rfl
      have e1 : turnX m 0 = 32 + (64 * (m.x - 32) + 32) / 64 := by unfold turnX; rw [h1, h2]; first | done | omega
      have e2 : turnY m 0 = 32 + (64 * (m.y - 32) + 32) / 64 := by unfold turnY; rw [h1, h2]; first | done | omega
      have e3 : turnD m 0 = 2 * m.dir % 16 := by unfold turnD; omega
      unfold turnV
      rw [e1, e2, e3]
    · repeat' (first | with_reducible exact Ext.refl _ | with_reducible refine Ext.alloc ?_ _ | with_reducible refine Ext.ext ?_ _ | with_reducible refine Ext.setCell ?_ (by simp) _)
  · have hc : (Instr.index 119 (.agg #[.int .i64 24, .int .i64 45, .int .i64 59, .int .i64 64, .int .i64 59, .int .i64 45, .int .i64 24]) (.int .i64 4)).run Try.prog = fun w => .ok (.int .i64 59) w := funext fun w => by kernel_rfl
    have hs : (Instr.index 119 (.agg #[.int .i64 (-59), .int .i64 (-45), .int .i64 (-24), .int .i64 0, .int .i64 24, .int .i64 45, .int .i64 59]) (.int .i64 4)).run Try.prog = fun w => .ok (.int .i64 24) w := funext fun w => by kernel_rfl
    go_enter Try.func49, Try.ntmps49
    go_wp2_with fail
    refine wp_region_ext (by kernel_rfl) (by kernel_rfl) ?_
    repeat (go_big_quiet_step (fail))
    refine wpQuiet_nil ?_
    rintro _ ⟨z1, rfl⟩
    clear hc hs
    go_wp2_with fail
    refine wp_region_ext (by kernel_rfl) (by kernel_rfl) ?_
    repeat (go_big_quiet_step (fail))
    refine wpQuiet_nil ?_
    rintro _ ⟨z2, rfl⟩
    go_wp2_with fail
    refine bodyPost_ret (v := .agg #[.int .i64 (32 + (59 * (m.x - 32) - 24 * (m.y - 32) + 32) / 64), .int .i64 (32 + (24 * (m.x - 32) + 59 * (m.y - 32) + 32) / 64), .int .i64 ((2 * m.dir + 1) % 16), .int .i64 (m.x / 16), .int .u8 m.kind]) (by simp [results, Try.results49, go_sem]) rfl ⟨ret_of ?_, ?_⟩
    · have h1 : cosI 1 = 59 := rfl
      have h2 : sinI 1 = 24 := rfl
      have e1 : turnX m 1 = 32 + (59 * (m.x - 32) - 24 * (m.y - 32) + 32) / 64 := by unfold turnX; rw [h1, h2]; first | done | omega
      have e2 : turnY m 1 = 32 + (24 * (m.x - 32) + 59 * (m.y - 32) + 32) / 64 := by unfold turnY; rw [h1, h2]; first | done | omega
      have e3 : turnD m 1 = (2 * m.dir + 1) % 16 := by unfold turnD; omega
      unfold turnV
      rw [e1, e2, e3]
    · repeat' (first | with_reducible exact Ext.refl _ | with_reducible refine Ext.alloc ?_ _ | with_reducible refine Ext.ext ?_ _ | with_reducible refine Ext.setCell ?_ (by simp) _)
  · have hc : (Instr.index 119 (.agg #[.int .i64 24, .int .i64 45, .int .i64 59, .int .i64 64, .int .i64 59, .int .i64 45, .int .i64 24]) (.int .i64 5)).run Try.prog = fun w => .ok (.int .i64 45) w := funext fun w => by kernel_rfl
    have hs : (Instr.index 119 (.agg #[.int .i64 (-59), .int .i64 (-45), .int .i64 (-24), .int .i64 0, .int .i64 24, .int .i64 45, .int .i64 59]) (.int .i64 5)).run Try.prog = fun w => .ok (.int .i64 45) w := funext fun w => by kernel_rfl
    go_enter Try.func49, Try.ntmps49
    go_wp2_with fail
    refine wp_region_ext (by kernel_rfl) (by kernel_rfl) ?_
    repeat (go_big_quiet_step (fail))
    refine wpQuiet_nil ?_
    rintro _ ⟨z1, rfl⟩
    clear hc hs
    go_wp2_with fail
    refine wp_region_ext (by kernel_rfl) (by kernel_rfl) ?_
    repeat (go_big_quiet_step (fail))
    refine wpQuiet_nil ?_
    rintro _ ⟨z2, rfl⟩
    go_wp2_with fail
    refine bodyPost_ret (v := .agg #[.int .i64 (32 + (45 * (m.x - 32) - 45 * (m.y - 32) + 32) / 64), .int .i64 (32 + (45 * (m.x - 32) + 45 * (m.y - 32) + 32) / 64), .int .i64 ((2 * m.dir + 2) % 16), .int .i64 (m.x / 16), .int .u8 m.kind]) (by simp [results, Try.results49, go_sem]) rfl ⟨ret_of ?_, ?_⟩
    · have h1 : cosI 2 = 45 := rfl
      have h2 : sinI 2 = 45 := rfl
      have e1 : turnX m 2 = 32 + (45 * (m.x - 32) - 45 * (m.y - 32) + 32) / 64 := by unfold turnX; rw [h1, h2]; first | done | omega
      have e2 : turnY m 2 = 32 + (45 * (m.x - 32) + 45 * (m.y - 32) + 32) / 64 := by unfold turnY; rw [h1, h2]; first | done | omega
      have e3 : turnD m 2 = (2 * m.dir + 2) % 16 := by unfold turnD; omega
      unfold turnV
      rw [e1, e2, e3]
    · repeat' (first | with_reducible exact Ext.refl _ | with_reducible refine Ext.alloc ?_ _ | with_reducible refine Ext.ext ?_ _ | with_reducible refine Ext.setCell ?_ (by simp) _)
  · have hc : (Instr.index 119 (.agg #[.int .i64 24, .int .i64 45, .int .i64 59, .int .i64 64, .int .i64 59, .int .i64 45, .int .i64 24]) (.int .i64 6)).run Try.prog = fun w => .ok (.int .i64 24) w := funext fun w => by kernel_rfl
    have hs : (Instr.index 119 (.agg #[.int .i64 (-59), .int .i64 (-45), .int .i64 (-24), .int .i64 0, .int .i64 24, .int .i64 45, .int .i64 59]) (.int .i64 6)).run Try.prog = fun w => .ok (.int .i64 59) w := funext fun w => by kernel_rfl
    go_enter Try.func49, Try.ntmps49
    go_wp2_with fail
    refine wp_region_ext (by kernel_rfl) (by kernel_rfl) ?_
    repeat (go_big_quiet_step (fail))
    refine wpQuiet_nil ?_
    rintro _ ⟨z1, rfl⟩
    clear hc hs
    go_wp2_with fail
    refine wp_region_ext (by kernel_rfl) (by kernel_rfl) ?_
    repeat (go_big_quiet_step (fail))
    refine wpQuiet_nil ?_
    rintro _ ⟨z2, rfl⟩
    go_wp2_with fail
    refine bodyPost_ret (v := .agg #[.int .i64 (32 + (24 * (m.x - 32) - 59 * (m.y - 32) + 32) / 64), .int .i64 (32 + (59 * (m.x - 32) + 24 * (m.y - 32) + 32) / 64), .int .i64 ((2 * m.dir + 3) % 16), .int .i64 (m.x / 16), .int .u8 m.kind]) (by simp [results, Try.results49, go_sem]) rfl ⟨ret_of ?_, ?_⟩
    · have h1 : cosI 3 = 24 := rfl
      have h2 : sinI 3 = 59 := rfl
      have e1 : turnX m 3 = 32 + (24 * (m.x - 32) - 59 * (m.y - 32) + 32) / 64 := by unfold turnX; rw [h1, h2]; first | done | omega
      have e2 : turnY m 3 = 32 + (59 * (m.x - 32) + 24 * (m.y - 32) + 32) / 64 := by unfold turnY; rw [h1, h2]; first | done | omega
      have e3 : turnD m 3 = (2 * m.dir + 3) % 16 := by unfold turnD; omega
      unfold turnV
      rw [e1, e2, e3]
    · repeat' (first | with_reducible exact Ext.refl _ | with_reducible refine Ext.alloc ?_ _ | with_reducible refine Ext.ext ?_ _ | with_reducible refine Ext.setCell ?_ (by simp) _)
end Go.Proofs.Ytchplmenkdghcaa

