/- The small functions of the iris layer: what each returns. -/
import Derived.Test.YtcacbolbedhcoaaRows
import Derived.Test.YtcacbolbedhcoaaCommon
import Derived.Test.YtcacbolbedhcoaaWords
namespace Go.Proofs.Ytcacbolbedhcoaa
open Go.RowKit

/-- A code. -/
structure Ir where
  code : BitVec 64
  mask : BitVec 64
abbrev Ir.val (a : Ir) : Value := .agg #[.int .u64 (uw a.code), .int .u64 (uw a.mask)]
def Ir.zero : Ir := ⟨0#64, 0#64⟩
def okI (a : Ir) : Bool := a.code &&& ~~~a.mask == 0#64
def chkI (a : Ir) : Int := if okI a then 0 else 30

theorem check_any (a : Ir) (w : World) : Calls Try.prog 21 #[a.val] w fun e w' => e = .returned (.int .i64 (chkI a)) ∧ Ext w w' := by
  cases h : okI a
  · have Hv := Lib.hid (show chkI a = 30 by simp [chkI, h])
    unfold okI at h
    go_enter Try.func21, Try.ntmps21
    go_wp2
    go_ret
    exact ⟨ret_of (by rw [Hv.out]; rfl), (Ext.refl w).alloc _⟩
  · have Hv := Lib.hid (show chkI a = 0 by simp [chkI, h])
    unfold okI at h
    go_enter Try.func21, Try.ntmps21
    go_wp2
    go_ret
    exact ⟨ret_of (by rw [Hv.out]; rfl), (Ext.refl w).alloc _⟩

def inB (n lo hi : Int) : Bool := decide (lo ≤ n) && decide (n ≤ hi)
theorem within_any (n lo hi : Int) (w : World) : Calls Try.prog 45 #[.int .i64 n, .int .i64 lo, .int .i64 hi] w fun e w' => e = .returned (.bool (inB n lo hi)) ∧ w = w' := by
  go_enter Try.func45, Try.ntmps45
  go_wp2
  all_goals (go_ret; refine ⟨ret_of ?_, rfl⟩; simp_all [inB])
  omega
theorem refWithin_any (n lo hi : Int) (w : World) : Calls Try.prog 46 #[.int .i64 n, .int .i64 lo, .int .i64 hi] w fun e w' => e = .returned (.bool (inB n lo hi)) ∧ w = w' := by
  go_enter Try.func46, Try.ntmps46
  go_wp2
  all_goals (go_ret; refine ⟨ret_of ?_, rfl⟩; simp_all [inB])
  omega
theorem ones_any (x : BitVec 64) (w : World) : Calls Try.prog 41 #[.int .u64 (uw x)] w fun e w' => e = .returned (.int .i64 (cpop x)) ∧ w = w' := by
  rw [← ones_eq]
  generalize uw x = n
  go_enter Try.func41, Try.ntmps41
  go_wp2
  go_ret
  exact ⟨rfl, rfl⟩
theorem rot_any (x t : Int) (w : World) (ht : -7 ≤ t ∧ t ≤ 7) : Calls Try.prog 68 #[.int .u16 x, .int .i64 t] w fun e w' => e = .returned (.int .u16 (rotI x t)) ∧ w = w' := by
  obtain rfl | rfl | rfl | rfl | rfl | rfl | rfl | rfl | rfl | rfl | rfl | rfl | rfl | rfl | rfl : t = -7 ∨ t = -6 ∨ t = -5 ∨ t = -4 ∨ t = -3 ∨ t = -2 ∨ t = -1 ∨ t = 0 ∨ t = 1 ∨ t = 2 ∨ t = 3 ∨ t = 4 ∨ t = 5 ∨ t = 6 ∨ t = 7 := by omega
  · have hb : bits .and .u64 (IntKind.u64.wrap (-7)) 15 = 9 := by kernel_rfl
    clear ht
    go_enter Try.func68, Try.ntmps68
    go_wp2
    go_ret
    exact ⟨rfl, rfl⟩
  · have hb : bits .and .u64 (IntKind.u64.wrap (-6)) 15 = 10 := by kernel_rfl
    clear ht
    go_enter Try.func68, Try.ntmps68
    go_wp2
    go_ret
    exact ⟨rfl, rfl⟩
  · have hb : bits .and .u64 (IntKind.u64.wrap (-5)) 15 = 11 := by kernel_rfl
    clear ht
    go_enter Try.func68, Try.ntmps68
    go_wp2
    go_ret
    exact ⟨rfl, rfl⟩
  · have hb : bits .and .u64 (IntKind.u64.wrap (-4)) 15 = 12 := by kernel_rfl
    clear ht
    go_enter Try.func68, Try.ntmps68
    go_wp2
    go_ret
    exact ⟨rfl, rfl⟩
  · have hb : bits .and .u64 (IntKind.u64.wrap (-3)) 15 = 13 := by kernel_rfl
    clear ht
    go_enter Try.func68, Try.ntmps68
    go_wp2
    go_ret
    exact ⟨rfl, rfl⟩
  · have hb : bits .and .u64 (IntKind.u64.wrap (-2)) 15 = 14 := by kernel_rfl
    clear ht
    go_enter Try.func68, Try.ntmps68
    go_wp2
    go_ret
    exact ⟨rfl, rfl⟩
  · have hb : bits .and .u64 (IntKind.u64.wrap (-1)) 15 = 15 := by kernel_rfl
    clear ht
    go_enter Try.func68, Try.ntmps68
    go_wp2
    go_ret
    exact ⟨rfl, rfl⟩
  · have hb : bits .and .u64 0 15 = 0 := by kernel_rfl
    clear ht
    have Hv := Lib.hid (show rotI x 0 = bits .or .u16 (IntKind.u16.wrap x) (x / 65536) by rw [rotI, show turnS 0 = 0 from rfl, Int.pow_zero, Int.mul_one]; rfl)
    go_enter Try.func68, Try.ntmps68
    go_wp2
    go_ret
    exact ⟨ret_of (by rw [Hv.out]; rfl), rfl⟩
  · have hb : bits .and .u64 1 15 = 1 := by kernel_rfl
    clear ht
    go_enter Try.func68, Try.ntmps68
    go_wp2
    go_ret
    exact ⟨rfl, rfl⟩
  · have hb : bits .and .u64 2 15 = 2 := by kernel_rfl
    clear ht
    go_enter Try.func68, Try.ntmps68
    go_wp2
    go_ret
    exact ⟨rfl, rfl⟩
  · have hb : bits .and .u64 3 15 = 3 := by kernel_rfl
    clear ht
    go_enter Try.func68, Try.ntmps68
    go_wp2
    go_ret
    exact ⟨rfl, rfl⟩
  · have hb : bits .and .u64 4 15 = 4 := by kernel_rfl
    clear ht
    go_enter Try.func68, Try.ntmps68
    go_wp2
    go_ret
    exact ⟨rfl, rfl⟩
  · have hb : bits .and .u64 5 15 = 5 := by kernel_rfl
    clear ht
    go_enter Try.func68, Try.ntmps68
    go_wp2
    go_ret
    exact ⟨rfl, rfl⟩
  · have hb : bits .and .u64 6 15 = 6 := by kernel_rfl
    clear ht
    go_enter Try.func68, Try.ntmps68
    go_wp2
    go_ret
    exact ⟨rfl, rfl⟩
  · have hb : bits .and .u64 7 15 = 7 := by kernel_rfl
    clear ht
    go_enter Try.func68, Try.ntmps68
    go_wp2
    go_ret
    exact ⟨rfl, rfl⟩
theorem turnWord_any (x : BitVec 64) (t : Int) (w : World) (ht : -7 ≤ t ∧ t ≤ 7) : Calls Try.prog 63 #[.int .u64 (uw x), .int .i64 t] w fun e w' => e = .returned (.int .u64 (uw (turnW x t))) ∧ w = w' := by
  rw [← turn_eq]
  generalize uw x = n
  go_enter Try.func63, Try.ntmps63
  go_wp2_with fail
  refine wp_loop_rounds 5 ?_
  iterate 5 (rw [rounds_succ]; go_wp2_with (go_at_call 68; refine Calls.same (rot_any _ _ _ ht) ?_))
  go_ret
  exact ⟨rfl, rfl⟩
end Go.Proofs.Ytcacbolbedhcoaa
