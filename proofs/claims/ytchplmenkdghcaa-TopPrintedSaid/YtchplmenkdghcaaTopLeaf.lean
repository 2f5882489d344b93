/- The leaves of the traces' layer. -/
import Derived.Test.YtchplmenkdghcaaTopLaw
import Derived.Test.YtchplmenkdghcaaPlace
namespace Go.Proofs.Ytchplmenkdghcaa
open Go.RowKit

def blF (b : Bool) : List Value := [.bool b]
/-- a slice of bools -/
def Bls (w : World) (A : Option Addr) (R : List Bool) : Prop := Sl 1 blF w A R
theorem withinR_any (n lo hi : Int) (w : World) : Calls Try.prog 28 #[.int .i64 n, .int .i64 lo, .int .i64 hi] w fun e w' => e = .returned (.bool (inB n lo hi)) ∧ w = w' := by
  have HV := Lib.hid (show inB n lo hi = (decide (lo ≤ n) && decide (n ≤ hi)) from rfl)
  generalize inB n lo hi = v at *
  go_enter Try.func28, Try.ntmps28
  cases h : decide (lo ≤ n)
  · rw [h] at HV
    go_wp2_with fail
    go_ret
    exact ⟨ret_of (by rw [HV.out]; simp), rfl⟩
  · rw [h] at HV
    go_wp2_with fail
    go_ret
    exact ⟨ret_of (by rw [HV.out]; simp), rfl⟩
theorem withinP_any (n lo hi : Int) (w : World) : Calls Try.prog 36 #[.int .i64 n, .int .i64 lo, .int .i64 hi] w fun e w' => e = .returned (.bool (inB n lo hi)) ∧ w = w' := by
  have HV := Lib.hid (show inB n lo hi = (decide (lo ≤ n) && decide (n ≤ hi)) from rfl)
  generalize inB n lo hi = v at *
  go_enter Try.func36, Try.ntmps36
  cases h : decide (lo ≤ n)
  · rw [h] at HV
    go_wp2_with fail
    go_ret
    exact ⟨ret_of (by rw [HV.out]; simp), rfl⟩
  · rw [h] at HV
    go_wp2_with fail
    go_ret
    exact ⟨ret_of (by rw [HV.out]; simp), rfl⟩
set_option maxRecDepth 100000 in
set_option maxHeartbeats 2000000 in
theorem isP_any (W H : Nat) (R : List Bool) (A : Option Addr) (c : Nat) (x y : Int) (hW : W ≤ 20) (hH : H ≤ 20) (hl : R.length = W * H) (w : World) (hB : Bls w A R) :
    Calls Try.prog 48 #[.agg #[.int .i64 W, .int .i64 H, .slice A R.length c], .int .i64 x, .int .i64 y] w fun e w' => e = .returned (.bool (isT W H R x y)) ∧ Ext w w' := by
  have HV := Lib.hid (show isT W H R x y = (inB x 0 (W - 1) && inB y 0 (H - 1) && R.getD (y * W + x).toNat false) from rfl)
  have C1 := fun w => withinP_any x 0 ((W : Int) - 1) w
  have C2 := fun w => withinP_any y 0 ((H : Int) - 1) w
  have w1 : IntKind.i64.wrap ((W : Int) - 1) = (W : Int) - 1 := IntWalk.i64_in _ (by omega)
  have w2 : IntKind.i64.wrap ((H : Int) - 1) = (H : Int) - 1 := IntWalk.i64_in _ (by omega)
  have HE := Lib.hid ((Ext.refl w).alloc (.cells #[.int .i64 W, .int .i64 H, .slice A R.length c] 24))
  generalize isT W H R x y = v at *
  cases h1 : inB x 0 ((W : Int) - 1)
  · rw [h1] at C1 HV
    replace C1 := Lib.hid C1
    clear hW hH hl hB h1 C2
    go_enter Try.func48, Try.ntmps48
    go_wp2_with fail
    refine Calls.same (C1.out _) ?_
    go_wp2_with fail
    go_ret
    exact ⟨ret_of (by rw [HV.out]; simp), HE.out⟩
  · rw [h1] at C1 HV
    replace C1 := Lib.hid C1
    cases h2 : inB y 0 ((H : Int) - 1)
    · rw [h2] at C2 HV
      replace C2 := Lib.hid C2
      clear hW hH hl hB h1 h2
      go_enter Try.func48, Try.ntmps48
      go_wp2_with fail
      refine Calls.same (C1.out _) ?_
      go_wp2_with fail
      refine Calls.same (C2.out _) ?_
      go_wp2_with fail
      go_ret
      exact ⟨ret_of (by rw [HV.out]; simp), HE.out⟩
    · rw [h2] at C2 HV
      replace C2 := Lib.hid C2
      rw [inB_iff] at h1 h2
      obtain ⟨a, rfl⟩ : ∃ a : Nat, x = a := ⟨x.toNat, by omega⟩
      obtain ⟨b, rfl⟩ : ∃ b : Nat, y = b := ⟨y.toNat, by omega⟩
      have hlt : b * W + a < R.length := by rw [hl]; exact idx_lt (by omega) (by omega)
      obtain ⟨i, hi⟩ : ∃ i, i = b * W + a := ⟨_, rfl⟩
      rw [← hi] at hlt
      have hm : (b : Int) * W = ((b * W : Nat) : Int) := by simp
      have hmi : ((b * W : Nat) : Int) + a = (i : Int) := by omega
      have hle : b * W ≤ 400 := Nat.le_trans (Nat.mul_le_mul (show b ≤ 20 by omega) hW) (by omega)
      have wm : IntKind.i64.wrap ((b * W : Nat) : Int) = ((b * W : Nat) : Int) := IntWalk.i64_in _ (by omega)
      have wi : IntKind.i64.wrap (((b * W : Nat) : Int) + a) = (i : Int) := by rw [hmi]; exact IntWalk.i64_in _ (by omega)
      rw [hm, hmi, Int.toNat_natCast] at HV
      rcases hB with hB | ⟨g, off, rfl, hg, hc⟩
      · rw [hB] at hlt; cases hlt
      · have hx : R[i]? = some (R.getD i false) := by rw [List.getD_eq_getElem?_getD, List.getElem?_eq_getElem hlt]; rfl
        have c0 : w.cell? ⟨g, off + i, none⟩ = some (.bool (R.getD i false)) := by
          have := hc i _ hx 0 _ rfl
          simpa using this
        have og := Old.mk hg
        generalize R.getD i false = v2 at *
        have hlt2 : (i : Int) < (R.length : Int) := by omega
        clear hW hH hl h1 h2 hc hx hle hi hmi
        generalize R.length = n at *
        generalize b * W = m at *
        go_enter Try.func48, Try.ntmps48
        go_wp2_with fail
        refine Calls.same (C1.out _) ?_
        go_wp2_with fail
        refine Calls.same (C2.out _) ?_
        go_wp2_with fail
        go_ret
        exact ⟨ret_of (by rw [HV.out]; simp), HE.out⟩
set_option maxRecDepth 100000 in
set_option maxHeartbeats 2000000 in
theorem isR_any (W H : Nat) (R : List Bool) (A : Option Addr) (c : Nat) (x y : Int) (hW : W ≤ 20) (hH : H ≤ 20) (hl : R.length = W * H) (w : World) (hB : Bls w A R) :
    Calls Try.prog 13 #[.agg #[.int .i64 W, .int .i64 H, .slice A R.length c], .int .i64 x, .int .i64 y] w fun e w' => e = .returned (.bool (isT W H R x y)) ∧ Ext w w' := by
  have HV := Lib.hid (show isT W H R x y = (inB x 0 (W - 1) && inB y 0 (H - 1) && R.getD (y * W + x).toNat false) from rfl)
  have C1 := fun w => withinR_any x 0 ((W : Int) - 1) w
  have C2 := fun w => withinR_any y 0 ((H : Int) - 1) w
  have w1 : IntKind.i64.wrap ((W : Int) - 1) = (W : Int) - 1 := IntWalk.i64_in _ (by omega)
  have w2 : IntKind.i64.wrap ((H : Int) - 1) = (H : Int) - 1 := IntWalk.i64_in _ (by omega)
  have HE := Lib.hid ((Ext.refl w).alloc (.cells #[.int .i64 W, .int .i64 H, .slice A R.length c] 24))
  generalize isT W H R x y = v at *
  cases h1 : inB x 0 ((W : Int) - 1)
  · rw [h1] at C1 HV
    replace C1 := Lib.hid C1
    clear hW hH hl hB h1 C2
    go_enter Try.func13, Try.ntmps13
    go_wp2_with fail
    refine Calls.same (C1.out _) ?_
    go_wp2_with fail
    go_ret
    exact ⟨ret_of (by rw [HV.out]; simp), HE.out⟩
  · rw [h1] at C1 HV
    replace C1 := Lib.hid C1
    cases h2 : inB y 0 ((H : Int) - 1)
    · rw [h2] at C2 HV
      replace C2 := Lib.hid C2
      clear hW hH hl hB h1 h2
      go_enter Try.func13, Try.ntmps13
      go_wp2_with fail
      refine Calls.same (C1.out _) ?_
      go_wp2_with fail
      refine Calls.same (C2.out _) ?_
      go_wp2_with fail
      go_ret
      exact ⟨ret_of (by rw [HV.out]; simp), HE.out⟩
    · rw [h2] at C2 HV
      replace C2 := Lib.hid C2
      rw [inB_iff] at h1 h2
      obtain ⟨a, rfl⟩ : ∃ a : Nat, x = a := ⟨x.toNat, by omega⟩
      obtain ⟨b, rfl⟩ : ∃ b : Nat, y = b := ⟨y.toNat, by omega⟩
      have hlt : b * W + a < R.length := by rw [hl]; exact idx_lt (by omega) (by omega)
      obtain ⟨i, hi⟩ : ∃ i, i = b * W + a := ⟨_, rfl⟩
      rw [← hi] at hlt
      have hm : (b : Int) * W = ((b * W : Nat) : Int) := by simp
      have hmi : ((b * W : Nat) : Int) + a = (i : Int) := by omega
      have hle : b * W ≤ 400 := Nat.le_trans (Nat.mul_le_mul (show b ≤ 20 by omega) hW) (by omega)
      have wm : IntKind.i64.wrap ((b * W : Nat) : Int) = ((b * W : Nat) : Int) := IntWalk.i64_in _ (by omega)
      have wi : IntKind.i64.wrap (((b * W : Nat) : Int) + a) = (i : Int) := by rw [hmi]; exact IntWalk.i64_in _ (by omega)
      rw [hm, hmi, Int.toNat_natCast] at HV
      rcases hB with hB | ⟨g, off, rfl, hg, hc⟩
      · rw [hB] at hlt; cases hlt
      · have hx : R[i]? = some (R.getD i false) := by rw [List.getD_eq_getElem?_getD, List.getElem?_eq_getElem hlt]; rfl
        have c0 : w.cell? ⟨g, off + i, none⟩ = some (.bool (R.getD i false)) := by
          have := hc i _ hx 0 _ rfl
          simpa using this
        have og := Old.mk hg
        generalize R.getD i false = v2 at *
        have hlt2 : (i : Int) < (R.length : Int) := by omega
        clear hW hH hl h1 h2 hc hx hle hi hmi
        generalize R.length = n at *
        generalize b * W = m at *
        go_enter Try.func13, Try.ntmps13
        go_wp2_with fail
        refine Calls.same (C1.out _) ?_
        go_wp2_with fail
        refine Calls.same (C2.out _) ?_
        go_wp2_with fail
        go_ret
        exact ⟨ret_of (by rw [HV.out]; simp), HE.out⟩
end Go.Proofs.Ytchplmenkdghcaa
