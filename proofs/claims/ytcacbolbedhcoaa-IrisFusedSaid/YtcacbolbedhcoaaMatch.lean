/- Distance and Match. -/
import Derived.Test.YtcacbolbedhcoaaDist
namespace Go.Proofs.Ytcacbolbedhcoaa
open Go.RowKit

def best7 (a b : Ir) (turns : Int) : Pt := bestP a b (ordL (turns.toNat + 1))
theorem dist_any (a b : Ir) (t : Int) (ht : 0 ≤ t ∧ t ≤ 7) (w : World) : Calls Try.prog 55 #[a.val, b.val, .int .i64 t] w fun e w' => e = .returned (best7 a b t).val ∧ Ext w w' := by
  obtain ⟨m, rfl⟩ := Int.eq_ofNat_of_zero_le ht.1
  exact distance_any a b m (by omega) w

def distV (a b : Ir) (t : Int) : Value :=
  if okI a && okI b then if inB t 0 7 then if (best7 a b t).den == 0 then .tuple #[.int .i64 0, .int .i64 0, .int .i64 0, .int .i64 6] else .tuple #[.int .i64 (best7 a b t).num, .int .i64 (best7 a b t).den, .int .i64 (best7 a b t).turn, .int .i64 0]
  else .tuple #[.int .i64 0, .int .i64 0, .int .i64 0, .int .i64 2] else .tuple #[.int .i64 0, .int .i64 0, .int .i64 0, .int .i64 30]
set_option maxRecDepth 100000 in
set_option maxHeartbeats 1000000 in
theorem Distance_any (a b : Ir) (t : Int) (w : World) : Calls Try.prog 29 #[a.val, b.val, .int .i64 t] w fun e w' => e = .returned (distV a b t) ∧ Ext w w' := by
  have C := Lib.hid (valid2 a b)
  cases ho : (okI a && okI b)
  · have Hv := Lib.hid (show distV a b t = .tuple #[.int .i64 0, .int .i64 0, .int .i64 0, .int .i64 30] by simp [distV, ho])
    rw [ho] at C
    clear ho
    go_enter Try.func29, Try.ntmps29
    go_wp2_with (go_at_call 47; refine Calls.ext (C.out _ 2 _ (by exact Irs.two (Blk.new' _ 27 _ _ (by simp)))) fun z => ?_)
    refine bodyPost_ret (v := .tuple #[.int .i64 0, .int .i64 0, .int .i64 0, .int .i64 30]) (by simp [results, Try.results29, go_sem]) rfl ⟨ret_of Hv.out.symm, ?_⟩
    repeat' (first | with_reducible exact Ext.refl _ | with_reducible refine Ext.alloc ?_ _ | with_reducible refine Ext.ext ?_ _ | with_reducible refine Ext.setCell ?_ (by simp) _)
  · rw [ho] at C
    cases hb : inB t 0 7
    · have Hv := Lib.hid (show distV a b t = .tuple #[.int .i64 0, .int .i64 0, .int .i64 0, .int .i64 2] by simp [distV, ho, hb])
      have C2 := Lib.hid (fun w => hb ▸ within_any t 0 7 w)
      clear hb ho
      go_enter Try.func29, Try.ntmps29
      go_wp2_with (first | (go_at_call 47; refine Calls.ext (C.out _ 2 _ (by exact Irs.two (Blk.new' _ 27 _ _ (by simp)))) fun z => ?_) | (go_at_call 45; refine Calls.same (C2.out _) ?_))
      refine bodyPost_ret (v := .tuple #[.int .i64 0, .int .i64 0, .int .i64 0, .int .i64 2]) (by simp [results, Try.results29, go_sem]) rfl ⟨ret_of Hv.out.symm, ?_⟩
      repeat' (first | with_reducible exact Ext.refl _ | with_reducible refine Ext.alloc ?_ _ | with_reducible refine Ext.ext ?_ _ | with_reducible refine Ext.setCell ?_ (by simp) _)
    · have C2 := Lib.hid (fun w => hb ▸ within_any t 0 7 w)
      have ht : 0 ≤ t ∧ t ≤ 7 := by simpa [inB] using hb
      have C3 := Lib.hid (dist_any a b t ht)
      have hv : distV a b t = if (best7 a b t).den == 0 then .tuple #[.int .i64 0, .int .i64 0, .int .i64 0, .int .i64 6] else .tuple #[.int .i64 (best7 a b t).num, .int .i64 (best7 a b t).den, .int .i64 (best7 a b t).turn, .int .i64 0] := by simp only [distV, ho, hb, if_true]
      clear hb ho ht
      generalize distV a b t = V at *
      generalize best7 a b t = p at *
      cases hd : (p.den == 0)
      · have Hv : Hid (V = .tuple #[.int .i64 p.num, .int .i64 p.den, .int .i64 p.turn, .int .i64 0]) := Lib.hid (by rw [hv, hd]; rfl)
        clear hv
        go_enter Try.func29, Try.ntmps29
        go_wp2_with (first | (go_at_call 47; refine Calls.ext (C.out _ 2 _ (by exact Irs.two (Blk.new' _ 27 _ _ (by simp)))) fun z => ?_) | (go_at_call 45; refine Calls.same (C2.out _) ?_) | (go_at_call 55; refine Calls.ext (C3.out _) fun z2 => ?_))
        refine wp_region_ext (by kernel_rfl) (by kernel_rfl) ?_
        repeat (go_big_quiet_step (fail))
        refine wpQuiet_nil ?_
        rintro _ ⟨z3, rfl⟩
        go_wp2_with fail
        refine bodyPost_ret (v := .tuple #[.int .i64 p.num, .int .i64 p.den, .int .i64 p.turn, .int .i64 0]) (by simp [results, Try.results29, go_sem]) rfl ⟨ret_of Hv.out.symm, ?_⟩
        repeat' (first | with_reducible exact Ext.refl _ | with_reducible refine Ext.alloc ?_ _ | with_reducible refine Ext.ext ?_ _ | with_reducible refine Ext.setCell ?_ (by simp) _)
      · have Hv : Hid (V = .tuple #[.int .i64 0, .int .i64 0, .int .i64 0, .int .i64 6]) := Lib.hid (by rw [hv, hd]; rfl)
        clear hv
        go_enter Try.func29, Try.ntmps29
        go_wp2_with (first | (go_at_call 47; refine Calls.ext (C.out _ 2 _ (by exact Irs.two (Blk.new' _ 27 _ _ (by simp)))) fun z => ?_) | (go_at_call 45; refine Calls.same (C2.out _) ?_) | (go_at_call 55; refine Calls.ext (C3.out _) fun z2 => ?_))
        refine bodyPost_ret (v := .tuple #[.int .i64 0, .int .i64 0, .int .i64 0, .int .i64 6]) (by simp [results, Try.results29, go_sem]) rfl ⟨ret_of Hv.out.symm, ?_⟩
        repeat' (first | with_reducible exact Ext.refl _ | with_reducible refine Ext.alloc ?_ _ | with_reducible refine Ext.ext ?_ _ | with_reducible refine Ext.setCell ?_ (by simp) _)

/-- whether codes match -/
def limB (n d : Int) : Bool := inB d 1 1000 && inB n 0 d
def matB (p : Pt) (n d : Int) : Bool := decide (0 < p.den) && decide (p.num * d ≤ n * p.den)
def matchV (a b : Ir) (t n d : Int) : Value :=
  if okI a && okI b then if inB t 0 7 && limB n d then .tuple #[.bool (matB (best7 a b t) n d), .int .i64 0]
  else .tuple #[.bool false, .int .i64 2] else .tuple #[.bool false, .int .i64 30]
set_option maxRecDepth 100000 in
set_option maxHeartbeats 1000000 in
theorem Match_any (a b : Ir) (t n d : Int) (w : World) : Calls Try.prog 31 #[a.val, b.val, .int .i64 t, .agg #[.int .i64 n, .int .i64 d]] w fun e w' => e = .returned (matchV a b t n d) ∧ Ext w w' := by
  have C := Lib.hid (valid2 a b)
  cases ho : (okI a && okI b)
  · have Hv := Lib.hid (show matchV a b t n d = .tuple #[.bool false, .int .i64 30] by simp [matchV, ho])
    rw [ho] at C
    clear ho
    go_enter Try.func31, Try.ntmps31
    go_wp2_with (go_at_call 47; refine Calls.ext (C.out _ 2 _ (by exact Irs.two (Blk.new' _ 27 _ _ (by simp)))) fun z => ?_)
    go_ret2
    refine ⟨ret_of Hv.out.symm, ?_⟩
    repeat' (first | with_reducible exact Ext.refl _ | with_reducible refine Ext.alloc ?_ _ | with_reducible refine Ext.ext ?_ _ | with_reducible refine Ext.setCell ?_ (by simp) _)
  · rw [ho] at C
    cases hb : inB t 0 7 && limB n d
    · have Hv := Lib.hid (show matchV a b t n d = .tuple #[.bool false, .int .i64 2] by simp [matchV, ho, hb])
      have hb' : inB t 0 7 = false ∨ inB t 0 7 = true ∧ inB d 1 1000 = false ∨ inB t 0 7 = true ∧ inB d 1 1000 = true ∧ inB n 0 d = false := by
        unfold limB at hb
        cases h1 : inB t 0 7 <;> cases h2 : inB d 1 1000 <;> cases h3 : inB n 0 d <;> simp_all
      clear hb ho
      rcases hb' with h1 | ⟨h1, h2⟩ | ⟨h1, h2, h3⟩
      all_goals
        go_enter Try.func31, Try.ntmps31
        go_wp2_with (first | (go_at_call 47; refine Calls.ext (C.out _ 2 _ (by exact Irs.two (Blk.new' _ 27 _ _ (by simp)))) fun z => ?_) | (go_at_call 45; refine Calls.same (within_any _ _ _ _) ?_))
        go_ret2
        refine ⟨ret_of Hv.out.symm, ?_⟩
        repeat' (first | with_reducible exact Ext.refl _ | with_reducible refine Ext.alloc ?_ _ | with_reducible refine Ext.ext ?_ _ | with_reducible refine Ext.setCell ?_ (by simp) _)
    · have hb' : inB t 0 7 = true ∧ inB d 1 1000 = true ∧ inB n 0 d = true := by
        unfold limB at hb
        cases h1 : inB t 0 7 <;> cases h2 : inB d 1 1000 <;> cases h3 : inB n 0 d <;> simp_all
      obtain ⟨h1, h2, h3⟩ := hb'
      have ht : 0 ≤ t ∧ t ≤ 7 := by simpa [inB] using h1
      have C3 := Lib.hid (dist_any a b t ht)
      have hv : matchV a b t n d = .tuple #[.bool (matB (best7 a b t) n d), .int .i64 0] := by simp only [matchV, ho, hb, if_true]
      have hf : (best7 a b t).fit := best_fit a b _
      clear hb ho ht
      generalize matchV a b t n d = V at *
      generalize best7 a b t = p at *
      have hn : 1 ≤ d ∧ d ≤ 1000 := by simpa [inB] using h2
      have hn2 : 0 ≤ n ∧ n ≤ d := by simpa [inB] using h3
      obtain ⟨f0, f1, f2, f3⟩ := hf
      have m1 := mul_le p.num d f0 f1 (by omega) hn.2
      have m2 := mul_le n p.den (by omega) (by omega) f2 f3
      cases hd : decide (0 < p.den)
      · have Hv : Hid (V = .tuple #[.bool false, .int .i64 0]) := Lib.hid (by rw [hv, matB, hd]; rfl)
        clear hv
        go_enter Try.func31, Try.ntmps31
        go_wp2_with (first | (go_at_call 47; refine Calls.ext (C.out _ 2 _ (by exact Irs.two (Blk.new' _ 27 _ _ (by simp)))) fun z => ?_) | (go_at_call 45; refine Calls.same (within_any _ _ _ _) ?_) | (go_at_call 55; refine Calls.ext (C3.out _) fun z2 => ?_))
        go_ret2
        refine ⟨ret_of Hv.out.symm, ?_⟩
        repeat' (first | with_reducible exact Ext.refl _ | with_reducible refine Ext.alloc ?_ _ | with_reducible refine Ext.ext ?_ _ | with_reducible refine Ext.setCell ?_ (by simp) _)
      · have Hv : Hid (V = .tuple #[.bool (decide (p.num * d ≤ n * p.den)), .int .i64 0]) := Lib.hid (by rw [hv, matB, hd]; rfl)
        clear hv
        go_enter Try.func31, Try.ntmps31
        go_wp2_with (first | (go_at_call 47; refine Calls.ext (C.out _ 2 _ (by exact Irs.two (Blk.new' _ 27 _ _ (by simp)))) fun z => ?_) | (go_at_call 45; refine Calls.same (within_any _ _ _ _) ?_) | (go_at_call 55; refine Calls.ext (C3.out _) fun z2 => ?_))
        go_ret2
        refine ⟨ret_of Hv.out.symm, ?_⟩
        repeat' (first | with_reducible exact Ext.refl _ | with_reducible refine Ext.alloc ?_ _ | with_reducible refine Ext.ext ?_ _ | with_reducible refine Ext.setCell ?_ (by simp) _)
end Go.Proofs.Ytcacbolbedhcoaa
