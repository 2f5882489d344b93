/- The reference: Compare, Distance, Match. -/
import Derived.Test.YtcacbolbedhcoaaRefDist
namespace Go.Proofs.Ytcacbolbedhcoaa
open Go.RowKit

theorem FarI_any (a b : Ir) (t : Int) (ht : 0 ≤ t ∧ t ≤ 7) (w : World) : Calls Try.prog 56 #[a.val, b.val, .int .i64 t] w fun e w' => e = .returned (farV (best7 a b t)) ∧ Ext w w' := by
  obtain ⟨m, rfl⟩ := Int.eq_ofNat_of_zero_le ht.1
  exact Far_any a b m (by omega) w
theorem and_cases (x y : Bool) (h : (x && y) = false) : x = false ∨ x = true ∧ y = false := by cases x <;> cases y <;> simp_all
theorem bad2 (a b : Ir) : (okI a && okI b) = false → okI a = false ∨ okI a = true ∧ okI b = false := and_cases _ _

set_option maxRecDepth 100000 in
set_option maxHeartbeats 1000000 in
theorem refCompare_any (a b : Ir) (t : Int) (w : World) : Calls Try.prog 28 #[a.val, b.val, .int .i64 t] w fun e w' => e = .returned (cmpV a b t) ∧ Ext w w' := by
  cases ho : (okI a && okI b)
  · have Hv := Lib.hid (show cmpV a b t = .tuple #[.int .i64 0, .int .i64 0, .int .i64 30] by simp [cmpV, ho])
    rcases bad2 a b ho with o1 | ⟨o1, o2⟩
    all_goals
      clear ho
      go_enter Try.func28, Try.ntmps28
      go_wp2_with (go_at_call 39; first | (with_reducible refine Calls.ext (refValid_any a _) fun z => ?_) | (with_reducible refine Calls.ext (refValid_any b _) fun z => ?_))
      go_ret3
      refine ⟨ret_of Hv.out.symm, ?_⟩
      repeat' (first | with_reducible exact Ext.refl _ | with_reducible refine Ext.drew ?_ | with_reducible refine Ext.alloc ?_ _ | with_reducible refine Ext.ext ?_ _ | with_reducible refine Ext.setCell ?_ (by simp) _)
  · have ho' := ho
    rw [Bool.and_eq_true] at ho'
    obtain ⟨o1, o2⟩ := ho'

    cases hb : inB t (-7) 7
    · have Hv := Lib.hid (show cmpV a b t = .tuple #[.int .i64 0, .int .i64 0, .int .i64 2] by simp [cmpV, ho, hb])
      clear ho
      go_enter Try.func28, Try.ntmps28
      go_wp2_with (first | (go_at_call 39; first | (with_reducible refine Calls.ext (refValid_any a _) fun z => ?_) | (with_reducible refine Calls.ext (refValid_any b _) fun z => ?_)) | (go_at_call 46; refine Calls.same (refWithin_any _ _ _ _) ?_))
      go_ret3
      refine ⟨ret_of Hv.out.symm, ?_⟩
      repeat' (first | with_reducible exact Ext.refl _ | with_reducible refine Ext.drew ?_ | with_reducible refine Ext.alloc ?_ _ | with_reducible refine Ext.ext ?_ _ | with_reducible refine Ext.setCell ?_ (by simp) _)
    · have Hv := Lib.hid (show cmpV a b t = .tuple #[.int .i64 (ctr (turnI' a t) b), .int .i64 (cdn (turnI' a t) b), .int .i64 0] by simp [cmpV, ho, hb])
      have ht : -7 ≤ t ∧ t ≤ 7 := by simpa [inB] using hb
      clear ho
      go_enter Try.func28, Try.ntmps28
      go_wp2_with (first | (go_at_call 39; first | (with_reducible refine Calls.ext (refValid_any a _) fun z => ?_) | (with_reducible refine Calls.ext (refValid_any b _) fun z => ?_)) | (go_at_call 46; refine Calls.same (refWithin_any _ _ _ _) ?_) | (go_at_call 54; refine Calls.ext (Compared_any a b t _ ht) fun z => ?_))
      go_ret3
      refine ⟨ret_of Hv.out.symm, ?_⟩
      repeat' (first | with_reducible exact Ext.refl _ | with_reducible refine Ext.drew ?_ | with_reducible refine Ext.alloc ?_ _ | with_reducible refine Ext.ext ?_ _ | with_reducible refine Ext.setCell ?_ (by simp) _)

set_option maxRecDepth 100000 in
set_option maxHeartbeats 1000000 in
theorem refDistance_any (a b : Ir) (t : Int) (w : World) : Calls Try.prog 30 #[a.val, b.val, .int .i64 t] w fun e w' => e = .returned (distV a b t) ∧ Ext w w' := by
  cases ho : (okI a && okI b)
  · have Hv := Lib.hid (show distV a b t = .tuple #[.int .i64 0, .int .i64 0, .int .i64 0, .int .i64 30] by simp [distV, ho])
    rcases bad2 a b ho with o1 | ⟨o1, o2⟩
    all_goals
      clear ho
      go_enter Try.func30, Try.ntmps30
      go_wp2_with (go_at_call 39; first | (with_reducible refine Calls.ext (refValid_any a _) fun z => ?_) | (with_reducible refine Calls.ext (refValid_any b _) fun z => ?_))
      refine bodyPost_ret (v := .tuple #[.int .i64 0, .int .i64 0, .int .i64 0, .int .i64 30]) (by simp [results, Try.results30, go_sem]) rfl ⟨ret_of Hv.out.symm, ?_⟩
      repeat' (first | with_reducible exact Ext.refl _ | with_reducible refine Ext.drew ?_ | with_reducible refine Ext.alloc ?_ _ | with_reducible refine Ext.ext ?_ _ | with_reducible refine Ext.setCell ?_ (by simp) _)
  · have ho' := ho
    rw [Bool.and_eq_true] at ho'
    obtain ⟨o1, o2⟩ := ho'

    cases hb : inB t 0 7
    · have Hv := Lib.hid (show distV a b t = .tuple #[.int .i64 0, .int .i64 0, .int .i64 0, .int .i64 2] by simp [distV, ho, hb])
      clear ho
      go_enter Try.func30, Try.ntmps30
      go_wp2_with (first | (go_at_call 39; first | (with_reducible refine Calls.ext (refValid_any a _) fun z => ?_) | (with_reducible refine Calls.ext (refValid_any b _) fun z => ?_)) | (go_at_call 46; refine Calls.same (refWithin_any _ _ _ _) ?_))
      refine bodyPost_ret (v := .tuple #[.int .i64 0, .int .i64 0, .int .i64 0, .int .i64 2]) (by simp [results, Try.results30, go_sem]) rfl ⟨ret_of Hv.out.symm, ?_⟩
      repeat' (first | with_reducible exact Ext.refl _ | with_reducible refine Ext.drew ?_ | with_reducible refine Ext.alloc ?_ _ | with_reducible refine Ext.ext ?_ _ | with_reducible refine Ext.setCell ?_ (by simp) _)
    · have ht : 0 ≤ t ∧ t ≤ 7 := by simpa [inB] using hb
      have C3 := Lib.hid (FarI_any a b t ht)
      have hv : distV a b t = if (best7 a b t).den == 0 then .tuple #[.int .i64 0, .int .i64 0, .int .i64 0, .int .i64 6] else .tuple #[.int .i64 (best7 a b t).num, .int .i64 (best7 a b t).den, .int .i64 (best7 a b t).turn, .int .i64 0] := by simp only [distV, ho, hb, if_true]
      clear ho ht
      obtain ⟨V, hV⟩ : ∃ V, distV a b t = V := ⟨_, rfl⟩
      have HV := Lib.hid hV
      rw [hV] at hv
      clear hV
      generalize best7 a b t = p at *
      cases hd : (p.den == 0)
      · have Hv : Hid (V = .tuple #[.int .i64 p.num, .int .i64 p.den, .int .i64 p.turn, .int .i64 0]) := Lib.hid (by rw [hv, hd]; rfl)
        clear hv
        have hf : farV p = .tuple #[.int .i64 p.num, .int .i64 p.den, .int .i64 p.turn, .bool true] := by simp [farV, fNum, fDen, fAt, fIs, hd]
        rw [hf] at C3
        clear hf
        go_enter Try.func30, Try.ntmps30
        go_wp2_with (first | (go_at_call 39; first | (with_reducible refine Calls.ext (refValid_any a _) fun z => ?_) | (with_reducible refine Calls.ext (refValid_any b _) fun z => ?_)) | (go_at_call 46; refine Calls.same (refWithin_any _ _ _ _) ?_) | (go_at_call 56; refine Calls.ext (C3.out _) fun z2 => ?_))
        refine bodyPost_ret (v := .tuple #[.int .i64 p.num, .int .i64 p.den, .int .i64 p.turn, .int .i64 0]) (by simp [results, Try.results30, go_sem]) rfl ⟨ret_of (by rw [HV.out, Hv.out]), ?_⟩
        repeat' (first | with_reducible exact Ext.refl _ | with_reducible refine Ext.drew ?_ | with_reducible refine Ext.alloc ?_ _ | with_reducible refine Ext.ext ?_ _ | with_reducible refine Ext.setCell ?_ (by simp) _)
      · have Hv : Hid (V = .tuple #[.int .i64 0, .int .i64 0, .int .i64 0, .int .i64 6]) := Lib.hid (by rw [hv, hd]; rfl)
        clear hv
        have hf : farV p = .tuple #[.int .i64 0, .int .i64 1, .int .i64 0, .bool false] := by simp [farV, fNum, fDen, fAt, fIs, hd]
        rw [hf] at C3
        clear hf
        go_enter Try.func30, Try.ntmps30
        go_wp2_with (first | (go_at_call 39; first | (with_reducible refine Calls.ext (refValid_any a _) fun z => ?_) | (with_reducible refine Calls.ext (refValid_any b _) fun z => ?_)) | (go_at_call 46; refine Calls.same (refWithin_any _ _ _ _) ?_) | (go_at_call 56; refine Calls.ext (C3.out _) fun z2 => ?_))
        refine bodyPost_ret (v := .tuple #[.int .i64 0, .int .i64 0, .int .i64 0, .int .i64 6]) (by simp [results, Try.results30, go_sem]) rfl ⟨ret_of (by rw [HV.out, Hv.out]), ?_⟩
        repeat' (first | with_reducible exact Ext.refl _ | with_reducible refine Ext.drew ?_ | with_reducible refine Ext.alloc ?_ _ | with_reducible refine Ext.ext ?_ _ | with_reducible refine Ext.setCell ?_ (by simp) _)

theorem refLimit_any (n d : Int) (w : World) : Calls Try.prog 57 #[.agg #[.int .i64 n, .int .i64 d]] w fun e w' => e = .returned (.bool (limB n d)) ∧ Ext w w' := by
  go_enter Try.func57, Try.ntmps57
  go_wp2_with (go_at_call 46; refine Calls.same (refWithin_any _ _ _ _) ?_)
  all_goals (go_ret; refine ⟨ret_of ?_, (Ext.refl w).alloc _⟩; simp_all [limB, inB])
  all_goals omega
set_option maxRecDepth 100000 in
set_option maxHeartbeats 1000000 in
theorem refMatched_any (a b : Ir) (t n d : Int) (w : World) (ht : 0 ≤ t ∧ t ≤ 7) (hn : 1 ≤ d ∧ d ≤ 1000) (hn2 : 0 ≤ n ∧ n ≤ d) : Calls Try.prog 58 #[a.val, b.val, .int .i64 t, .agg #[.int .i64 n, .int .i64 d]] w fun e w' => e = .returned (.bool (matB (best7 a b t) n d)) ∧ Ext w w' := by
  have C3 := Lib.hid (FarI_any a b t ht)
  have hf : (best7 a b t).fit := best_fit a b _
  obtain ⟨V, hV⟩ : ∃ V, matB (best7 a b t) n d = V := ⟨_, rfl⟩
  have HV := Lib.hid hV
  clear ht
  generalize best7 a b t = p at *
  obtain ⟨f0, f1, f2, f3⟩ := hf
  have m1 := mul_le p.num d f0 f1 (by omega) hn.2
  have m2 := mul_le n p.den (by omega) (by omega) f2 f3
  cases hd : (p.den == 0)
  · have hd0 : decide (0 < p.den) = true := by simp at hd ⊢; omega
    have hf : farV p = .tuple #[.int .i64 p.num, .int .i64 p.den, .int .i64 p.turn, .bool true] := by simp [farV, fNum, fDen, fAt, fIs, hd]
    rw [hf] at C3
    have Hv : Hid (V = decide (p.num * d ≤ n * p.den)) := Lib.hid (by rw [← hV, matB, hd0]; rfl)
    clear hf hV hd hd0
    go_enter Try.func58, Try.ntmps58
    go_wp2_with (go_at_call 56; refine Calls.ext (C3.out _) fun z2 => ?_)
    go_ret
    refine ⟨ret_of (by rw [HV.out, Hv.out]; rfl), ?_⟩
    repeat' (first | with_reducible exact Ext.refl _ | with_reducible refine Ext.drew ?_ | with_reducible refine Ext.alloc ?_ _ | with_reducible refine Ext.ext ?_ _ | with_reducible refine Ext.setCell ?_ (by simp) _)
  · have hd0 : decide (0 < p.den) = false := by simp at hd ⊢; omega
    have hf : farV p = .tuple #[.int .i64 0, .int .i64 1, .int .i64 0, .bool false] := by simp [farV, fNum, fDen, fAt, fIs, hd]
    rw [hf] at C3
    have Hv : Hid (V = false) := Lib.hid (by rw [← hV, matB, hd0]; rfl)
    clear hf hV hd hd0
    go_enter Try.func58, Try.ntmps58
    go_wp2_with (go_at_call 56; refine Calls.ext (C3.out _) fun z2 => ?_)
    go_ret
    refine ⟨ret_of (by rw [HV.out, Hv.out]; rfl), ?_⟩
    repeat' (first | with_reducible exact Ext.refl _ | with_reducible refine Ext.drew ?_ | with_reducible refine Ext.alloc ?_ _ | with_reducible refine Ext.ext ?_ _ | with_reducible refine Ext.setCell ?_ (by simp) _)

set_option maxRecDepth 100000 in
set_option maxHeartbeats 1000000 in
theorem refMatch_any (a b : Ir) (t n d : Int) (w : World) : Calls Try.prog 32 #[a.val, b.val, .int .i64 t, .agg #[.int .i64 n, .int .i64 d]] w fun e w' => e = .returned (matchV a b t n d) ∧ Ext w w' := by
  cases ho : (okI a && okI b)
  · have Hv := Lib.hid (show matchV a b t n d = .tuple #[.bool false, .int .i64 30] by simp [matchV, ho])
    rcases bad2 a b ho with o1 | ⟨o1, o2⟩
    all_goals
      clear ho
      go_enter Try.func32, Try.ntmps32
      go_wp2_with (go_at_call 39; first | (with_reducible refine Calls.ext (refValid_any a _) fun z => ?_) | (with_reducible refine Calls.ext (refValid_any b _) fun z => ?_))
      go_ret2
      refine ⟨ret_of Hv.out.symm, ?_⟩
      repeat' (first | with_reducible exact Ext.refl _ | with_reducible refine Ext.drew ?_ | with_reducible refine Ext.alloc ?_ _ | with_reducible refine Ext.ext ?_ _ | with_reducible refine Ext.setCell ?_ (by simp) _)
  · have ho' := ho
    rw [Bool.and_eq_true] at ho'
    obtain ⟨o1, o2⟩ := ho'

    cases hb : inB t 0 7 && limB n d
    · have Hv := Lib.hid (show matchV a b t n d = .tuple #[.bool false, .int .i64 2] by simp [matchV, ho, hb])
      clear ho
      rcases and_cases _ _ hb with h1 | ⟨h1, h2⟩
      all_goals
        clear hb
        go_enter Try.func32, Try.ntmps32
        go_wp2_with (first | (go_at_call 39; first | (with_reducible refine Calls.ext (refValid_any a _) fun z => ?_) | (with_reducible refine Calls.ext (refValid_any b _) fun z => ?_)) | (go_at_call 46; refine Calls.same (refWithin_any _ _ _ _) ?_) | (go_at_call 57; refine Calls.ext (refLimit_any _ _ _) fun z => ?_))
        go_ret2
        refine ⟨ret_of Hv.out.symm, ?_⟩
        repeat' (first | with_reducible exact Ext.refl _ | with_reducible refine Ext.drew ?_ | with_reducible refine Ext.alloc ?_ _ | with_reducible refine Ext.ext ?_ _ | with_reducible refine Ext.setCell ?_ (by simp) _)
    · have Hv := Lib.hid (show matchV a b t n d = .tuple #[.bool (matB (best7 a b t) n d), .int .i64 0] by simp only [matchV, ho, hb, if_true])
      rw [Bool.and_eq_true] at hb
      obtain ⟨h1, h2⟩ := hb
      have ht : 0 ≤ t ∧ t ≤ 7 := by simpa [inB] using h1
      have hl : (1 ≤ d ∧ d ≤ 1000) ∧ 0 ≤ n ∧ n ≤ d := by simpa [limB, inB] using h2
      clear ho
      go_enter Try.func32, Try.ntmps32
      go_wp2_with (first | (go_at_call 39; first | (with_reducible refine Calls.ext (refValid_any a _) fun z => ?_) | (with_reducible refine Calls.ext (refValid_any b _) fun z => ?_)) | (go_at_call 46; refine Calls.same (refWithin_any _ _ _ _) ?_) | (go_at_call 57; refine Calls.ext (refLimit_any _ _ _) fun z => ?_) | (go_at_call 58; refine Calls.ext (refMatched_any a b t n d _ ht hl.1 hl.2) fun z => ?_))
      go_ret2
      refine ⟨ret_of Hv.out.symm, ?_⟩
      repeat' (first | with_reducible exact Ext.refl _ | with_reducible refine Ext.drew ?_ | with_reducible refine Ext.alloc ?_ _ | with_reducible refine Ext.ext ?_ _ | with_reducible refine Ext.setCell ?_ (by simp) _)

end Go.Proofs.Ytcacbolbedhcoaa
