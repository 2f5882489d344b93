/- Proved: for all codes a, b, numbers of turns and limits, the call of whorllaw03.IrisLimits returns true and leaves its arguments as they were. No conditions. -/
import Derived.Test.YtcacbolbedhcoaaAlive
import Derived.Test.YtcacbolbedhcoaaVals
import Derived.Test.YtcacbolbedhcoaaArgs
namespace Go.Proofs.Ytcacbolbedhcoaa
open Go.Joins Go.ChangeShapes Go.WideShapes Go.RowKit Go.Deep Go.ChangeAt

theorem match_out {a b : Ir} {t n d : Int} (h : ¬ ((okI a && okI b) = true ∧ (0 ≤ t ∧ t ≤ 7) ∧ limB n d = true)) : ∃ e : Int, e ≠ 0 ∧ matchV a b t n d = .tuple #[.bool false, .int .i64 e] := by
  unfold matchV
  cases ho : (okI a && okI b)
  · exact ⟨30, by decide, by simp⟩
  · cases hi : inB t 0 7
    · exact ⟨2, by decide, by simp⟩
    · cases hl : limB n d
      · exact ⟨2, by decide, by simp⟩
      · exfalso; apply h; simp [inB] at hi; exact ⟨ho, by omega, hl⟩
theorem match_at {a b : Ir} {t n d : Int} {p : Pt} (h : (okI a && okI b) = true) (ht : 0 ≤ t ∧ t ≤ 7) (hp : best7 a b t = p) (hl : limB n d = true) {v : Bool} (hv : matB p n d = v) (w : World) : Calls Try.prog 31 #[a.val, b.val, .int .i64 t, .agg #[.int .i64 n, .int .i64 d]] w fun e w' => e = .returned (.tuple #[.bool v, .int .i64 0]) ∧ Ext w w' := by
  subst hp hv
  exact match_in h ht hl ▸ Match_any a b t n d w
theorem lim_in {n d : Int} (h : limB n d = true) : 1 ≤ d ∧ d ≤ 1000 ∧ 0 ≤ n ∧ n ≤ d := by
  simp [limB, inB] at h; omega
theorem mat_mono {p : Pt} {n1 d1 n2 d2 : Int} (h1 : 1 ≤ d1) (h : n1 * d2 ≤ n2 * d1) (hd2 : 1 ≤ d2) (hx : matB p n1 d1 = true) : matB p n2 d2 = true := by
  simp only [matB, Bool.and_eq_true, decide_eq_true_eq] at hx ⊢
  refine ⟨hx.1, ?_⟩
  have h2 := le_through (n := p.num) (d := p.den) (p := n1) (q := d1) (x := n2) (y := d2) (by omega) (by omega) hx.1 hx.2 h
  exact h2
def limQ (n1 d1 n2 d2 : Int) : Bool := decide (n1 * d2 ≤ n2 * d1)

set_option maxRecDepth 100000 in
set_option maxHeartbeats 4000000 in
theorem irisLimits_walk (a b : Ir) (t n1 d1 n2 d2 : Int) (w : World) : Calls Try.prog 16 #[a.val, b.val, .int .i64 t, .agg #[.int .i64 n1, .int .i64 d1], .agg #[.int .i64 n2, .int .i64 d2]] w fun e w' => e = .returned (.bool true) ∧ Ext w w' := by
  by_cases h : (okI a && okI b) = true ∧ (0 ≤ t ∧ t ≤ 7) ∧ limB n1 d1 = true
  rotate_left
  · obtain ⟨e, he, hv⟩ := match_out h
    have C1 := Lib.hid (fun w => hv ▸ Match_any a b t n1 d1 w)
    have hz : (e == 0) = false := by simpa using he
    clear hv h
    go_enter Try.func16, Try.ntmps16
    go_wp2_with (first | (go_at_call 38; refine Calls.ext (alive_any _) fun z => ?_) | (go_at_call 31; refine Calls.ext (C1.out _) fun z => ?_))
    go_ret
    refine ⟨rfl, ?_⟩
    repeat' (first | with_reducible exact Ext.refl _ | with_reducible refine Ext.alloc ?_ _ | with_reducible refine Ext.ext ?_ _)
  obtain ⟨hab, ht, hl⟩ := h
  obtain ⟨l1, l2, l3, l4⟩ := lim_in hl
  have C1 := Lib.hid (fun w => match_in hab ht hl ▸ Match_any a b t n1 d1 w)
  have C3 := Lib.hid (fun w => match_in hab ht (show limB 1 1 = true by decide) ▸ Match_any a b t 1 1 w)
  -- the other limit
  obtain ⟨y, e2, hy, ho⟩ : ∃ (y : Bool) (e2 : Int), matchV a b t n2 d2 = .tuple #[.bool y, .int .i64 e2] ∧ ((e2 == 0) = false ∨ e2 = 0 ∧ limB n2 d2 = true ∧ y = matB (best7 a b t) n2 d2) := by
    by_cases ho : limB n2 d2 = true
    · exact ⟨_, 0, match_in hab ht ho, .inr ⟨rfl, ho, rfl⟩⟩
    · obtain ⟨e, he, hv⟩ := match_out (a := a) (b := b) (t := t) (n := n2) (d := d2) (by intro h; exact ho h.2.2)
      exact ⟨_, e, hv, .inl (by simpa using he)⟩
  have C4 := Lib.hid (fun w => hy ▸ Match_any a b t n2 d2 w)
  clear hy
  by_cases hd : (best7 a b t).den = 0
  · have C2 := Lib.hid (fun w => dist_none hab ht rfl hd ▸ Distance_any a b t w)
    have hm : ∀ n d, matB (best7 a b t) n d = false := by intro n d; simp [matB, hd]
    rw [hm] at C1 C3
    rw [hm] at ho
    clear hm hd hl hab
    rcases ho with ho | ⟨rfl, ho, rfl⟩
    · go_enter Try.func16, Try.ntmps16
      go_wp2_with (go_at_call 38; refine Calls.ext (alive_any _) fun z => ?_)
      refine Calls.ext (C1.out _) fun z => ?_
      go_wp2_with (go_at_call 29; refine Calls.ext (C2.out _) fun z => ?_)
      refine Calls.ext (C3.out _) fun z => ?_
      go_wp2_with fail
      refine Calls.ext (C4.out _) fun z => ?_
      go_wp2_with fail
      go_ret
      refine ⟨rfl, ?_⟩
      repeat' (first | with_reducible exact Ext.refl _ | with_reducible refine Ext.alloc ?_ _ | with_reducible refine Ext.ext ?_ _)
    · obtain ⟨k1, k2, k3, k4⟩ := lim_in ho
      have p1 := mul_le n1 d2 (by omega) (by omega) (by omega) (by omega)
      have p2 := mul_le n2 d1 (by omega) (by omega) (by omega) (by omega)
      clear ho
      by_cases hq : n1 * d2 ≤ n2 * d1
      · go_enter Try.func16, Try.ntmps16
        go_wp2_with (go_at_call 38; refine Calls.ext (alive_any _) fun z => ?_)
        refine Calls.ext (C1.out _) fun z => ?_
        go_wp2_with (go_at_call 29; refine Calls.ext (C2.out _) fun z => ?_)
        refine Calls.ext (C3.out _) fun z => ?_
        go_wp2_with fail
        refine Calls.ext (C4.out _) fun z => ?_
        go_wp2_with fail
        go_ret
        refine ⟨rfl, ?_⟩
        repeat' (first | with_reducible exact Ext.refl _ | with_reducible refine Ext.alloc ?_ _ | with_reducible refine Ext.ext ?_ _)
      · have hq2 : n2 * d1 < n1 * d2 := by omega
        clear hq
        go_enter Try.func16, Try.ntmps16
        go_wp2_with (go_at_call 38; refine Calls.ext (alive_any _) fun z => ?_)
        refine Calls.ext (C1.out _) fun z => ?_
        go_wp2_with (go_at_call 29; refine Calls.ext (C2.out _) fun z => ?_)
        refine Calls.ext (C3.out _) fun z => ?_
        go_wp2_with fail
        refine Calls.ext (C4.out _) fun z => ?_
        go_wp2_with fail
        go_ret
        refine ⟨rfl, ?_⟩
        repeat' (first | with_reducible exact Ext.refl _ | with_reducible refine Ext.alloc ?_ _ | with_reducible refine Ext.ext ?_ _)
  · have hf := best_fit a b (ordL (t.toNat + 1))
    change (best7 a b t).fit at hf
    have hmono := fun h => mat_mono (p := best7 a b t) (n1 := n1) (d1 := d1) (n2 := n2) (d2 := d2) l1 h
    have hle : (best7 a b t).num ≤ (best7 a b t).den := by
      rcases best7_is a b t ht with ⟨h, _⟩ | ⟨i, _, h, _, _, _⟩
      · rw [h]; decide
      · rw [h]; exact (nmr_le a b i).2.1
    generalize hp : best7 a b t = p at *
    obtain ⟨f1, f2, f3, f4⟩ := hf
    have hd2 : 0 < p.den := by omega
    have C2 := Lib.hid (fun w => dist_ok hab ht hp hd2 ▸ Distance_any a b t w)
    have hw : matB p 1 1 = true := by simp [matB, hd2]; omega
    rw [hw] at C3
    have hj : matB p p.num p.den = true := by simp [matB, hd2]
    have C5 := Lib.hid (match_at hab ht hp (show limB p.num p.den = true by simp [limB, inB]; omega) hj)
    have C6 : p.num = 0 ∨ 0 < p.num ∧ Hid (∀ w, Calls Try.prog 31 #[a.val, b.val, .int .i64 t, .agg #[.int .i64 (p.num - 1), .int .i64 p.den]] w fun e w' => e = .returned (.tuple #[.bool false, .int .i64 0]) ∧ Ext w w') := by
      by_cases h0 : p.num = 0
      · exact .inl h0
      · have hb : matB p (p.num - 1) p.den = false := by
          simp only [matB, hd2, decide_true, Bool.true_and, decide_eq_false_iff_not, Int.sub_mul]
          omega
        exact .inr ⟨by omega, Lib.hid (match_at hab ht hp (show limB (p.num - 1) p.den = true by simp [limB, inB]; omega) hb)⟩
    obtain ⟨x, hx⟩ : ∃ x, matB p n1 d1 = x := ⟨_, rfl⟩
    rw [hx] at C1 hmono
    clear hw hj hd hp hx hl hab
    have hlow : -1000 ≤ p.num - 1 := by omega
    generalize p.num = num at *
    generalize p.den = den at *
    generalize p.turn = turn at *
    rcases ho with ho | ⟨rfl, ho, rfl⟩
    · clear hmono
      cases x
      all_goals
        rcases C6 with h0 | ⟨h0, C6⟩
        · subst h0
          go_enter Try.func16, Try.ntmps16
          go_wp2_with (go_at_call 38; refine Calls.ext (alive_any _) fun z => ?_)
          refine Calls.ext (C1.out _) fun z => ?_
          go_wp2_with (go_at_call 29; refine Calls.ext (C2.out _) fun z => ?_)
          refine Calls.ext (C3.out _) fun z => ?_
          go_wp2_with fail
          refine Calls.ext (C4.out _) fun z => ?_
          go_wp2_with fail
          refine Calls.ext (C5.out _) fun z => ?_
          go_wp2_with fail
          go_ret
          refine ⟨rfl, ?_⟩
          repeat' (first | with_reducible exact Ext.refl _ | with_reducible refine Ext.alloc ?_ _ | with_reducible refine Ext.ext ?_ _)
        · go_enter Try.func16, Try.ntmps16
          go_wp2_with (go_at_call 38; refine Calls.ext (alive_any _) fun z => ?_)
          refine Calls.ext (C1.out _) fun z => ?_
          go_wp2_with (go_at_call 29; refine Calls.ext (C2.out _) fun z => ?_)
          refine Calls.ext (C3.out _) fun z => ?_
          go_wp2_with fail
          refine Calls.ext (C4.out _) fun z => ?_
          go_wp2_with fail
          refine Calls.ext (C5.out _) fun z => ?_
          go_wp2_with fail
          refine Calls.ext (C6.out _) fun z => ?_
          go_wp2_with fail
          go_ret
          refine ⟨rfl, ?_⟩
          repeat' (first | with_reducible exact Ext.refl _ | with_reducible refine Ext.alloc ?_ _ | with_reducible refine Ext.ext ?_ _)
    · obtain ⟨k1, k2, k3, k4⟩ := lim_in ho
      have p1 := mul_le n1 d2 (by omega) (by omega) (by omega) (by omega)
      have p2 := mul_le n2 d1 (by omega) (by omega) (by omega) (by omega)
      clear ho
      have hm := fun h => hmono h k1
      clear hmono
      generalize matB p n2 d2 = y at *
      by_cases hq : n1 * d2 ≤ n2 * d1
      · cases x
        · clear hm
          rcases C6 with h0 | ⟨h0, C6⟩
          · subst h0
            go_enter Try.func16, Try.ntmps16
            go_wp2_with (go_at_call 38; refine Calls.ext (alive_any _) fun z => ?_)
            refine Calls.ext (C1.out _) fun z => ?_
            go_wp2_with (go_at_call 29; refine Calls.ext (C2.out _) fun z => ?_)
            refine Calls.ext (C3.out _) fun z => ?_
            go_wp2_with fail
            refine Calls.ext (C4.out _) fun z => ?_
            go_wp2_with fail
            refine Calls.ext (C5.out _) fun z => ?_
            go_wp2_with fail
            go_ret
            refine ⟨rfl, ?_⟩
            repeat' (first | with_reducible exact Ext.refl _ | with_reducible refine Ext.alloc ?_ _ | with_reducible refine Ext.ext ?_ _)
          · go_enter Try.func16, Try.ntmps16
            go_wp2_with (go_at_call 38; refine Calls.ext (alive_any _) fun z => ?_)
            refine Calls.ext (C1.out _) fun z => ?_
            go_wp2_with (go_at_call 29; refine Calls.ext (C2.out _) fun z => ?_)
            refine Calls.ext (C3.out _) fun z => ?_
            go_wp2_with fail
            refine Calls.ext (C4.out _) fun z => ?_
            go_wp2_with fail
            refine Calls.ext (C5.out _) fun z => ?_
            go_wp2_with fail
            refine Calls.ext (C6.out _) fun z => ?_
            go_wp2_with fail
            go_ret
            refine ⟨rfl, ?_⟩
            repeat' (first | with_reducible exact Ext.refl _ | with_reducible refine Ext.alloc ?_ _ | with_reducible refine Ext.ext ?_ _)
        · obtain rfl := hm hq rfl
          clear hm
          rcases C6 with h0 | ⟨h0, C6⟩
          · subst h0
            go_enter Try.func16, Try.ntmps16
            go_wp2_with (go_at_call 38; refine Calls.ext (alive_any _) fun z => ?_)
            refine Calls.ext (C1.out _) fun z => ?_
            go_wp2_with (go_at_call 29; refine Calls.ext (C2.out _) fun z => ?_)
            refine Calls.ext (C3.out _) fun z => ?_
            go_wp2_with fail
            refine Calls.ext (C4.out _) fun z => ?_
            go_wp2_with fail
            refine Calls.ext (C5.out _) fun z => ?_
            go_wp2_with fail
            go_ret
            refine ⟨rfl, ?_⟩
            repeat' (first | with_reducible exact Ext.refl _ | with_reducible refine Ext.alloc ?_ _ | with_reducible refine Ext.ext ?_ _)
          · go_enter Try.func16, Try.ntmps16
            go_wp2_with (go_at_call 38; refine Calls.ext (alive_any _) fun z => ?_)
            refine Calls.ext (C1.out _) fun z => ?_
            go_wp2_with (go_at_call 29; refine Calls.ext (C2.out _) fun z => ?_)
            refine Calls.ext (C3.out _) fun z => ?_
            go_wp2_with fail
            refine Calls.ext (C4.out _) fun z => ?_
            go_wp2_with fail
            refine Calls.ext (C5.out _) fun z => ?_
            go_wp2_with fail
            refine Calls.ext (C6.out _) fun z => ?_
            go_wp2_with fail
            go_ret
            refine ⟨rfl, ?_⟩
            repeat' (first | with_reducible exact Ext.refl _ | with_reducible refine Ext.alloc ?_ _ | with_reducible refine Ext.ext ?_ _)
      · have hq2 : n2 * d1 < n1 * d2 := by omega
        clear hq hm
        cases x
        all_goals
          rcases C6 with h0 | ⟨h0, C6⟩
          · subst h0
            go_enter Try.func16, Try.ntmps16
            go_wp2_with (go_at_call 38; refine Calls.ext (alive_any _) fun z => ?_)
            refine Calls.ext (C1.out _) fun z => ?_
            go_wp2_with (go_at_call 29; refine Calls.ext (C2.out _) fun z => ?_)
            refine Calls.ext (C3.out _) fun z => ?_
            go_wp2_with fail
            refine Calls.ext (C4.out _) fun z => ?_
            go_wp2_with fail
            refine Calls.ext (C5.out _) fun z => ?_
            go_wp2_with fail
            go_ret
            refine ⟨rfl, ?_⟩
            repeat' (first | with_reducible exact Ext.refl _ | with_reducible refine Ext.alloc ?_ _ | with_reducible refine Ext.ext ?_ _)
          · go_enter Try.func16, Try.ntmps16
            go_wp2_with (go_at_call 38; refine Calls.ext (alive_any _) fun z => ?_)
            refine Calls.ext (C1.out _) fun z => ?_
            go_wp2_with (go_at_call 29; refine Calls.ext (C2.out _) fun z => ?_)
            refine Calls.ext (C3.out _) fun z => ?_
            go_wp2_with fail
            refine Calls.ext (C4.out _) fun z => ?_
            go_wp2_with fail
            refine Calls.ext (C5.out _) fun z => ?_
            go_wp2_with fail
            refine Calls.ext (C6.out _) fun z => ?_
            go_wp2_with fail
            go_ret
            refine ⟨rfl, ?_⟩
            repeat' (first | with_reducible exact Ext.refl _ | with_reducible refine Ext.alloc ?_ _ | with_reducible refine Ext.ext ?_ _)
set_option maxRecDepth 100000 in
theorem irisLimits_lifted (os : Os) (started : os.Started) (H : Type) (enc : TypeId × Value → H) :
    ReturnsInHanded {} Try.checked os 16 .any (Rows.irisLimitsSpec.pre6 enc Try.prog Try.f16 Rows.irisLimitsRow.domain false) (Rows.irisLimitsSpec.post enc Try.prog Try.f16 false true false false) := by
  refine returnsInHanded_of_change (C := Try.checked) own started (by kernel_rfl) Try.func16
    (ChangeSpec.witness6 (enc := enc) (C := Try.checked) false ⟨#[], #[.agg #[.int .u64 0, .int .u64 0], .agg #[.int .u64 0, .int .u64 0], .int .i64 0, .agg #[.int .i64 0, .int .i64 0], .agg #[.int .i64 0, .int .i64 0]], []⟩ 8 (by kernel_rfl) (by kernel_rfl) (by kernel_rfl) (by kernel_rfl)) ?_
  intro W base args ds gs before hval0 hW hcnd _
  have hval : ∀ (j : Nat) t v, Try.f16.params[j]? = some t → args[j]? = some v → Value.okWide Try.prog W .any base t v := hval0
  have hW' := hW
  obtain ⟨p, q, hA0, hV, rfl, hfz, hnd⟩ := hW
  have hA : DataW.TrodAll enc Try.prog W 0 (fun _ => true) true Try.f16.params.toList args.toList ds p := hA0
  rw [Try.params16] at hA hval
  obtain ⟨v0, vs0, d0, ds0, p0, q0, hargs, rfl, rfl, h0, r0⟩ := trodAll_cons hA
  obtain ⟨v1, vs1, d1, ds1, p1, q1, rfl, rfl, rfl, h1, r1⟩ := trodAll_cons r0
  obtain ⟨v2, vs2, d2, ds2, p2, q2, rfl, rfl, rfl, h2, r2⟩ := trodAll_cons r1
  obtain ⟨v3, vs3, d3, ds3, p3, q3, rfl, rfl, rfl, h3, r3⟩ := trodAll_cons r2
  obtain ⟨v4, vs4, d4, ds4, p4, q4, rfl, rfl, rfl, h4, r4⟩ := trodAll_cons r3
  obtain ⟨rfl, rfl, rfl⟩ := trodAll_nil r4
  obtain rfl : args = #[v0, v1, v2, v3, v4] := by cases args; simp_all
  obtain ⟨rfl, rfl⟩ := trodVars_none hV
  have k0 := h0
  have lt0 : ∀ x ∈ p0, x.block < W.heap.size := by obtain ⟨m, hm⟩ := k0; exact DataW.trod_lt m _ _ _ hm
  obtain ⟨ns0, hl0, hv0, wf0⟩ := open_nums (ks := [.u64, .u64]) Try.underlying27 (by kernel_rfl) (by kernel_rfl) (kindsOf_of (by kernel_rfl)) (hval 0 27 v0 rfl rfl) h0
  have k1 := h1
  have lt1 : ∀ x ∈ p1, x.block < W.heap.size := by obtain ⟨m, hm⟩ := k1; exact DataW.trod_lt m _ _ _ hm
  obtain ⟨ns1, hl1, hv1, wf1⟩ := open_nums (ks := [.u64, .u64]) Try.underlying27 (by kernel_rfl) (by kernel_rfl) (kindsOf_of (by kernel_rfl)) (hval 1 27 v1 rfl rfl) h1
  have k2 := h2
  have lt2 : ∀ x ∈ p2, x.block < W.heap.size := by obtain ⟨m, hm⟩ := k2; exact DataW.trod_lt m _ _ _ hm
  obtain ⟨a2, rfl, _, _, w2⟩ := open_int Try.underlying3 (hval 2 3 v2 rfl rfl) h2
  have k3 := h3
  have lt3 : ∀ x ∈ p3, x.block < W.heap.size := by obtain ⟨m, hm⟩ := k3; exact DataW.trod_lt m _ _ _ hm
  obtain ⟨ns3, hl3, hv3, wf3⟩ := open_nums (ks := [.i64, .i64]) Try.underlying44 (by kernel_rfl) (by kernel_rfl) (kindsOf_of (by kernel_rfl)) (hval 3 44 v3 rfl rfl) h3
  have k4 := h4
  have lt4 : ∀ x ∈ p4, x.block < W.heap.size := by obtain ⟨m, hm⟩ := k4; exact DataW.trod_lt m _ _ _ hm
  obtain ⟨ns4, hl4, hv4, wf4⟩ := open_nums (ks := [.i64, .i64]) Try.underlying44 (by kernel_rfl) (by kernel_rfl) (kindsOf_of (by kernel_rfl)) (hval 4 44 v4 rfl rfl) h4
  clear hA0 hval0
  rw [ir_of hl0 wf0] at hv0
  subst hv0
  rw [ir_of hl1 wf1] at hv1
  subst hv1
  obtain ⟨l3a, l3b, rfl⟩ := two_of hl3
  subst hv3
  obtain ⟨l4a, l4b, rfl⟩ := two_of hl4
  subst hv4
  refine (irisLimits_walk (toIr ns0) (toIr ns1) a2 l3a l3b l4a l4b W).mono fun e W' ⟨he, bel⟩ => ?_
  subst he
  exact ⟨_, rfl, _, _, _, [], _, [], hW', trodAll_mk1 (shut_bool Try.underlying4 _), (trodAll_cons_mk (Below.trod laidOut (by kernel_rfl) (of_decide_eq_true (by kernel_rfl)) k0 bel lt0) (trodAll_cons_mk (Below.trod laidOut (by kernel_rfl) (of_decide_eq_true (by kernel_rfl)) k1 bel lt1) (trodAll_cons_mk (Below.trod laidOut (by kernel_rfl) (of_decide_eq_true (by kernel_rfl)) k2 bel lt2) (trodAll_cons_mk (Below.trod laidOut (by kernel_rfl) (of_decide_eq_true (by kernel_rfl)) k3 bel lt3) (trodAll_cons_mk (Below.trod laidOut (by kernel_rfl) (of_decide_eq_true (by kernel_rfl)) k4 bel lt4) trodAll_mk0))))), rfl, Below.frame bel _, fun h => by cases h⟩

theorem irisLimits_holds : Rows.IrisLimitsSaid :=
  OpenClaim.holds_of_wide 16 Try.f16 rfl rfl rfl rfl rfl rfl rfl ⟨rfl, rfl, rfl, rfl, rfl⟩ rfl rfl rfl rfl rfl (by kernel_rfl) Try.func16 (by kernel_rfl)
    (of_decide_eq_true (by kernel_rfl)) (by unfold Func.isWrapper; first | (rw [if_pos (by decide +kernel)]; kernel_rfl) | (rw [if_neg (by decide +kernel)]; exact ⟨rfl, rfl⟩))
    (fun os started H enc _ => irisLimits_lifted os started H enc)
end Go.Proofs.Ytcacbolbedhcoaa
