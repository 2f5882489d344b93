/- Proved: for all prints, class and shift, the call of whorllaw02.AlignBack returns true and leaves its arguments as they were. No conditions. -/
import Derived.Test.YthejomcibobieaaOuts
namespace Go.Proofs.Ythejomcibobieaa
open Go.Joins Go.ChangeShapes Go.WideShapes Go.RowKit Go.Deep Go.ChangeAt

theorem turn0X (m : Mi) : turnX m 0 = m.x := by
  unfold turnX cosI sinI
  simp only [if_true]
  omega
theorem turn0Y (m : Mi) : turnY m 0 = m.y := by
  unfold turnY cosI sinI
  simp only [if_true]
  omega
theorem turn0D {m : Mi} (h : m.ok) : turnD m 0 = 2 * m.dir := by
  have := h.dir
  unfold turnD
  omega
theorem alike_back {c : Cl} {m o : Mi} (hm : m.ok) (ho : o.ok) (dx dy : Int) : alikeB c m o ⟨0, dx, dy⟩ (fun _ => 0) = alikeB c o m ⟨0, -dx, -dy⟩ (fun _ => 0) := by
  unfold alikeB turnO placeX placeY absD
  dsimp only
  rw [turn0X, turn0X, turn0Y, turn0Y, turn0D hm, turn0D ho, Bool.eq_iff_iff]
  simp only [Bool.and_eq_true, decide_eq_true_eq]
  constructor
  · rintro ⟨⟨⟨h1, h2⟩, h3⟩, h4⟩
    exact ⟨⟨⟨h1.symm, by omega⟩, by omega⟩, by omega⟩
  · rintro ⟨⟨⟨h1, h2⟩, h3⟩, h4⟩
    exact ⟨⟨⟨h1.symm, by omega⟩, by omega⟩, by omega⟩
theorem scr_back {c : Cl} {lp lq : List Mi} (hp : ∀ m ∈ lp, m.ok) (hq : ∀ m ∈ lq, m.ok) (dx dy : Int) : scrK c lp lq ⟨0, dx, dy⟩ (fun _ => 0) = scrK c lq lp ⟨0, -dx, -dy⟩ (fun _ => 0) := by
  unfold scrK
  refine congrArg Nat.cast (isMax_swap (n := lq.length) (mmk_max _ _) (mmk_max _ _) (fun i j hi hj => ?_) (fun i j hi hj => ?_))
  · obtain ⟨h1, h2⟩ := mem_nbF.1 hj
    refine ⟨h1, mem_nbF.2 ⟨hi, ?_⟩⟩
    unfold mayL at h2 ⊢
    rw [List.getElem?_eq_getElem hi, List.getElem?_eq_getElem h1] at h2 ⊢
    dsimp only at h2 ⊢
    rw [← alike_back (hp _ (List.getElem_mem hi)) (hq _ (List.getElem_mem h1))]
    exact h2
  · obtain ⟨h1, h2⟩ := mem_nbF.1 hj
    refine ⟨h1, mem_nbF.2 ⟨hi, ?_⟩⟩
    unfold mayL at h2 ⊢
    rw [List.getElem?_eq_getElem hi, List.getElem?_eq_getElem h1] at h2 ⊢
    dsimp only at h2 ⊢
    rw [alike_back (hp _ (List.getElem_mem h1)) (hq _ (List.getElem_mem hi))]
    exact h2
theorem ask_comm (c : Cl) (lp lq : List Mi) : askE c lp lq = askE c lq lp := by
  unfold askE
  rw [Bool.and_comm]
theorem wrap_neg {n : Int} (h : (Lit.int .i64 n).wf = true) (S : Int) (hS : 0 ≤ S ∧ S ≤ 4) : (-S ≤ wrap64 (-n) ∧ wrap64 (-n) ≤ S ↔ -S ≤ n ∧ n ≤ S) ∧ (-S ≤ n ∧ n ≤ S → wrap64 (-n) = -n) := by
  have hb : -9223372036854775808 ≤ n ∧ n ≤ 9223372036854775807 := by simpa [Lit.wf, IntKind.min, IntKind.max, IntKind.signed, IntKind.bits] using h
  unfold wrap64
  omega
theorem back_law (c : Cl) (lp lq : List Mi) (hp : ∀ m ∈ lp, 0 ≤ m.dir) (hq : ∀ m ∈ lq, 0 ≤ m.dir) {dx dy : Int} (hx : (Lit.int .i64 dx).wf = true) (hy : (Lit.int .i64 dy).wf = true) :
    scoreT c lq lp ⟨0, wrap64 (-dx), wrap64 (-dy)⟩ (fun _ => 0) = scoreT c lp lq ⟨0, dx, dy⟩ (fun _ => 0) := by
  unfold scoreT
  rw [ask_comm c lq lp]
  by_cases h0 : askE c lp lq = 0
  · rw [if_pos h0, if_pos h0]
    obtain ⟨a1, a2, hc⟩ := askE_ok h0
    obtain ⟨hpo, -⟩ := okP_ok a1 hp
    obtain ⟨hqo, -⟩ := okP_ok a2 hq
    obtain ⟨x1, x2⟩ := wrap_neg hx c.shift hc.shift
    obtain ⟨y1, y2⟩ := wrap_neg hy c.shift hc.shift
    have e : isMove c ⟨0, wrap64 (-dx), wrap64 (-dy)⟩ = isMove c ⟨0, dx, dy⟩ := by
      rw [Bool.eq_iff_iff, isMove_iff, isMove_iff]
      dsimp only
      rw [x1, y1]
    rw [e]
    cases hm : isMove c ⟨0, dx, dy⟩
    · rfl
    · obtain ⟨-, m2, m3⟩ := isMove_iff.1 hm
      rw [x2 m2, y2 m3, scr_back hpo hqo]
  · rw [if_neg h0, if_neg h0]
set_option maxRecDepth 100000 in
set_option maxHeartbeats 4000000 in
theorem alignBack_walk (Ap Aq : Option Addr) (cp cq : Nat) (lp lq : List Mi) (c : Cl) (dx dy : Int) (w : World) (hP : Pts w Ap lp) (hQ : Pts w Aq lq) (hp : ∀ m ∈ lp, 0 ≤ m.dir) (hq : ∀ m ∈ lq, 0 ≤ m.dir) (hx : (Lit.int .i64 dx).wf = true) (hy : (Lit.int .i64 dy).wf = true) :
    Calls Try.prog 15 #[.slice Ap lp.length cp, .slice Aq lq.length cq, c.val, .int .i64 dx, .int .i64 dy] w fun e w' => e = .returned (.bool true) ∧ Ext w w' := by
  have HP := Lib.hid hP
  have HQ := Lib.hid hQ
  have CA := Lib.hid (fun w => alive_any w)
  clear hP hQ
  by_cases hn : lp.length ≤ 100 ∧ lq.length ≤ 100
  · obtain ⟨hnp, hnq⟩ := hn
    obtain ⟨s, x, hs⟩ := scoreT_two c lp lq ⟨0, dx, dy⟩ (fun _ => 0)
    have C1 := Lib.hid (fun A A' n n' w h1 h2 => hs ▸ Score_any c lp lq ⟨0, dx, dy⟩ (fun _ => 0) hp hq hnp hnq A A' n n' w h1 h2)
    have C2 := Lib.hid (fun A A' n n' w h1 h2 => (back_law c lp lq hp hq hx hy).trans hs ▸ Score_any c lq lp ⟨0, wrap64 (-dx), wrap64 (-dy)⟩ (fun _ => 0) hq hp hnq hnp A A' n n' w h1 h2)
    have b1 : (x == x) = true := by simp
    have b2 : (s == s) = true := by simp
    have hnp' : ((lp.length : Nat) : Int) ≤ 100 := by omega
    have hnq' : ((lq.length : Nat) : Int) ≤ 100 := by omega
    clear hs hp hq hx hy
    go_enter Try.func15, Try.ntmps15
    go_wp2_with fail
    refine Calls.ext (CA.out _) fun z1 => ?_
    go_wp2_with fail
    have hE1 := ((Ext.refl w).alloc (.cells #[.int .i64 c.turns, .int .i64 c.shift, .int .i64 c.elastic, .int .i64 c.reach, .int .i64 c.spread] 38)).ext z1
    refine Calls.ext (C1.out _ _ _ _ _ (HP.out.grow hE1) (HQ.out.grow hE1)) fun z2 => ?_
    go_wp2_with fail
    have hE2 := hE1.ext z2
    refine Calls.ext (C2.out _ _ _ _ _ (HQ.out.grow hE2) (HP.out.grow hE2)) fun z3 => ?_
    go_wp2_with fail
    go_ret
    exact ⟨rfl, hE2.ext z3⟩
  · have hE1 := ((Ext.refl w).alloc (.cells #[.int .i64 c.turns, .int .i64 c.shift, .int .i64 c.elastic, .int .i64 c.reach, .int .i64 c.spread] 38))
    by_cases hnp : lp.length ≤ 100
    · have hnp' : ((lp.length : Nat) : Int) ≤ 100 := by omega
      have hnq' : (100 : Int) < ((lq.length : Nat) : Int) := by omega
      clear hn hp hq hx hy
      go_enter Try.func15, Try.ntmps15
      go_wp2_with fail
      refine Calls.ext (CA.out _) fun z1 => ?_
      go_wp2_with fail
      go_ret
      exact ⟨rfl, hE1.ext z1⟩
    · have hnp' : (100 : Int) < ((lp.length : Nat) : Int) := by omega
      clear hn hp hq hx hy
      go_enter Try.func15, Try.ntmps15
      go_wp2_with fail
      refine Calls.ext (CA.out _) fun z1 => ?_
      go_wp2_with fail
      go_ret
      exact ⟨rfl, hE1.ext z1⟩
set_option maxRecDepth 100000 in
theorem alignBack_lifted (os : Os) (started : os.Started) (H : Type) (enc : TypeId × Value → H) :
    ReturnsInHanded {} Try.checked os 15 .any (Rows.alignBackSpec.pre6 enc Try.prog Try.f15 Rows.alignBackRow.domain false) (Rows.alignBackSpec.post enc Try.prog Try.f15 false true false false) := by
  refine returnsInHanded_of_change (C := Try.checked) own started (by kernel_rfl) Try.func15
    (ChangeSpec.witness6 (enc := enc) (C := Try.checked) false ⟨#[], #[.slice none 0 0, .slice none 0 0, .agg #[.int .i64 0, .int .i64 0, .int .i64 0, .int .i64 0, .int .i64 0], .int .i64 0, .int .i64 0], []⟩ 8 (by kernel_rfl) (by kernel_rfl) (by kernel_rfl) (by kernel_rfl)) ?_
  intro W base args ds gs before hval0 hW hcnd _
  have hval : ∀ (j : Nat) t v, Try.f15.params[j]? = some t → args[j]? = some v → Value.okWide Try.prog W .any base t v := hval0
  have hW' := hW
  obtain ⟨p, q, hA0, hV, rfl, hfz, hnd⟩ := hW
  have hA : DataW.TrodAll enc Try.prog W 0 (fun _ => true) true Try.f15.params.toList args.toList ds p := hA0
  rw [Try.params15] at hA hval
  obtain ⟨v0, vs0, d0, ds0, p0, q0, hargs, rfl, rfl, h0, r0⟩ := trodAll_cons hA
  obtain ⟨v1, vs1, d1, ds1, p1, q1, rfl, rfl, rfl, h1, r1⟩ := trodAll_cons r0
  obtain ⟨v2, vs2, d2, ds2, p2, q2, rfl, rfl, rfl, h2, r2⟩ := trodAll_cons r1
  obtain ⟨v3, vs3, d3, ds3, p3, q3, rfl, rfl, rfl, h3, r3⟩ := trodAll_cons r2
  obtain ⟨v4, vs4, d4, ds4, p4, q4, rfl, rfl, rfl, h4, r4⟩ := trodAll_cons r3
  obtain ⟨rfl, rfl, rfl⟩ := trodAll_nil r4
  obtain rfl : args = #[v0, v1, v2, v3, v4] := by cases args; simp_all
  obtain ⟨rfl, rfl⟩ := trodVars_none hV
  have k0 := h0
  have lt0 : ∀ x ∈ p0, x.block < W.heap.size := by obtain ⟨m, hm⟩ := k0; exact DataW.trod_lt m _ _ _ hm
  obtain ⟨A0, rows0, cap0, rfl, hlc0, hcm0, hwf0, hrow0⟩ := open_rows (ks := [.i64, .i64, .u8, .u8]) Try.underlying22 Try.underlying24 (by kernel_rfl) (by kernel_rfl) (kindsOf_of (by kernel_rfl)) (by decide) (hval 0 22 v0 rfl rfl) h0
  have k1 := h1
  have lt1 : ∀ x ∈ p1, x.block < W.heap.size := by obtain ⟨m, hm⟩ := k1; exact DataW.trod_lt m _ _ _ hm
  obtain ⟨A1, rows1, cap1, rfl, hlc1, hcm1, hwf1, hrow1⟩ := open_rows (ks := [.i64, .i64, .u8, .u8]) Try.underlying22 Try.underlying24 (by kernel_rfl) (by kernel_rfl) (kindsOf_of (by kernel_rfl)) (by decide) (hval 1 22 v1 rfl rfl) h1
  have k2 := h2
  have lt2 : ∀ x ∈ p2, x.block < W.heap.size := by obtain ⟨m, hm⟩ := k2; exact DataW.trod_lt m _ _ _ hm
  obtain ⟨ns2, hl2, hv2, wf2⟩ := open_nums (ks := [.i64, .i64, .i64, .i64, .i64]) Try.underlying38 (by kernel_rfl) (by kernel_rfl) (kindsOf_of (by kernel_rfl)) (hval 2 38 v2 rfl rfl) h2
  have k3 := h3
  have lt3 : ∀ x ∈ p3, x.block < W.heap.size := by obtain ⟨m, hm⟩ := k3; exact DataW.trod_lt m _ _ _ hm
  obtain ⟨a3, rfl, _, _, w3⟩ := open_int Try.underlying3 (hval 3 3 v3 rfl rfl) h3
  have k4 := h4
  have lt4 : ∀ x ∈ p4, x.block < W.heap.size := by obtain ⟨m, hm⟩ := k4; exact DataW.trod_lt m _ _ _ hm
  obtain ⟨a4, rfl, _, _, w4⟩ := open_int Try.underlying3 (hval 4 3 v4 rfl rfl) h4
  clear hA0 hval0
  obtain ⟨l0, hr0, hp0, hk0, hc0⟩ := pts_of_rows hwf0 hrow0 hlc0
  obtain ⟨l1, hr1, hp1, hk1, hc1⟩ := pts_of_rows hwf1 hrow1 hlc1
  obtain ⟨c2, hcl2⟩ := cl_of hl2
  rw [hcl2] at hv2
  subst hv2
  refine (hr0 ▸ hr1 ▸ alignBack_walk A0 A1 cap0 cap1 l0 l1 c2 a3 a4 W hp0 hp1 hk0 hk1 w3 w4).mono fun e W' ⟨he, bel⟩ => ?_
  subst he
  exact ⟨_, rfl, _, _, _, [], _, [], hW', trodAll_mk1 (shut_bool Try.underlying4 _), (trodAll_cons_mk (Below.trod laidOut (by kernel_rfl) (of_decide_eq_true (by kernel_rfl)) k0 bel lt0) (trodAll_cons_mk (Below.trod laidOut (by kernel_rfl) (of_decide_eq_true (by kernel_rfl)) k1 bel lt1) (trodAll_cons_mk (Below.trod laidOut (by kernel_rfl) (of_decide_eq_true (by kernel_rfl)) k2 bel lt2) (trodAll_cons_mk (Below.trod laidOut (by kernel_rfl) (of_decide_eq_true (by kernel_rfl)) k3 bel lt3) (trodAll_cons_mk (Below.trod laidOut (by kernel_rfl) (of_decide_eq_true (by kernel_rfl)) k4 bel lt4) trodAll_mk0))))), rfl, Below.frame bel _, fun h => by cases h⟩

theorem alignBack_holds : Rows.AlignBackSaid :=
  OpenClaim.holds_of_wide 15 Try.f15 rfl rfl rfl rfl rfl rfl rfl ⟨rfl, rfl, rfl, rfl, rfl⟩ rfl rfl rfl rfl rfl (by kernel_rfl) Try.func15 (by kernel_rfl)
    (of_decide_eq_true (by kernel_rfl)) (by unfold Func.isWrapper; first | (rw [if_pos (by decide +kernel)]; kernel_rfl) | (rw [if_neg (by decide +kernel)]; exact ⟨rfl, rfl⟩))
    (fun os started H enc _ => alignBack_lifted os started H enc)
end Go.Proofs.Ythejomcibobieaa
