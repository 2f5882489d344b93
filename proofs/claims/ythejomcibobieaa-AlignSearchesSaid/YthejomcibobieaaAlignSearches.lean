/- Proved: for all prints, class and budget, the call of whorllaw02.AlignSearches returns true and leaves its arguments as they were. No conditions. -/
import Derived.Test.YthejomcibobieaaOuts
import Derived.Test.YthejomcibobieaaRefBest
import Derived.Test.YthejomcibobieaaCheckRef
namespace Go.Proofs.Ythejomcibobieaa
open Go.Joins Go.ChangeShapes Go.WideShapes Go.RowKit Go.Deep Go.ChangeAt

theorem bestS_wf {c : Cl} {lp lq : List Mi} {n : Int} (hp : ∀ m ∈ lp, 0 ≤ m.dir) (hnp : lp.length ≤ 100) : (∀ x ∈ (bestS c lp lq n).att, x.wf) ∧ (∀ x ∈ (bestS c lp lq n).left, x.wf) ∧ (bestS c lp lq n).att.length ≤ 10000 ∧ (bestS c lp lq n).left.length ≤ 10000 := by
  by_cases h : bestE c lp lq n = 0
  · obtain ⟨hc, hpo, hI, h1, h2⟩ := best_inv hp h
    have h3 := left_len hI
    refine ⟨inv_wf hc hnp hI, fun x hx => ?_, by omega, by omega⟩
    obtain ⟨b1, b2⟩ := hI.left x hx
    have hb := isBlk_iff.1 b1
    have c1 := hc.turns
    have c2 := hc.shift
    have hn : -1000 ≤ x.bound ∧ x.bound ≤ 1000 := by
      rw [b2]
      have hk := isMax_left (mmk_max (nbF lq.length (mayK c lp lq x.bk)) lp.length)
      have h0 := bndK_nonneg c lp lq x.bk
      unfold bndK at h0 ⊢
      omega
    exact ⟨wf_i (by omega), wf_i (by omega), wf_i (by omega), wf_i (by omega), wf_i (by omega), wf_i hn⟩
  · have e : bestS c lp lq n = ⟨[], []⟩ := by unfold bestS; rw [if_neg h]
    rw [e]
    exact ⟨fun x hx => (by cases hx), fun x hx => (by cases hx), by simp, by simp⟩
set_option maxRecDepth 100000 in
set_option maxHeartbeats 8000000 in
theorem alignSearches_walk (Ap Aq : Option Addr) (cp cq : Nat) (lp lq : List Mi) (c : Cl) (n : Int) (w : World) (hP : Pts w Ap lp) (hQ : Pts w Aq lq) (hp : ∀ m ∈ lp, 0 ≤ m.dir) (hq : ∀ m ∈ lq, 0 ≤ m.dir) :
    Calls Try.prog 6 #[.slice Ap lp.length cp, .slice Aq lq.length cq, c.val, .int .i64 n] w fun e w' => e = .returned (.bool true) ∧ Ext w w' := by
  have HP := Lib.hid hP
  have HQ := Lib.hid hQ
  clear hP hQ
  have HE0 := Lib.hid ((Ext.refl w).alloc (.cells #[.int .i64 c.turns, .int .i64 c.shift, .int .i64 c.elastic, .int .i64 c.reach, .int .i64 c.spread] 38))
  by_cases hn : lp.length ≤ 100 ∧ lq.length ≤ 100
  · obtain ⟨hnp, hnq⟩ := hn
    obtain ⟨wa, wl, na, nl⟩ := bestS_wf (c := c) (lq := lq) (n := n) hp hnp
    have C1 := Lib.hid (fun A A' n1 n2 w h1 h2 => Best_any c lp lq n hp hq hnp hnq A A' n1 n2 w h1 h2)
    have C2 := Lib.hid (fun A A' n1 n2 w h1 h2 => refBest_any c lp lq n hp hq hnp hnq A A' n1 n2 w h1 h2)
    have S1 := Lib.hid (fun A B c d w ha hb => samePrint_any A B c d lp w ha hb hnp)
    have S2 := Lib.hid (fun A B c d w ha hb => samePrint_any A B c d lq w ha hb hnq)
    generalize bestS c lp lq n = s at *
    generalize bestE c lp lq n = x at *
    have C3 := Lib.hid (fun A1 A2 B1 B2 c1 c2 e1 e2 w h1 h2 h3 h4 => same_any s.att s.left (scoreS s) (boundS s) A1 A2 B1 B2 c1 c2 e1 e2 wa wl na nl w h1 h2 h3 h4)
    clear wa wl na nl hp hq
    have hnp' : ((lp.length : Nat) : Int) ≤ 100 := by omega
    have hnq' : ((lq.length : Nat) : Int) ≤ 100 := by omega
    have HSp := Lib.hid (HP.out.sl.slc mi_len)
    have HSq := Lib.hid (HQ.out.sl.slc mi_len)
    have bx : (x == x) = true := by simp
    go_enter Try.func6, Try.ntmps6
    go_wp2_with (first | (at_builtin; refine wpList_append_ext rfl (w.alloc (.cells #[.int .i64 c.turns, .int .i64 c.shift, .int .i64 c.elastic, .int .i64 c.reach, .int .i64 c.spread] 38)) (by exact (Ext.refl _).alloc _) infoM (.tmp 23) (.tmp 24) rfl _ 0 [] rfl (by exact own_empty 4 (by simp) (Blk.new' _ 24 #[] _ (by simp))) Ap lp.length cp (flatG Mi.cellsL lp) rfl (by exact HSp.out.grow (((Ext.refl w).alloc (.cells #[.int .i64 c.turns, .int .i64 c.shift, .int .i64 c.elastic, .int .i64 c.reach, .int .i64 c.spread] 38)).alloc _)) (flatG_one mi_one lp) (by omega) (by omega) ?_; intro A1 n1 z1 hown1; replace hown1 := Lib.hid hown1) | (at_builtin; refine wpList_append_ext rfl (ext (w.alloc (.cells #[.int .i64 c.turns, .int .i64 c.shift, .int .i64 c.elastic, .int .i64 c.reach, .int .i64 c.spread] 38)) z1) (by exact (Ext.refl _).alloc _) infoM (.tmp 26) (.tmp 27) rfl _ 0 [] rfl (by exact own_empty 4 (Nat.le_refl _) (Blk.new _ 24 #[])) Aq lq.length cq (flatG Mi.cellsL lq) rfl (by exact HSq.out.grow ((((Ext.refl w).alloc (.cells #[.int .i64 c.turns, .int .i64 c.shift, .int .i64 c.elastic, .int .i64 c.reach, .int .i64 c.spread] 38)).ext z1).alloc _)) (flatG_one mi_one lq) (by omega) (by omega) ?_; intro A2 n2 z2 hown2; replace hown2 := Lib.hid hown2))
    have k1 := hown1.out
    have k2 := hown2.out
    simp only [Nat.zero_add, List.nil_append] at k1 k2
    have HP1 := Lib.hid (pts_own (own_grow k1 (Ext.ext_self (ext (w.alloc (.cells #[.int .i64 c.turns, .int .i64 c.shift, .int .i64 c.elastic, .int .i64 c.reach, .int .i64 c.spread] 38)) z1) z2)))
    have HQ1 := Lib.hid (pts_own k2)
    try simp only [Nat.zero_add]
    have H0 := Lib.hid (((Blk.new w 38 #[.int .i64 c.turns, .int .i64 c.shift, .int .i64 c.elastic, .int .i64 c.reach, .int .i64 c.spread]).ext z1).ext z2)
    have HE := Lib.hid ((((Ext.refl w).alloc (.cells #[.int .i64 c.turns, .int .i64 c.shift, .int .i64 c.elastic, .int .i64 c.reach, .int .i64 c.spread] 38)).ext z1).ext z2)
    clear k1 k2 hown1 hown2 HSp HSq
    generalize (ext (ext (w.alloc (.cells #[.int .i64 c.turns, .int .i64 c.shift, .int .i64 c.elastic, .int .i64 c.reach, .int .i64 c.spread] 38)) z1) z2) = V2 at *
    have c0 : V2.cell? ⟨w.heap.size, 0, none⟩ = some (.int .i64 c.turns) := H0.out.cell 0
    have c1 : V2.cell? ⟨w.heap.size, 1, none⟩ = some (.int .i64 c.shift) := H0.out.cell 1
    have c2 : V2.cell? ⟨w.heap.size, 2, none⟩ = some (.int .i64 c.elastic) := H0.out.cell 2
    have c3 : V2.cell? ⟨w.heap.size, 3, none⟩ = some (.int .i64 c.reach) := H0.out.cell 3
    have c4 : V2.cell? ⟨w.heap.size, 4, none⟩ = some (.int .i64 c.spread) := H0.out.cell 4
    have o0 := Old.mk H0.out.lt
    have fP := Lib.hid (show ∀ W', Ext V2 W' → Pts W' Ap lp from fun _ h => HP.out.grow (HE.out.trans h))
    have fQ := Lib.hid (show ∀ W', Ext V2 W' → Pts W' Aq lq from fun _ h => HQ.out.grow (HE.out.trans h))
    have gP := Lib.hid (show ∀ W', Ext V2 W' → Pts W' A1 lp from fun _ h => HP1.out.grow h)
    have gQ := Lib.hid (show ∀ W', Ext V2 W' → Pts W' A2 lq from fun _ h => HQ1.out.grow h)
    refine call_best (C1.out A1 A2 n1 n2 V2 HP1.out HQ1.out) fun B1 e1 B2 e2 z3 hA hL => ?_
    have HA := Lib.hid hA
    have HL := Lib.hid hL
    clear hA hL
    go_wp2_with fail
    have E3 := Lib.hid (((Ext.refl V2).ext z3).alloc (.cells #[.int .i64 (scoreS s), .int .i64 (boundS s), .slice B1 s.att.length e1, .slice B2 s.left.length e2] 58))
    refine call_best (C2.out Ap Aq cp cq _ (fP.out _ E3.out) (fQ.out _ E3.out)) fun D1 k1 D2 k2 z4 hA2 hL2 => ?_
    have HA2 := Lib.hid hA2
    have HL2 := Lib.hid hL2
    clear hA2 hL2
    go_wp2_with fail
    have E4 := Lib.hid ((E3.out.ext z4).alloc (.cells #[.int .i64 (scoreS s), .int .i64 (boundS s), .slice D1 s.att.length k1, .slice D2 s.left.length k2] 58))
    have F4 := Lib.hid ((((Ext.refl (ext V2 z3)).alloc (.cells #[.int .i64 (scoreS s), .int .i64 (boundS s), .slice B1 s.att.length e1, .slice B2 s.left.length e2] 58)).ext z4).alloc (.cells #[.int .i64 (scoreS s), .int .i64 (boundS s), .slice D1 s.att.length k1, .slice D2 s.left.length k2] 58))
    have G4 := Lib.hid ((Ext.refl (ext ((ext V2 z3).alloc (.cells #[.int .i64 (scoreS s), .int .i64 (boundS s), .slice B1 s.att.length e1, .slice B2 s.left.length e2] 58)) z4)).alloc (.cells #[.int .i64 (scoreS s), .int .i64 (boundS s), .slice D1 s.att.length k1, .slice D2 s.left.length k2] 58))
    refine Calls.ext (C3.out B1 B2 D1 D2 e1 e2 k1 k2 _ (HA.out.grow F4.out) (HL.out.grow F4.out) (HA2.out.grow G4.out) (HL2.out.grow G4.out)) fun z5 => ?_
    go_wp2_with fail
    have E5 := Lib.hid (E4.out.ext z5)
    refine Calls.ext (S1.out A1 Ap n1 cp _ (gP.out _ E5.out) (fP.out _ E5.out)) fun z6 => ?_
    go_wp2_with fail
    have E6 := Lib.hid (E5.out.ext z6)
    refine Calls.ext (S2.out A2 Aq n2 cq _ (gQ.out _ E6.out) (fQ.out _ E6.out)) fun z7 => ?_
    go_wp2_with fail
    have E7 := Lib.hid (E6.out.ext z7)
    go_ret
    exact ⟨rfl, HE.out.trans E7.out⟩
  · by_cases hnp : lp.length ≤ 100
    · have hnp' : ((lp.length : Nat) : Int) ≤ 100 := by omega
      have hnq' : (100 : Int) < ((lq.length : Nat) : Int) := by omega
      clear hn hp hq
      go_enter Try.func6, Try.ntmps6
      go_wp2_with fail
      go_ret
      exact ⟨rfl, HE0.out⟩
    · have hnp' : (100 : Int) < ((lp.length : Nat) : Int) := by omega
      clear hn hp hq
      go_enter Try.func6, Try.ntmps6
      go_wp2_with fail
      go_ret
      exact ⟨rfl, HE0.out⟩
set_option maxRecDepth 100000 in
theorem alignSearches_lifted (os : Os) (started : os.Started) (H : Type) (enc : TypeId × Value → H) :
    ReturnsInHanded {} Try.checked os 6 .any (Rows.alignSearchesSpec.pre6 enc Try.prog Try.f6 Rows.alignSearchesRow.domain false) (Rows.alignSearchesSpec.post enc Try.prog Try.f6 false true false false) := by
  refine returnsInHanded_of_change (C := Try.checked) own started (by kernel_rfl) Try.func6
    (ChangeSpec.witness6 (enc := enc) (C := Try.checked) false ⟨#[], #[.slice none 0 0, .slice none 0 0, .agg #[.int .i64 0, .int .i64 0, .int .i64 0, .int .i64 0, .int .i64 0], .int .i64 0], []⟩ 8 (by kernel_rfl) (by kernel_rfl) (by kernel_rfl) (by kernel_rfl)) ?_
  intro W base args ds gs before hval0 hW hcnd _
  have hval : ∀ (j : Nat) t v, Try.f6.params[j]? = some t → args[j]? = some v → Value.okWide Try.prog W .any base t v := hval0
  have hW' := hW
  obtain ⟨p, q, hA0, hV, rfl, hfz, hnd⟩ := hW
  have hA : DataW.TrodAll enc Try.prog W 0 (fun _ => true) true Try.f6.params.toList args.toList ds p := hA0
  rw [Try.params6] at hA hval
  obtain ⟨v0, vs0, d0, ds0, p0, q0, hargs, rfl, rfl, h0, r0⟩ := trodAll_cons hA
  obtain ⟨v1, vs1, d1, ds1, p1, q1, rfl, rfl, rfl, h1, r1⟩ := trodAll_cons r0
  obtain ⟨v2, vs2, d2, ds2, p2, q2, rfl, rfl, rfl, h2, r2⟩ := trodAll_cons r1
  obtain ⟨v3, vs3, d3, ds3, p3, q3, rfl, rfl, rfl, h3, r3⟩ := trodAll_cons r2
  obtain ⟨rfl, rfl, rfl⟩ := trodAll_nil r3
  obtain rfl : args = #[v0, v1, v2, v3] := by cases args; simp_all
  obtain ⟨rfl, rfl⟩ := trodVars_none hV
  have k0 := h0
  have lt0 : ∀ x ∈ p0, x.block < W.heap.size := by obtain ⟨m, hm⟩ := k0; exact DataW.trod_lt m _ _ _ hm
  obtain ⟨A0, rows0, cap0, rfl, hlc0, hcm0, hwf0, hrow0⟩ := open_rows (ks := [.i64, .i64, .u8, .u8]) Try.underlying22 Try.underlying24 (by kernel_rfl) (by kernel_rfl) (kindsOf_of (by kernel_rfl)) (by decide) (hval 0 22 v0 rfl rfl) h0
  have k1 := h1
  have lt1 : ∀ x ∈ p1, x.block < W.heap.size := by obtain ⟨m, hm⟩ := k1; exact DataW.trod_lt m _ _ _ hm
  obtain ⟨A1, rows1, cap1, rfl, hlc1, hcm1, hwf1, hrow1⟩ := open_rows (ks := [.i64, .i64, .u8, .u8]) Try.underlying22 Try.underlying24 (by kernel_rfl) (by kernel_rfl) (kindsOf_of (by kernel_rfl)) (by decide) (hval 1 22 v1 rfl rfl) h1
  have k2 := h2
  have lt2 : ∀ x ∈ p2, x.block < W.heap.size := by obtain ⟨m, hm⟩ := k2; exact DataW.trod_lt m _ _ _ hm
  obtain ⟨ns2, hl2, hv2, wf2⟩ := open_nums (ks := [.i64, .i64, .i64, .i64, .i64]) Try.underlying38 (by kernel_rfl) (by kernel_rfl) (kindsOf_of (by kernel_rfl)) (hval 2 38 v2 rfl rfl) h2
  have k3 := h3
  have lt3 : ∀ x ∈ p3, x.block < W.heap.size := by obtain ⟨m, hm⟩ := k3; exact DataW.trod_lt m _ _ _ hm
  obtain ⟨a3, rfl, _, _, w3⟩ := open_int Try.underlying3 (hval 3 3 v3 rfl rfl) h3
  clear hA0 hval0
  obtain ⟨l0, hr0, hp0, hk0, hc0⟩ := pts_of_rows hwf0 hrow0 hlc0
  obtain ⟨l1, hr1, hp1, hk1, hc1⟩ := pts_of_rows hwf1 hrow1 hlc1
  obtain ⟨c2, hcl2⟩ := cl_of hl2
  rw [hcl2] at hv2
  subst hv2
  refine (hr0 ▸ hr1 ▸ alignSearches_walk A0 A1 cap0 cap1 l0 l1 c2 a3 W hp0 hp1 hk0 hk1).mono fun e W' ⟨he, bel⟩ => ?_
  subst he
  exact ⟨_, rfl, _, _, _, [], _, [], hW', trodAll_mk1 (shut_bool Try.underlying4 _), (trodAll_cons_mk (Below.trod laidOut (by kernel_rfl) (of_decide_eq_true (by kernel_rfl)) k0 bel lt0) (trodAll_cons_mk (Below.trod laidOut (by kernel_rfl) (of_decide_eq_true (by kernel_rfl)) k1 bel lt1) (trodAll_cons_mk (Below.trod laidOut (by kernel_rfl) (of_decide_eq_true (by kernel_rfl)) k2 bel lt2) (trodAll_cons_mk (Below.trod laidOut (by kernel_rfl) (of_decide_eq_true (by kernel_rfl)) k3 bel lt3) trodAll_mk0)))), rfl, Below.frame bel _, fun h => by cases h⟩

theorem alignSearches_holds : Rows.AlignSearchesSaid :=
  OpenClaim.holds_of_wide 6 Try.f6 rfl rfl rfl rfl rfl rfl rfl ⟨rfl, rfl, rfl, rfl, rfl⟩ rfl rfl rfl rfl rfl (by kernel_rfl) Try.func6 (by kernel_rfl)
    (of_decide_eq_true (by kernel_rfl)) (by unfold Func.isWrapper; first | (rw [if_pos (by decide +kernel)]; kernel_rfl) | (rw [if_neg (by decide +kernel)]; exact ⟨rfl, rfl⟩))
    (fun os started H enc _ => alignSearches_lifted os started H enc)
end Go.Proofs.Ythejomcibobieaa
