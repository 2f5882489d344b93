/- Proved: for all prints, class and two budgets, the call of whorllaw02.AlignMore returns true and leaves its arguments as they were. No conditions. -/
import Derived.Test.YthejomcibobieaaOuts
namespace Go.Proofs.Ythejomcibobieaa
open Go.Joins Go.ChangeShapes Go.WideShapes Go.RowKit Go.Deep Go.ChangeAt

theorem more_err {c : Cl} {lp lq : List Mi} {n m : Int} (h : n ≤ m) (_he : bestE c lp lq n ≠ 0 ∨ bestE c lp lq m ≠ 0) : bestE c lp lq n = bestE c lp lq m ∨ 2000 < m ∨ n < 0 := by
  unfold bestE at *
  by_cases h0 : askE c lp lq = 0
  · rw [if_pos h0, if_pos h0] at *
    by_cases h1 : 0 ≤ n ∧ n ≤ 2000
    · by_cases h2 : 0 ≤ m ∧ m ≤ 2000
      · left
        rw [inB_iff.2 h1, inB_iff.2 h2]
      · right; omega
    · right; omega
  · left
    rw [if_neg h0, if_neg h0]
theorem more_law {c : Cl} {lp lq : List Mi} {n m : Int} (hp : ∀ x ∈ lp, 0 ≤ x.dir) (h : n ≤ m) (h1 : bestE c lp lq n = 0) (h2 : bestE c lp lq m = 0) :
    scoreS (bestS c lp lq n) ≤ scoreS (bestS c lp lq m) ∧ boundS (bestS c lp lq m) ≤ boundS (bestS c lp lq n) ∧ (bestS c lp lq n).att <+: (bestS c lp lq m).att := by
  obtain ⟨a1, a2, a3, a4⟩ := best_ok h1
  obtain ⟨b1, b2, b3, b4⟩ := best_ok h2
  obtain ⟨hc, hpo, hI, -, -⟩ := best_inv hp h1
  rw [a4] at hI
  have P := prom hc lp lq hpo
  have e : m.toNat = n.toNat + (m.toNat - n.toNat) := by omega
  have hr := run_inv P (m.toNat - n.toNat) _ hI
  rw [a4, b4, e, run_add]
  exact ⟨hr.2.1, hr.2.2.1, hr.2.2.2.1⟩
theorem more_wf {c : Cl} {lp lq : List Mi} {n : Int} (hp : ∀ x ∈ lp, 0 ≤ x.dir) (hnp : lp.length ≤ 100) (h : bestE c lp lq n = 0) : ∀ x ∈ (bestS c lp lq n).att, x.wf := by
  obtain ⟨hc, hpo, hI, -, -⟩ := best_inv hp h
  intro x hx
  obtain ⟨h1, h2⟩ := hI.att x hx
  rw [h2]
  exact trK_wf hc hnp h1
set_option maxRecDepth 100000 in
set_option maxHeartbeats 8000000 in
theorem alignMore_walk (Ap Aq : Option Addr) (cp cq : Nat) (lp lq : List Mi) (c : Cl) (n m : Int) (w : World) (hP : Pts w Ap lp) (hQ : Pts w Aq lq) (hp : ∀ m ∈ lp, 0 ≤ m.dir) (hq : ∀ m ∈ lq, 0 ≤ m.dir) :
    Calls Try.prog 10 #[.slice Ap lp.length cp, .slice Aq lq.length cq, c.val, .int .i64 n, .int .i64 m] w fun e w' => e = .returned (.bool true) ∧ Ext w w' := by
  have HP := Lib.hid hP
  have HQ := Lib.hid hQ
  have CA := Lib.hid (fun w => alive_any w)
  clear hP hQ
  by_cases hn : lp.length ≤ 100 ∧ lq.length ≤ 100 ∧ n ≤ m
  · obtain ⟨hnp, hnq, hnm⟩ := hn
    have C1 := Lib.hid (fun A A' k k' w h1 h2 => Best_any c lp lq n hp hq hnp hnq A A' k k' w h1 h2)
    have C2 := Lib.hid (fun A A' k k' w h1 h2 => Best_any c lp lq m hp hq hnp hnq A A' k k' w h1 h2)
    have hnp' : ((lp.length : Nat) : Int) ≤ 100 := by omega
    have hnq' : ((lq.length : Nat) : Int) ≤ 100 := by omega
    have hmn : decide (m < n) = false := by simpa using hnm
    by_cases he : bestE c lp lq n = 0 ∧ bestE c lp lq m = 0
    · obtain ⟨e1, e2⟩ := he
      obtain ⟨f1, f2, f5⟩ := more_law hp hnm e1 e2
      have f4 : scoreS (bestS c lp lq n) ≤ boundS (bestS c lp lq n) := topR_ge0 _ _
      have f6 := (best_inv hp e1).2.2.2.2
      have f7 := (best_inv hp e2).2.2.2.2
      have f3 := f5.length_le
      have F5 := Lib.hid f5
      have WX := Lib.hid (more_wf hp hnp e1)
      rw [e1] at C1
      rw [e2] at C2
      generalize bestS c lp lq n = s1 at *
      generalize bestS c lp lq m = s2 at *
      clear e1 e2 hp hq f5 hnm
      generalize hs1 : scoreS s1 = sc1 at *
      generalize hb1 : boundS s1 = bd1 at *
      generalize hs2 : scoreS s2 = sc2 at *
      generalize hb2 : boundS s2 = bd2 at *
      have E1 := Lib.hid hs1
      have E2 := Lib.hid hb1
      have E3 := Lib.hid hs2
      have E4 := Lib.hid hb2
      clear hs1 hb1 hs2 hb2
      go_enter Try.func10, Try.ntmps10
      go_wp2_with fail
      refine Calls.ext (CA.out _) fun z1 => ?_
      go_wp2_with fail
      have hE1 := ((Ext.refl w).alloc (.cells #[.int .i64 c.turns, .int .i64 c.shift, .int .i64 c.elastic, .int .i64 c.reach, .int .i64 c.spread] 38)).ext z1
      have hC1 := (Blk.new w 38 #[.int .i64 c.turns, .int .i64 c.shift, .int .i64 c.elastic, .int .i64 c.reach, .int .i64 c.spread]).ext z1
      refine call_best (C1.out _ _ _ _ _ (HP.out.grow hE1) (HQ.out.grow hE1)) fun A1 c1 B1 d1 z2 hA hL => ?_
      rw [E1.out, E2.out]
      have HA1 := Lib.hid hA
      have HEa := Lib.hid (hE1.ext z2)
      have HCa := Lib.hid (hC1.ext z2)
      clear hA hL hE1 hC1
      generalize ext (ext (w.alloc (.cells #[.int .i64 c.turns, .int .i64 c.shift, .int .i64 c.elastic, .int .i64 c.reach, .int .i64 c.spread] 38)) z1) z2 = W1 at *
      have g0 : W1.cell? ⟨w.heap.size, 0, none⟩ = some (.int .i64 c.turns) := HCa.out.cell 0
      have g1 : W1.cell? ⟨w.heap.size, 1, none⟩ = some (.int .i64 c.shift) := HCa.out.cell 1
      have g2 : W1.cell? ⟨w.heap.size, 2, none⟩ = some (.int .i64 c.elastic) := HCa.out.cell 2
      have g3 : W1.cell? ⟨w.heap.size, 3, none⟩ = some (.int .i64 c.reach) := HCa.out.cell 3
      have g4 : W1.cell? ⟨w.heap.size, 4, none⟩ = some (.int .i64 c.spread) := HCa.out.cell 4
      have oC := Old.mk HCa.out.lt
      go_wp2_with fail
      have hx := (Ext.refl W1).alloc (.cells #[.int .i64 sc1, .int .i64 bd1, .slice A1 s1.att.length c1, .slice B1 s1.left.length d1] 58)
      have hE2 := HEa.out.trans hx
      refine call_best (C2.out _ _ _ _ _ (HP.out.grow hE2) (HQ.out.grow hE2)) fun A2 c2 B2 d2 z3 hA hL => ?_
      rw [E3.out, E4.out]
      have HA3 := Lib.hid (HA1.out.grow (hx.ext z3))
      have HA4 := Lib.hid hA
      have HB3 := Lib.hid ((Blk.new W1 58 #[.int .i64 sc1, .int .i64 bd1, .slice A1 s1.att.length c1, .slice B1 s1.left.length d1]).ext z3)
      have HE3 := Lib.hid (hE2.ext z3)
      clear hA hL HA1 hx hE2 oC g0 g1 g2 g3 g4 HCa HEa
      generalize ext (W1.alloc (.cells #[.int .i64 sc1, .int .i64 bd1, .slice A1 s1.att.length c1, .slice B1 s1.left.length d1] 58)) z3 = W2 at *
      generalize W1.heap.size = n1 at *
      have g0 : W2.cell? ⟨n1, 0, none⟩ = some (.int .i64 sc1) := HB3.out.cell 0
      have g1 : W2.cell? ⟨n1, 1, none⟩ = some (.int .i64 bd1) := HB3.out.cell 1
      have g2 : W2.cell? ⟨n1, 2, none⟩ = some (.slice A1 s1.att.length c1) := HB3.out.cell 2
      have oB := Old.mk HB3.out.lt
      have f3' : ((s1.att.length : Nat) : Int) ≤ s2.att.length := by omega
      go_wp2_with fail
      have HB4 := Lib.hid (HB3.out.alloc (.cells #[.int .i64 sc2, .int .i64 bd2, .slice A2 s2.att.length c2, .slice B2 s2.left.length d2] 58))
      have HD4 := Lib.hid (Blk.new W2 58 #[.int .i64 sc2, .int .i64 bd2, .slice A2 s2.att.length c2, .slice B2 s2.left.length d2])
      have hy := (Ext.refl W2).alloc (.cells #[.int .i64 sc2, .int .i64 bd2, .slice A2 s2.att.length c2, .slice B2 s2.left.length d2] 58)
      have HA5 := Lib.hid (HA3.out.grow hy)
      have HA6 := Lib.hid (HA4.out.grow hy)
      have HE5 := Lib.hid (HE3.out.trans hy)
      clear HB3 HA3 HA4 HE3 hy g0 g1 g2 oB
      generalize W2.alloc (.cells #[.int .i64 sc2, .int .i64 bd2, .slice A2 s2.att.length c2, .slice B2 s2.left.length d2] 58) = W3 at *
      generalize W2.heap.size = n2 at *
      go_loopw [99] (fun t wr => ∃ k : Nat, k ≤ s1.att.length ∧ t = .int .i64 k ∧ Ext W3 wr) (fun t _ => s1.att.length - (intOf t).toNat)
      case atStart => exact ⟨0, Nat.zero_le _, rfl, Ext.refl _⟩
      case round =>
        obtain ⟨k, hk, rfl, hE⟩ := hrel
        have HE := Lib.hid hE
        have g2 : wr.cell? ⟨n1, 2, none⟩ = some (.slice A1 s1.att.length c1) := (HB4.out.grow hE).cell 2
        have h2 : wr.cell? ⟨n2, 2, none⟩ = some (.slice A2 s2.att.length c2) := (HD4.out.grow hE).cell 2
        have oB := Old.mk (HB4.out.grow hE).lt
        have oD := Old.mk (HD4.out.grow hE).lt
        clear hE
        by_cases hlt : k < s1.att.length
        · have hki : (k : Int) < s1.att.length := by omega
          have hki2 : (k : Int) < s2.att.length := by omega
          obtain ⟨x, hx⟩ : ∃ x, s1.att[k]? = some x := ⟨_, List.getElem?_eq_getElem hlt⟩
          have hx2 : s2.att[k]? = some x := by
            obtain ⟨l, hl⟩ := F5.out
            rw [← hl, List.getElem?_append_left hlt]; exact hx
          have hq46 := fun w => eq46 (WX.out x (List.mem_of_getElem? hx)) (WX.out x (List.mem_of_getElem? hx)) w
          simp only [decide_true] at hq46
          rcases HA5.out with hn | ⟨ga, oa, rfl, ha2, hac⟩
          · rw [hn] at hlt; simp at hlt
          rcases HA6.out with hn | ⟨gb, ob, rfl, hb2, hbc⟩
          · rw [hn] at hx2; simp at hx2
          have og : Nonempty (Old ga wr) := ⟨Nat.lt_of_lt_of_le ha2 HE.out.size⟩
          have oh : Nonempty (Old gb wr) := ⟨Nat.lt_of_lt_of_le hb2 HE.out.size⟩
          have hcl1 : ∀ j u, x.cellsL[j]? = some u → wr.cell? ⟨ga, oa + k * 8 + j, none⟩ = some u := fun j u hu => by rw [HE.out.cell (by exact ha2)]; exact hac k x hx j u hu
          have hcl2 : ∀ j u, x.cellsL[j]? = some u → wr.cell? ⟨gb, ob + k * 8 + j, none⟩ = some u := fun j u hu => by rw [HE.out.cell (by exact hb2)]; exact hbc k x hx2 j u hu
          have x0 : wr.cell? ⟨ga, oa + k * 8, none⟩ = some (.int .i64 x.mv.turn) := hcl1 0 _ rfl
          have x1 := hcl1 1 _ rfl
          have x2 := hcl1 2 _ rfl
          have x3 := hcl1 3 _ rfl
          have x4 := hcl1 4 _ rfl
          have x5 := hcl1 5 _ rfl
          have x6 := hcl1 6 _ rfl
          have x7 := hcl1 7 _ rfl
          have y0 : wr.cell? ⟨gb, ob + k * 8, none⟩ = some (.int .i64 x.mv.turn) := hcl2 0 _ rfl
          have y1 := hcl2 1 _ rfl
          have y2 := hcl2 2 _ rfl
          have y3 := hcl2 3 _ rfl
          have y4 := hcl2 4 _ rfl
          have y5 := hcl2 5 _ rfl
          have y6 := hcl2 6 _ rfl
          have y7 := hcl2 7 _ rfl
          clear hcl1 hcl2 hac hbc hx hx2
          go_wp2_with fail
          refine wp_region_ext (by kernel_rfl) (by kernel_rfl) ?_
          repeat (go_big_quiet_step (fail))
          refine wpQuiet_nil ?_
          rintro _ ⟨z2, rfl⟩
          go_wp2_with fail
          exact ⟨⟨k + 1, by omega, by go_num, HE.out.ext z2⟩, by simp [intOf]; omega⟩
        · obtain rfl : k = s1.att.length := by omega
          go_wp2_with fail
          go_ret
          exact ⟨rfl, HE5.out.trans HE.out⟩
    · have hv : ∃ x y, bestE c lp lq n = x ∧ bestE c lp lq m = y ∧ ((x != 0) = true ∨ (x != 0) = false ∧ (y != 0) = true) ∧ ((x == y) = true ∨ (x == y) = false ∧ decide (2000 < m) = true ∨ (x == y) = false ∧ decide (2000 < m) = false ∧ decide (n < 0) = true) := by
        have h3 : bestE c lp lq n = bestE c lp lq m ∨ 2000 < m ∨ n < 0 := more_err hnm (by
          by_cases h : bestE c lp lq n = 0
          · exact .inr fun h2 => he ⟨h, h2⟩
          · exact .inl h)
        refine ⟨_, _, rfl, rfl, ?_, ?_⟩
        · by_cases h : bestE c lp lq n = 0
          · exact .inr ⟨by simp [h], by simpa using fun h2 => he ⟨h, h2⟩⟩
          · exact .inl (by simpa using h)
        · by_cases h : bestE c lp lq n = bestE c lp lq m
          · exact .inl (by simpa using h)
          · have hf : (bestE c lp lq n == bestE c lp lq m) = false := by simpa using h
            by_cases h2 : 2000 < m
            · exact .inr (.inl ⟨hf, by simpa using h2⟩)
            · have h4 : n < 0 := by omega
              exact .inr (.inr ⟨hf, by simpa using h2, by simpa using h4⟩)
      obtain ⟨x, y, hx, hy, hb, ho⟩ := hv
      rw [hx] at C1
      rw [hy] at C2
      generalize bestS c lp lq n = s1 at *
      generalize bestS c lp lq m = s2 at *
      clear hx hy he hp hq hnm
      have q1 : decide ((100 : Int) < (lp.length : Nat)) = false := by simpa using hnp'
      have q2 : decide ((100 : Int) < (lq.length : Nat)) = false := by simpa using hnq'
      clear hnp' hnq' hnp hnq
      rcases hb with hb | ⟨hb, hb2⟩ <;> rcases ho with ho | ⟨ho, ho2⟩ | ⟨ho, ho2, ho3⟩
      all_goals
        go_enter Try.func10, Try.ntmps10
        go_wp2_with fail
        refine Calls.ext (CA.out _) fun z1 => ?_
        go_wp2_with fail
        have hE1 := ((Ext.refl w).alloc (.cells #[.int .i64 c.turns, .int .i64 c.shift, .int .i64 c.elastic, .int .i64 c.reach, .int .i64 c.spread] 38)).ext z1
        refine call_best (C1.out _ _ _ _ _ (HP.out.grow hE1) (HQ.out.grow hE1)) fun A1 c1 B1 d1 z2 _ _ => ?_
        generalize scoreS s1 = sc1
        generalize boundS s1 = bd1
        have hE2 := (hE1.ext z2)
        have HCa := Lib.hid (((Blk.new w 38 #[.int .i64 c.turns, .int .i64 c.shift, .int .i64 c.elastic, .int .i64 c.reach, .int .i64 c.spread]).ext z1).ext z2)
        clear hE1
        generalize ext (ext (w.alloc (.cells #[.int .i64 c.turns, .int .i64 c.shift, .int .i64 c.elastic, .int .i64 c.reach, .int .i64 c.spread] 38)) z1) z2 = W1 at *
        have g0 : W1.cell? ⟨w.heap.size, 0, none⟩ = some (.int .i64 c.turns) := HCa.out.cell 0
        have g1 : W1.cell? ⟨w.heap.size, 1, none⟩ = some (.int .i64 c.shift) := HCa.out.cell 1
        have g2 : W1.cell? ⟨w.heap.size, 2, none⟩ = some (.int .i64 c.elastic) := HCa.out.cell 2
        have g3 : W1.cell? ⟨w.heap.size, 3, none⟩ = some (.int .i64 c.reach) := HCa.out.cell 3
        have g4 : W1.cell? ⟨w.heap.size, 4, none⟩ = some (.int .i64 c.spread) := HCa.out.cell 4
        have oC := Old.mk HCa.out.lt
        go_wp2_with fail
        have hE3 := hE2.alloc (.cells #[.int .i64 sc1, .int .i64 bd1, .slice A1 s1.att.length c1, .slice B1 s1.left.length d1] 58)
        refine call_best (C2.out _ _ _ _ _ (HP.out.grow hE3) (HQ.out.grow hE3)) fun A2 c2 B2 d2 z3 _ _ => ?_
        go_wp2_with fail
        go_ret
        exact ⟨rfl, (hE3.ext z3).alloc _⟩
  · have hE1 := (((Ext.refl w).alloc (.cells #[.int .i64 c.turns, .int .i64 c.shift, .int .i64 c.elastic, .int .i64 c.reach, .int .i64 c.spread] 38)))
    by_cases hnp : lp.length ≤ 100
    · have hnp' : ((lp.length : Nat) : Int) ≤ 100 := by omega
      by_cases hnq : lq.length ≤ 100
      · have hnq' : ((lq.length : Nat) : Int) ≤ 100 := by omega
        have hmn : decide (m < n) = true := by simp; omega
        clear hn hp hq
        go_enter Try.func10, Try.ntmps10
        go_wp2_with fail
        refine Calls.ext (CA.out _) fun z1 => ?_
        go_wp2_with fail
        go_ret
        exact ⟨rfl, hE1.ext z1⟩
      · have hnq' : (100 : Int) < ((lq.length : Nat) : Int) := by omega
        clear hn hp hq
        go_enter Try.func10, Try.ntmps10
        go_wp2_with fail
        refine Calls.ext (CA.out _) fun z1 => ?_
        go_wp2_with fail
        go_ret
        exact ⟨rfl, hE1.ext z1⟩
    · have hnp' : (100 : Int) < ((lp.length : Nat) : Int) := by omega
      clear hn hp hq
      go_enter Try.func10, Try.ntmps10
      go_wp2_with fail
      refine Calls.ext (CA.out _) fun z1 => ?_
      go_wp2_with fail
      go_ret
      exact ⟨rfl, hE1.ext z1⟩
set_option maxRecDepth 100000 in
theorem alignMore_lifted (os : Os) (started : os.Started) (H : Type) (enc : TypeId × Value → H) :
    ReturnsInHanded {} Try.checked os 10 .any (Rows.alignMoreSpec.pre6 enc Try.prog Try.f10 Rows.alignMoreRow.domain false) (Rows.alignMoreSpec.post enc Try.prog Try.f10 false true false false) := by
  refine returnsInHanded_of_change (C := Try.checked) own started (by kernel_rfl) Try.func10
    (ChangeSpec.witness6 (enc := enc) (C := Try.checked) false ⟨#[], #[.slice none 0 0, .slice none 0 0, .agg #[.int .i64 0, .int .i64 0, .int .i64 0, .int .i64 0, .int .i64 0], .int .i64 0, .int .i64 0], []⟩ 8 (by kernel_rfl) (by kernel_rfl) (by kernel_rfl) (by kernel_rfl)) ?_
  intro W base args ds gs before hval0 hW hcnd _
  have hval : ∀ (j : Nat) t v, Try.f10.params[j]? = some t → args[j]? = some v → Value.okWide Try.prog W .any base t v := hval0
  have hW' := hW
  obtain ⟨p, q, hA0, hV, rfl, hfz, hnd⟩ := hW
  have hA : DataW.TrodAll enc Try.prog W 0 (fun _ => true) true Try.f10.params.toList args.toList ds p := hA0
  rw [Try.params10] at hA hval
  obtain ⟨v0, vs0, d0, ds0, p0, q0, hargs, rfl, rfl, h0, r0⟩ := trodAll_cons hA
  obtain ⟨v1, vs1, d1, ds1, p1, q1, rfl, rfl, rfl, h1, r1⟩ := trodAll_cons r0
  obtain ⟨v2, vs2, d2, ds2, p2, q2, rfl, rfl, rfl, h2, r2⟩ := trodAll_cons r1
  obtain ⟨v3, vs3, d3, ds3, p3, q3, rfl, rfl, rfl, h3, r3⟩ := trodAll_cons r2
  obtain ⟨v4, vs4, d4, ds4, p4, q4, rfl, rfl, rfl, h4, r4⟩ := trodAll_cons r3
  obtain ⟨rfl, rfl, rfl⟩ := trodAll_nil r4
  obtain rfl : args = #[v0, v1, v2, v3, v4] := by cases args; simp_all
  obtain ⟨rfl, rfl⟩ := trodVars_none hV
  have k0 := h0
  have lt0 : ∀ x ∈ p0, x.block < W.heap.size := by obtain ⟨m, hm⟩ := k0; exact DataW.trod_lt m _ _ _ hm
  obtain ⟨A0, rows0, cap0, rfl, hlc0, hcm0, hwf0, hrow0⟩ := open_rows (ks := [.i64, .i64, .u8, .u8]) Try.underlying22 Try.underlying24 (by kernel_rfl) (by kernel_rfl) (kindsOf_of (by kernel_rfl)) (by decide) (hval 0 22 v0 rfl rfl) h0
  have k1 := h1
  have lt1 : ∀ x ∈ p1, x.block < W.heap.size := by obtain ⟨m, hm⟩ := k1; exact DataW.trod_lt m _ _ _ hm
  obtain ⟨A1, rows1, cap1, rfl, hlc1, hcm1, hwf1, hrow1⟩ := open_rows (ks := [.i64, .i64, .u8, .u8]) Try.underlying22 Try.underlying24 (by kernel_rfl) (by kernel_rfl) (kindsOf_of (by kernel_rfl)) (by decide) (hval 1 22 v1 rfl rfl) h1
  have k2 := h2
  have lt2 : ∀ x ∈ p2, x.block < W.heap.size := by obtain ⟨m, hm⟩ := k2; exact DataW.trod_lt m _ _ _ hm
  obtain ⟨ns2, hl2, hv2, wf2⟩ := open_nums (ks := [.i64, .i64, .i64, .i64, .i64]) Try.underlying38 (by kernel_rfl) (by kernel_rfl) (kindsOf_of (by kernel_rfl)) (hval 2 38 v2 rfl rfl) h2
  have k3 := h3
  have lt3 : ∀ x ∈ p3, x.block < W.heap.size := by obtain ⟨m, hm⟩ := k3; exact DataW.trod_lt m _ _ _ hm
  obtain ⟨a3, rfl, _, _, w3⟩ := open_int Try.underlying3 (hval 3 3 v3 rfl rfl) h3
  have k4 := h4
  have lt4 : ∀ x ∈ p4, x.block < W.heap.size := by obtain ⟨m, hm⟩ := k4; exact DataW.trod_lt m _ _ _ hm
  obtain ⟨a4, rfl, _, _, w4⟩ := open_int Try.underlying3 (hval 4 3 v4 rfl rfl) h4
  clear hA0 hval0
  obtain ⟨l0, hr0, hp0, hk0, hc0⟩ := pts_of_rows hwf0 hrow0 hlc0
  obtain ⟨l1, hr1, hp1, hk1, hc1⟩ := pts_of_rows hwf1 hrow1 hlc1
  obtain ⟨c2, hcl2⟩ := cl_of hl2
  rw [hcl2] at hv2
  subst hv2
  refine (hr0 ▸ hr1 ▸ alignMore_walk A0 A1 cap0 cap1 l0 l1 c2 a3 a4 W hp0 hp1 hk0 hk1).mono fun e W' ⟨he, bel⟩ => ?_
  subst he
  exact ⟨_, rfl, _, _, _, [], _, [], hW', trodAll_mk1 (shut_bool Try.underlying4 _), (trodAll_cons_mk (Below.trod laidOut (by kernel_rfl) (of_decide_eq_true (by kernel_rfl)) k0 bel lt0) (trodAll_cons_mk (Below.trod laidOut (by kernel_rfl) (of_decide_eq_true (by kernel_rfl)) k1 bel lt1) (trodAll_cons_mk (Below.trod laidOut (by kernel_rfl) (of_decide_eq_true (by kernel_rfl)) k2 bel lt2) (trodAll_cons_mk (Below.trod laidOut (by kernel_rfl) (of_decide_eq_true (by kernel_rfl)) k3 bel lt3) (trodAll_cons_mk (Below.trod laidOut (by kernel_rfl) (of_decide_eq_true (by kernel_rfl)) k4 bel lt4) trodAll_mk0))))), rfl, Below.frame bel _, fun h => by cases h⟩

theorem alignMore_holds : Rows.AlignMoreSaid :=
  OpenClaim.holds_of_wide 10 Try.f10 rfl rfl rfl rfl rfl rfl rfl ⟨rfl, rfl, rfl, rfl, rfl⟩ rfl rfl rfl rfl rfl (by kernel_rfl) Try.func10 (by kernel_rfl)
    (of_decide_eq_true (by kernel_rfl)) (by unfold Func.isWrapper; first | (rw [if_pos (by decide +kernel)]; kernel_rfl) | (rw [if_neg (by decide +kernel)]; exact ⟨rfl, rfl⟩))
    (fun os started H enc _ => alignMore_lifted os started H enc)
end Go.Proofs.Ythejomcibobieaa
