/- Proved: for all prints, class and budget, the call of whorllaw02.AlignBest returns true and leaves its arguments as they were. No conditions. -/
import Derived.Test.YthejomcibobieaaOuts
import Derived.Test.YthejomcibobieaaGrowLaw
import Derived.Test.YthejomcibobieaaAskedL
import Derived.Test.YthejomcibobieaaGreatest
namespace Go.Proofs.Ythejomcibobieaa
open Go.Joins Go.ChangeShapes Go.WideShapes Go.RowKit Go.Deep Go.ChangeAt

theorem call_most {P : Program} {f : FuncId} {args : Array Value} {c : Cl} {lp lq : List Mi} {w : World} {R : Ending → World → Prop} (h : Calls P f args w fun e w' => ∃ M, Most c lp lq M ∧ e = .returned (.tuple #[.int .i64 M, .bool true]) ∧ Ext w w') (hR : ∀ M z, Most c lp lq M → R (.returned (.tuple #[.int .i64 M, .bool true])) (ext w z)) : Calls P f args w R :=
  h.mono fun e w' ⟨M, h1, he, hw⟩ => by
    subst he
    have := hR M w' h1
    rw [ext_of hw] at this
    exact this
theorem best_full8 {c : Cl} {lp lq : List Mi} (h : askE c lp lq = 0) : bestE c lp lq 2000 = 0 ∧ bestS c lp lq 2000 = runS (bndK c lp lq) (trK c lp lq) 2000 (startS (bndK c lp lq) c) := by
  have h1 : bestE c lp lq 2000 = 0 := by unfold bestE; rw [if_pos h]; rfl
  exact ⟨h1, (best_ok h1).2.2.2⟩
theorem best_most {c : Cl} (hc : c.ok) {lp lq : List Mi} (hpo : ∀ m ∈ lp, m.ok) {s : St} (hI : Inv c (bndK c lp lq) (trK c lp lq) s) {M : Int} (h : Most c lp lq M) : scoreS s ≤ M ∧ M ≤ boundS s := by
  obtain ⟨h1, h2, h3⟩ := h
  have P := prom hc lp lq hpo
  constructor
  · rcases inv_score hI with e | ⟨v, hv, e⟩
    · omega
    · have := h2 v (trK c lp lq v).bd hv (trK_bend hc lp lq v)
      obtain ⟨-, -, -, -, h4, -⟩ := trK_best hc lp lq v
      omega
  · rcases h3 with rfl | ⟨v, b, hv, hb, rfl⟩
    · have h5 : scoreS s ≤ boundS s := topR_ge0 _ _
      have h6 : 0 ≤ scoreS s := topA_nonneg _
      omega
    · have h4 := (trK_best hc lp lq v).1 b hb
      have h5 := inv_le P hI hv
      omega
theorem best_score {c : Cl} (hc : c.ok) {lp lq : List Mi} {s : St} (hI : Inv c (bndK c lp lq) (trK c lp lq) s) {x : At} (hx : x ∈ s.att) : (isMove c x.mv && isBend c.elastic x.bd.f) = true ∧ scrK c lp lq x.mv x.bd.f = x.score := by
  obtain ⟨h1, h2⟩ := hI.att x hx
  obtain ⟨-, -, -, -, h4, -⟩ := trK_best hc lp lq x.mv
  have h5 := trK_bend hc lp lq x.mv
  rw [← h2] at h4 h5
  rw [h1, h5]
  exact ⟨rfl, h4.symm⟩
set_option maxRecDepth 100000 in
set_option maxHeartbeats 16000000 in
theorem alignBest_walk (Ap Aq : Option Addr) (cp cq : Nat) (lp lq : List Mi) (c : Cl) (n : Int) (w : World) (hP : Pts w Ap lp) (hQ : Pts w Aq lq) (hp : ∀ m ∈ lp, 0 ≤ m.dir) (hq : ∀ m ∈ lq, 0 ≤ m.dir) :
    Calls Try.prog 8 #[.slice Ap lp.length cp, .slice Aq lq.length cq, c.val, .int .i64 n] w fun e w' => e = .returned (.bool true) ∧ Ext w w' := by
  have HP := Lib.hid hP
  have HQ := Lib.hid hQ
  have CA := Lib.hid (fun w => alive_any w)
  clear hP hQ
  have hE0 := ((Ext.refl w).alloc (.cells #[.int .i64 c.turns, .int .i64 c.shift, .int .i64 c.elastic, .int .i64 c.reach, .int .i64 c.spread] 38))
  by_cases hn : lp.length ≤ 6 ∧ lq.length ≤ 6
  · obtain ⟨hnp0, hnq0⟩ := hn
    have hnp : lp.length ≤ 100 := by omega
    have hnq : lq.length ≤ 100 := by omega
    have g6 : decide ((6 : Int) < ((lp.length : Nat) : Int)) = false := by simp; omega
    have k6 : decide ((6 : Int) < ((lq.length : Nat) : Int)) = false := by simp; omega
    have g6' : decide (6 < lp.length) = false := by simp; omega
    have k6' : decide (6 < lq.length) = false := by simp; omega
    have CK := Lib.hid (fun A A' n n' w h1 h2 => askedL_any c lp lq hnp hnq A A' n n' w h1 h2)
    cases h1 : okP lp && okP lq && okC c
    · rw [h1] at CK
      clear hp hq h1
      go_enter Try.func8, Try.ntmps8
      go_wp2_with fail
      refine Calls.ext (CA.out _) fun z1 => ?_
      go_wp2_with fail
      have hE1 := hE0.ext z1
      refine Calls.ext (CK.out _ _ _ _ _ (HP.out.grow hE1) (HQ.out.grow hE1)) fun z2 => ?_
      go_wp2_with fail
      go_ret
      exact ⟨rfl, hE1.ext z2⟩
    · have h0 := asked_ok h1
      rw [h1] at CK
      obtain ⟨hokp, -, hc⟩ := askE_ok h0
      have hpo := (okP_ok hokp hp).1
      obtain ⟨T, hT⟩ : ∃ T : Nat, c.turns = T := ⟨c.turns.toNat, by have := hc.turns; omega⟩
      obtain ⟨S, hS⟩ : ∃ S : Nat, c.shift = S := ⟨c.shift.toNat, by have := hc.shift; omega⟩
      have HMV := Lib.hid (fun w => moves_any c T S (by have := hc.turns; omega) (by have := hc.shift; omega) hT hS w)
      generalize movesM T S (2 * T + 1) = L at *
      clear hT hS h1 hokp
      have HC := Lib.hid hc
      have HPO := Lib.hid hpo
      clear hc hpo
      by_cases hb : L.length ≤ 100
      · have hbi : decide ((100 : Int) < (L.length : Nat)) = false := by simp; omega
        have CB1 := Lib.hid (fun A A' k k' w h1 h2 => Best_any c lp lq n hp hq hnp hnq A A' k k' w h1 h2)
        by_cases hr : 0 ≤ n ∧ n ≤ 2000
        · have he : bestE c lp lq n = 0 := by unfold bestE; rw [if_pos h0, inB_iff.2 hr]; rfl
          obtain ⟨-, -, hI, hml, hal⟩ := best_inv hp he
          have hll := left_len hI
          have CG := Lib.hid (fun A A' k k' w h1 h2 => greatest_any c lp lq h0 hp hq hnp hnq A A' k k' w h1 h2)
          obtain ⟨a1, a2⟩ := best_full8 (c := c) h0
          obtain ⟨f1, -⟩ := full_law HC.out HPO.out a2
          have hI2 := (best_inv hp a1).2.2.1
          have CB2 := Lib.hid (fun A A' k k' w h1 h2 => Best_any c lp lq 2000 hp hq hnp hnq A A' k k' w h1 h2)
          have HLAW := Lib.hid (show ∀ M, Most c lp lq M → (scoreS (bestS c lp lq n) ≤ M ∧ M ≤ boundS (bestS c lp lq n)) ∧ scoreS (bestS c lp lq 2000) = M ∧ boundS (bestS c lp lq 2000) = M from fun M hM => ⟨best_most HC.out HPO.out hI hM, by
            have := best_most HC.out HPO.out hI2 hM
            rw [f1] at this
            omega, by
            have := best_most HC.out HPO.out hI2 hM
            rw [f1] at this ⊢
            omega⟩)
          rw [he] at CB1
          rw [a1] at CB2
          have hwf : ∀ x ∈ (bestS c lp lq n).att, x.wf := fun x hx => by
            obtain ⟨h1, h2⟩ := hI.att x hx
            rw [h2]
            exact trK_wf HC.out hnp h1
          have CC := Lib.hid (fun A A' k k' A1 A2 c1 c2 w h1 h2 h3 h4 => CheckBest_any c lp lq hp hq hnp hnq A A' k k' (bestS c lp lq n).att (bestS c lp lq n).left (scoreS (bestS c lp lq n)) (boundS (bestS c lp lq n)) A1 A2 c1 c2 (by omega) (by omega) hwf w h1 h2 h3 h4)
          have hchk : chkE c lp lq ⟨(bestS c lp lq n).att, (bestS c lp lq n).left⟩ (scoreS (bestS c lp lq n)) (boundS (bestS c lp lq n)) = 0 := by
            unfold chkE
            rw [if_pos h0, if_pos (inv_prov hI)]
          rw [hchk] at CC
          have CS := Lib.hid (show ∀ x ∈ (bestS c lp lq n).att, ∀ A A' n n' w, Pts w A lp → Pts w A' lq → Calls Try.prog 21 #[.slice A lp.length n, .slice A' lq.length n', c.val, .agg #[.int .i64 x.mv.turn, .int .i64 x.mv.dx, .int .i64 x.mv.dy], .agg #[.int .i64 x.bd.a, .int .i64 x.bd.b, .int .i64 x.bd.c, .int .i64 x.bd.d]] w fun e w' => e = .returned (.tuple #[.int .i64 x.score, .int .i64 0]) ∧ Ext w w' from fun x hx A A' n n' w h1 h2 => by
            have := Score_any c lp lq x.mv x.bd.f hp hq hnp hnq A A' n n' w h1 h2
            obtain ⟨b1, b2⟩ := best_score HC.out hI hx
            unfold scoreT at this
            rw [if_pos h0, if_pos b1, b2] at this
            exact this)
          have t1 : decide (n < 0) = false := by simp; omega
          have t2 : decide ((2000 : Int) < n) = false := by simp; omega
          clear hchk hwf a2 f1 hI hI2 hml hll he a1 hp hq h0 HC HPO hb hr
          generalize bestS c lp lq n = s at *
          generalize bestS c lp lq 2000 = t at *
          generalize hsc : scoreS s = sc at *
          generalize hbd : boundS s = bd at *
          have E1 := Lib.hid hsc
          have E2 := Lib.hid hbd
          clear hsc hbd
          go_enter Try.func8, Try.ntmps8
          go_wp2_with fail
          refine Calls.ext (CA.out _) fun z1 => ?_
          go_wp2_with fail
          have hE1 := hE0.ext z1
          refine Calls.ext (CK.out _ _ _ _ _ (HP.out.grow hE1) (HQ.out.grow hE1)) fun z2 => ?_
          go_wp2_with fail
          refine calls_slice (HMV.out _) fun A0 n0 z3 _ => ?_
          have HE := Lib.hid ((hE1.ext z2).ext z3)
          have HC := Lib.hid ((((Blk.new w 38 #[.int .i64 c.turns, .int .i64 c.shift, .int .i64 c.elastic, .int .i64 c.reach, .int .i64 c.spread]).ext z1).ext z2).ext z3)
          clear hE1 hE0
          generalize ext (ext (ext (w.alloc (.cells #[.int .i64 c.turns, .int .i64 c.shift, .int .i64 c.elastic, .int .i64 c.reach, .int .i64 c.spread] 38)) z1) z2) z3 = V at *
          have g0 : V.cell? ⟨w.heap.size, 0, none⟩ = some (.int .i64 c.turns) := HC.out.cell 0
          have g1 : V.cell? ⟨w.heap.size, 1, none⟩ = some (.int .i64 c.shift) := HC.out.cell 1
          have g2 : V.cell? ⟨w.heap.size, 2, none⟩ = some (.int .i64 c.elastic) := HC.out.cell 2
          have g3 : V.cell? ⟨w.heap.size, 3, none⟩ = some (.int .i64 c.reach) := HC.out.cell 3
          have g4 : V.cell? ⟨w.heap.size, 4, none⟩ = some (.int .i64 c.spread) := HC.out.cell 4
          have oC := Old.mk (HC.out).lt
          go_wp2_with fail
          refine call_best (CB1.out _ _ _ _ _ (HP.out.grow HE.out) (HQ.out.grow HE.out)) fun A1 c1 B1 d1 z4 hA hL => ?_
          rw [E1.out, E2.out]
          have HE1 := Lib.hid (HE.out.ext z4)
          have HC1 := Lib.hid (HC.out.ext z4)
          have HA := Lib.hid hA
          have HL := Lib.hid hL
          clear hA hL g0 g1 g2 g3 g4 oC HC HE
          generalize ext V z4 = V1 at *
          have g0 : V1.cell? ⟨w.heap.size, 0, none⟩ = some (.int .i64 c.turns) := HC1.out.cell 0
          have g1 : V1.cell? ⟨w.heap.size, 1, none⟩ = some (.int .i64 c.shift) := HC1.out.cell 1
          have g2 : V1.cell? ⟨w.heap.size, 2, none⟩ = some (.int .i64 c.elastic) := HC1.out.cell 2
          have g3 : V1.cell? ⟨w.heap.size, 3, none⟩ = some (.int .i64 c.reach) := HC1.out.cell 3
          have g4 : V1.cell? ⟨w.heap.size, 4, none⟩ = some (.int .i64 c.spread) := HC1.out.cell 4
          have oC := Old.mk (HC1.out).lt
          go_wp2_with fail
          have hx := (Ext.refl V1).alloc (.cells #[.int .i64 sc, .int .i64 bd, .slice A1 s.att.length c1, .slice B1 s.left.length d1] 58)
          have HE2 := Lib.hid (HE1.out.trans hx)
          refine call_most (CG.out _ _ _ _ _ (HP.out.grow HE2.out) (HQ.out.grow HE2.out)) fun M z5 hM => ?_
          obtain ⟨⟨m1, m2⟩, m3, m4⟩ := HLAW.out M hM
          have q1 : decide (M < sc) = false := by simpa using m1
          have q2 : decide (bd < M) = false := by simpa using m2
          have HM3 := Lib.hid m3
          have HM4 := Lib.hid m4
          have hy := hx.ext z5
          have HE3 := Lib.hid (HE2.out.ext z5)
          have HC3 := Lib.hid (HC1.out.grow hy)
          have HR3 := Lib.hid ((Blk.new V1 58 #[.int .i64 sc, .int .i64 bd, .slice A1 s.att.length c1, .slice B1 s.left.length d1]).ext z5)
          have HA3 := Lib.hid (HA.out.grow hy)
          have HL3 := Lib.hid (HL.out.grow hy)
          clear m1 m2 m3 m4 hM hx hy HE2 HC1 HA HL HE1 g0 g1 g2 g3 g4 oC HLAW
          generalize ext (V1.alloc (.cells #[.int .i64 sc, .int .i64 bd, .slice A1 s.att.length c1, .slice B1 s.left.length d1] 58)) z5 = V2 at *
          generalize V1.heap.size = gr at *
          have g0 : V2.cell? ⟨w.heap.size, 0, none⟩ = some (.int .i64 c.turns) := HC3.out.cell 0
          have g1 : V2.cell? ⟨w.heap.size, 1, none⟩ = some (.int .i64 c.shift) := HC3.out.cell 1
          have g2 : V2.cell? ⟨w.heap.size, 2, none⟩ = some (.int .i64 c.elastic) := HC3.out.cell 2
          have g3 : V2.cell? ⟨w.heap.size, 3, none⟩ = some (.int .i64 c.reach) := HC3.out.cell 3
          have g4 : V2.cell? ⟨w.heap.size, 4, none⟩ = some (.int .i64 c.spread) := HC3.out.cell 4
          have oC := Old.mk (HC3.out).lt
          have r0 : V2.cell? ⟨gr, 0, none⟩ = some (.int .i64 sc) := HR3.out.cell 0
          have r1 : V2.cell? ⟨gr, 1, none⟩ = some (.int .i64 bd) := HR3.out.cell 1
          have r2 : V2.cell? ⟨gr, 2, none⟩ = some (.slice A1 s.att.length c1) := HR3.out.cell 2
          have r3 : V2.cell? ⟨gr, 3, none⟩ = some (.slice B1 s.left.length d1) := HR3.out.cell 3
          have oR := Old.mk HR3.out.lt
          go_wp2_with fail
          refine Calls.ext (CC.out _ _ _ _ _ _ _ _ _ (HP.out.grow HE3.out) (HQ.out.grow HE3.out) HA3.out HL3.out) fun z6 => ?_
          have HE4 := Lib.hid (HE3.out.ext z6)
          have HC4 := Lib.hid (HC3.out.ext z6)
          have HR4 := Lib.hid (HR3.out.ext z6)
          have HA4 := Lib.hid (HA3.out.grow (Ext.ext_self V2 z6))
          clear HE3 HC3 HR3 HA3 HL3 g0 g1 g2 g3 g4 oC r0 r1 r2 r3 oR
          generalize ext V2 z6 = V3 at *
          have r2 : V3.cell? ⟨gr, 2, none⟩ = some (.slice A1 s.att.length c1) := HR4.out.cell 2
          have oR := Old.mk HR4.out.lt
          go_wp2_with fail
          clear r2 oR
          go_loopw [98] (fun t wr => ∃ k : Nat, k ≤ s.att.length ∧ t = .int .i64 k ∧ Ext V3 wr) (fun t _ => s.att.length - (intOf t).toNat)
          case atStart => exact ⟨0, Nat.zero_le _, rfl, Ext.refl _⟩
          case round =>
            obtain ⟨k, hk, rfl, hE⟩ := hrel
            have HEr := Lib.hid hE
            have g0 : wr.cell? ⟨w.heap.size, 0, none⟩ = some (.int .i64 c.turns) := (HC4.out.grow hE).cell 0
            have g1 : wr.cell? ⟨w.heap.size, 1, none⟩ = some (.int .i64 c.shift) := (HC4.out.grow hE).cell 1
            have g2 : wr.cell? ⟨w.heap.size, 2, none⟩ = some (.int .i64 c.elastic) := (HC4.out.grow hE).cell 2
            have g3 : wr.cell? ⟨w.heap.size, 3, none⟩ = some (.int .i64 c.reach) := (HC4.out.grow hE).cell 3
            have g4 : wr.cell? ⟨w.heap.size, 4, none⟩ = some (.int .i64 c.spread) := (HC4.out.grow hE).cell 4
            have oC := Old.mk ((HC4.out.grow hE)).lt
            clear hE
            by_cases hlt : k < s.att.length
            · have hki : (k : Int) < s.att.length := by omega
              obtain ⟨x, hx⟩ : ∃ x, s.att[k]? = some x := ⟨_, List.getElem?_eq_getElem hlt⟩
              have CSx := Lib.hid (CS.out x (List.mem_of_getElem? hx))
              rcases HA4.out with hn | ⟨ga, oa, rfl, ha2, hac⟩
              · rw [hn] at hlt; simp at hlt
              have og : Nonempty (Old ga wr) := ⟨Nat.lt_of_lt_of_le ha2 HEr.out.size⟩
              have hcl1 : ∀ j u, x.cellsL[j]? = some u → wr.cell? ⟨ga, oa + k * 8 + j, none⟩ = some u := fun j u hu => by rw [HEr.out.cell (by exact ha2)]; exact hac k x hx j u hu
              have x0 : wr.cell? ⟨ga, oa + k * 8, none⟩ = some (.int .i64 x.mv.turn) := hcl1 0 _ rfl
              have x1 : wr.cell? ⟨ga, oa + k * 8 + 1, none⟩ = some (.int .i64 x.mv.dx) := hcl1 1 _ rfl
              have x2 : wr.cell? ⟨ga, oa + k * 8 + 2, none⟩ = some (.int .i64 x.mv.dy) := hcl1 2 _ rfl
              have x3 : wr.cell? ⟨ga, oa + k * 8 + 3, none⟩ = some (.int .i64 x.bd.a) := hcl1 3 _ rfl
              have x4 : wr.cell? ⟨ga, oa + k * 8 + 4, none⟩ = some (.int .i64 x.bd.b) := hcl1 4 _ rfl
              have x5 : wr.cell? ⟨ga, oa + k * 8 + 5, none⟩ = some (.int .i64 x.bd.c) := hcl1 5 _ rfl
              have x6 : wr.cell? ⟨ga, oa + k * 8 + 6, none⟩ = some (.int .i64 x.bd.d) := hcl1 6 _ rfl
              have x7 : wr.cell? ⟨ga, oa + k * 8 + 7, none⟩ = some (.int .i64 x.score) := hcl1 7 _ rfl
              have q3 : (x.score != x.score) = false := by simp
              clear hcl1 hac hx
              go_wp2_with fail
              have hx := HEr.out.alloc (.cells #[.int .i64 x.mv.turn, .int .i64 x.mv.dx, .int .i64 x.mv.dy, .int .i64 x.bd.a, .int .i64 x.bd.b, .int .i64 x.bd.c, .int .i64 x.bd.d, .int .i64 x.score] 46)
              have hxx := HE4.out.trans hx
              refine Calls.ext (CSx.out _ _ _ _ _ (HP.out.grow hxx) (HQ.out.grow hxx)) fun z7 => ?_
              go_wp2_with fail
              exact ⟨⟨k + 1, by omega, by go_num, hx.ext z7⟩, by simp [intOf]; omega⟩
            · obtain rfl : k = s.att.length := by omega
              go_wp2_with fail
              have HE5 := Lib.hid (HE4.out.trans HEr.out)
              refine call_best (CB2.out _ _ _ _ _ (HP.out.grow HE5.out) (HQ.out.grow HE5.out)) fun A2 c2 B2 d2 z8 _ _ => ?_
              rw [HM3.out, HM4.out]
              have q4 : (M == M) = true := by simp
              go_wp2_with fail
              go_ret
              exact ⟨rfl, (HE5.out.ext z8).alloc _⟩
        · have he : bestE c lp lq n = 2 := by
            unfold bestE
            rw [if_pos h0]
            cases h : inB n 0 2000
            · rfl
            · exact absurd (inB_iff.1 h) hr
          rw [he] at CB1
          have hbd : decide (n < 0) = true ∨ decide (n < 0) = false ∧ decide ((2000 : Int) < n) = true := by
            by_cases h : n < 0
            · exact .inl (by simpa using h)
            · exact .inr ⟨by simpa using h, by simp; omega⟩
          clear he hr hp hq h0 HC HPO hb
          generalize bestS c lp lq n = s at *
          generalize hsc : scoreS s = sc at *
          generalize hbd2 : boundS s = bd at *
          have E1 := Lib.hid hsc
          have E2 := Lib.hid hbd2
          clear hsc hbd2
          rcases hbd with t1 | ⟨t1, t2⟩
          all_goals
            go_enter Try.func8, Try.ntmps8
            go_wp2_with fail
            refine Calls.ext (CA.out _) fun z1 => ?_
            go_wp2_with fail
            have hE1 := hE0.ext z1
            refine Calls.ext (CK.out _ _ _ _ _ (HP.out.grow hE1) (HQ.out.grow hE1)) fun z2 => ?_
            go_wp2_with fail
            refine calls_slice (HMV.out _) fun A0 n0 z3 _ => ?_
            go_wp2_with fail
            have hE2 := ((hE1.ext z2).ext z3)
            refine call_best (CB1.out _ _ _ _ _ (HP.out.grow hE2) (HQ.out.grow hE2)) fun A1 c1 B1 d1 z4 _ _ => ?_
            rw [E1.out, E2.out]
            go_wp2_with fail
            go_ret
            exact ⟨rfl, (hE2.ext z4).alloc _⟩
      · have hbi : decide ((100 : Int) < (L.length : Nat)) = true := by simp; omega
        clear hb hp hq h0 HC HPO
        go_enter Try.func8, Try.ntmps8
        go_wp2_with fail
        refine Calls.ext (CA.out _) fun z1 => ?_
        go_wp2_with fail
        have hE1 := hE0.ext z1
        refine Calls.ext (CK.out _ _ _ _ _ (HP.out.grow hE1) (HQ.out.grow hE1)) fun z2 => ?_
        go_wp2_with fail
        refine calls_slice (HMV.out _) fun A0 n0 z3 _ => ?_
        go_wp2_with fail
        go_ret
        exact ⟨rfl, (hE1.ext z2).ext z3⟩
  · by_cases hnp : lp.length ≤ 6
    · have hnp' : ((lp.length : Nat) : Int) ≤ 6 := by omega
      have hnq' : (6 : Int) < ((lq.length : Nat) : Int) := by omega
      clear hn hp hq
      go_enter Try.func8, Try.ntmps8
      go_wp2_with fail
      refine Calls.ext (CA.out _) fun z1 => ?_
      go_wp2_with fail
      go_ret
      exact ⟨rfl, hE0.ext z1⟩
    · have hnp' : (6 : Int) < ((lp.length : Nat) : Int) := by omega
      clear hn hp hq
      go_enter Try.func8, Try.ntmps8
      go_wp2_with fail
      refine Calls.ext (CA.out _) fun z1 => ?_
      go_wp2_with fail
      go_ret
      exact ⟨rfl, hE0.ext z1⟩
set_option maxRecDepth 100000 in
theorem alignBest_lifted (os : Os) (started : os.Started) (H : Type) (enc : TypeId × Value → H) :
    ReturnsInHanded {} Try.checked os 8 .any (Rows.alignBestSpec.pre6 enc Try.prog Try.f8 Rows.alignBestRow.domain false) (Rows.alignBestSpec.post enc Try.prog Try.f8 false true false false) := by
  refine returnsInHanded_of_change (C := Try.checked) own started (by kernel_rfl) Try.func8
    (ChangeSpec.witness6 (enc := enc) (C := Try.checked) false ⟨#[], #[.slice none 0 0, .slice none 0 0, .agg #[.int .i64 0, .int .i64 0, .int .i64 0, .int .i64 0, .int .i64 0], .int .i64 0], []⟩ 8 (by kernel_rfl) (by kernel_rfl) (by kernel_rfl) (by kernel_rfl)) ?_
  intro W base args ds gs before hval0 hW hcnd _
  have hval : ∀ (j : Nat) t v, Try.f8.params[j]? = some t → args[j]? = some v → Value.okWide Try.prog W .any base t v := hval0
  have hW' := hW
  obtain ⟨p, q, hA0, hV, rfl, hfz, hnd⟩ := hW
  have hA : DataW.TrodAll enc Try.prog W 0 (fun _ => true) true Try.f8.params.toList args.toList ds p := hA0
  rw [Try.params8] at hA hval
  obtain ⟨v0, vs0, d0, ds0, p0, q0, hargs, rfl, rfl, h0, r0⟩ := trodAll_cons hA
  obtain ⟨v1, vs1, d1, ds1, p1, q1, rfl, rfl, rfl, h1, r1⟩ := trodAll_cons r0
  obtain ⟨v2, vs2, d2, ds2, p2, q2, rfl, rfl, rfl, h2, r2⟩ := trodAll_cons r1
  obtain ⟨v3, vs3, d3, ds3, p3, q3, rfl, rfl, rfl, h3, r3⟩ := trodAll_cons r2
  obtain ⟨rfl, rfl, rfl⟩ := trodAll_nil r3
  obtain rfl : args = #[v0, v1, v2, v3] := by cases args; simp_all
  obtain ⟨rfl, rfl⟩ := trodVars_none hV
  have k0 := h0
  have lt0 : ∀ x ∈ p0, x.block < W.heap.size := by obtain ⟨m, hm⟩ := k0; exact DataW.trod_lt m _ _ _ hm
  obtain ⟨A0, rows0, cap0, rfl, hlc0, hcm0, hwf0, hrow0⟩ := open_rows (ks := [.i64, .i64, .u8, .u8]) Try.underlying22 Try.underlying24 (by kernel_rfl) (by kernel_rfl) (kindsOf_of (by kernel_rfl)) (by decide) (hval 0 22 v0 rfl rfl) h0
  have k1 := h1
  have lt1 : ∀ x ∈ p1, x.block < W.heap.size := by obtain ⟨m, hm⟩ := k1; exact DataW.trod_lt m _ _ _ hm
  obtain ⟨A1, rows1, cap1, rfl, hlc1, hcm1, hwf1, hrow1⟩ := open_rows (ks := [.i64, .i64, .u8, .u8]) Try.underlying22 Try.underlying24 (by kernel_rfl) (by kernel_rfl) (kindsOf_of (by kernel_rfl)) (by decide) (hval 1 22 v1 rfl rfl) h1
  have k2 := h2
  have lt2 : ∀ x ∈ p2, x.block < W.heap.size := by obtain ⟨m, hm⟩ := k2; exact DataW.trod_lt m _ _ _ hm
  obtain ⟨ns2, hl2, hv2, wf2⟩ := open_nums (ks := [.i64, .i64, .i64, .i64, .i64]) Try.underlying38 (by kernel_rfl) (by kernel_rfl) (kindsOf_of (by kernel_rfl)) (hval 2 38 v2 rfl rfl) h2
  have k3 := h3
  have lt3 : ∀ x ∈ p3, x.block < W.heap.size := by obtain ⟨m, hm⟩ := k3; exact DataW.trod_lt m _ _ _ hm
  obtain ⟨a3, rfl, _, _, w3⟩ := open_int Try.underlying3 (hval 3 3 v3 rfl rfl) h3
  clear hA0 hval0
  obtain ⟨l0, hr0, hp0, hk0, hc0⟩ := pts_of_rows hwf0 hrow0 hlc0
  obtain ⟨l1, hr1, hp1, hk1, hc1⟩ := pts_of_rows hwf1 hrow1 hlc1
  obtain ⟨c2, hcl2⟩ := cl_of hl2
  rw [hcl2] at hv2
  subst hv2
  refine (hr0 ▸ hr1 ▸ alignBest_walk A0 A1 cap0 cap1 l0 l1 c2 a3 W hp0 hp1 hk0 hk1).mono fun e W' ⟨he, bel⟩ => ?_
  subst he
  exact ⟨_, rfl, _, _, _, [], _, [], hW', trodAll_mk1 (shut_bool Try.underlying4 _), (trodAll_cons_mk (Below.trod laidOut (by kernel_rfl) (of_decide_eq_true (by kernel_rfl)) k0 bel lt0) (trodAll_cons_mk (Below.trod laidOut (by kernel_rfl) (of_decide_eq_true (by kernel_rfl)) k1 bel lt1) (trodAll_cons_mk (Below.trod laidOut (by kernel_rfl) (of_decide_eq_true (by kernel_rfl)) k2 bel lt2) (trodAll_cons_mk (Below.trod laidOut (by kernel_rfl) (of_decide_eq_true (by kernel_rfl)) k3 bel lt3) trodAll_mk0)))), rfl, Below.frame bel _, fun h => by cases h⟩

theorem alignBest_holds : Rows.AlignBestSaid :=
  OpenClaim.holds_of_wide 8 Try.f8 rfl rfl rfl rfl rfl rfl rfl ⟨rfl, rfl, rfl, rfl, rfl⟩ rfl rfl rfl rfl rfl (by kernel_rfl) Try.func8 (by kernel_rfl)
    (of_decide_eq_true (by kernel_rfl)) (by unfold Func.isWrapper; first | (rw [if_pos (by decide +kernel)]; kernel_rfl) | (rw [if_neg (by decide +kernel)]; exact ⟨rfl, rfl⟩))
    (fun os started H enc _ => alignBest_lifted os started H enc)
end Go.Proofs.Ythejomcibobieaa
