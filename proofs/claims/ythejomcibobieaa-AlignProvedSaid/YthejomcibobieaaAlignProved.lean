/- Proved: for all prints, class and result, the call of whorllaw02.AlignProved returns true and leaves its arguments as they were. No conditions. -/
import Derived.Test.YthejomcibobieaaOuts
import Derived.Test.YthejomcibobieaaAskedL
import Derived.Test.YthejomcibobieaaGreatest
import Derived.Test.YthejomcibobieaaOpenAl
namespace Go.Proofs.Ythejomcibobieaa
open Go.Joins Go.ChangeShapes Go.WideShapes Go.RowKit Go.Deep Go.ChangeAt

theorem call_most {P : Program} {f : FuncId} {args : Array Value} {c : Cl} {lp lq : List Mi} {w : World} {R : Ending → World → Prop} (h : Calls P f args w fun e w' => ∃ M, Most c lp lq M ∧ e = .returned (.tuple #[.int .i64 M, .bool true]) ∧ Ext w w') (hR : ∀ M z, Most c lp lq M → R (.returned (.tuple #[.int .i64 M, .bool true])) (ext w z)) : Calls P f args w R :=
  h.mono fun e w' ⟨M, h1, he, hw⟩ => by
    subst he
    have := hR M w' h1
    rw [ext_of hw] at this
    exact this
theorem best_most {c : Cl} (hc : c.ok) {lp lq : List Mi} (hpo : ∀ m ∈ lp, m.ok) {s : St} (hI : Inv c (bndK c lp lq) (trK c lp lq) s) {M : Int} (h : Most c lp lq M) : scoreS s ≤ M ∧ M ≤ boundS s := by
  obtain ⟨h1, h2, h3⟩ := h
  have P := prom hc lp lq hpo
  constructor
  · rcases inv_score hI with e | ⟨v, hv, e⟩
    · omega
    · have := h2 v (trK c lp lq v).bd hv (trK_bend hc lp lq v)
      obtain ⟨-, -, -, -, h4, -⟩ := trK_best hc lp lq v
      omega
  · rcases h3 with rfl | ⟨v, b, hv, hb, rfl⟩
    · have h5 : scoreS s ≤ boundS s := topR_ge0 _ _
      have h6 : 0 ≤ scoreS s := topA_nonneg _
      omega
    · have h4 := (trK_best hc lp lq v).1 b hb
      have h5 := inv_le P hI hv
      omega
theorem inv_of_prov {c : Cl} {bnd : Bk → Int} {tr : Mv → At} {s : St} {sc bd : Int} (h : provB c bnd tr s sc bd = true) : Inv c bnd tr s ∧ sc = scoreS s ∧ bd = boundS s := by
  obtain ⟨h1, h2, h3, h4, h5⟩ := provB_iff.1 h
  have a1 : ∀ a ∈ s.att, isMove c a.mv = true ∧ a = tr a.mv := fun a ha => by
    have := h1 a ha
    simpa [okA] using this
  have a2 : ∀ r ∈ s.left, isBlk c r.bk = true ∧ r.bound = bnd r.bk := fun r hr => by
    have := h2 r hr
    simpa [okR] using this
  refine ⟨⟨a1, a2, fun v => ?_⟩, h4, h5⟩
  cases hv : isMove c v
  · have e1 : s.att.countP (fun a => decide (a.mv = v)) = 0 := by
      rw [List.countP_eq_zero]
      intro a ha he
      obtain rfl : a.mv = v := by simpa using he
      rw [(a1 a ha).1] at hv
      cases hv
    have e2 : s.left.countP (fun r => hasB r.bk v) = 0 := by
      rw [List.countP_eq_zero]
      intro r hr he
      have hk := isBlk_iff.1 (a2 r hr).1
      have hb := hasB_iff.1 he
      have : isMove c v = true := by rw [isMove_iff]; omega
      rw [this] at hv
      cases hv
    unfold cov
    rw [e1, e2]; rfl
  · rw [h3 v hv]; rfl
set_option maxRecDepth 100000 in
set_option maxHeartbeats 2000000 in
theorem great_any (sc bd : Int) (A1 A2 : Option Addr) (n1 n2 c1 c2 : Nat) (w : World) : Calls Try.prog 28 #[.agg #[.int .i64 sc, .int .i64 bd, .slice A1 n1 c1, .slice A2 n2 c2]] w fun e w' => e = .returned (.bool (decide (700 < n1) || decide (700 < n2))) ∧ Ext w w' := by
  by_cases h1 : 700 < n1
  · have g1 : decide ((700 : Int) < (n1 : Int)) = true := by simp; omega
    have H := Lib.hid (show (decide (700 < n1) || decide (700 < n2)) = true by simp [h1])
    go_enter Try.func28, Try.ntmps28
    go_wp2_with fail
    go_ret
    exact ⟨ret_of (by rw [H.out]; rfl), (Ext.refl w).alloc _⟩
  · have g1 : decide ((700 : Int) < (n1 : Int)) = false := by simp; omega
    by_cases h2 : 700 < n2
    · have g2 : decide ((700 : Int) < (n2 : Int)) = true := by simp; omega
      have H := Lib.hid (show (decide (700 < n1) || decide (700 < n2)) = true by simp [h2])
      go_enter Try.func28, Try.ntmps28
      go_wp2_with fail
      go_ret
      exact ⟨ret_of (by rw [H.out]; rfl), (Ext.refl w).alloc _⟩
    · have g2 : decide ((700 : Int) < (n2 : Int)) = false := by simp; omega
      have H := Lib.hid (show (decide (700 < n1) || decide (700 < n2)) = false by simp; omega)
      go_enter Try.func28, Try.ntmps28
      go_wp2_with fail
      go_ret
      exact ⟨ret_of (by rw [H.out]; rfl), (Ext.refl w).alloc _⟩
set_option maxRecDepth 100000 in
set_option maxHeartbeats 16000000 in
theorem alignProved_walk (Ap Aq : Option Addr) (cp cq : Nat) (lp lq : List Mi) (c : Cl) (sc bd : Int) (A1 A2 : Option Addr) (att : List At) (left : List Rs) (c1 c2 : Nat) (w : World) (hP : Pts w Ap lp) (hQ : Pts w Aq lq) (hp : ∀ m ∈ lp, 0 ≤ m.dir) (hq : ∀ m ∈ lq, 0 ≤ m.dir) (hwf : ∀ x ∈ att, x.wf) (hA : Ats w A1 att) (hL : Rss w A2 left) :
    Calls Try.prog 9 #[.slice Ap lp.length cp, .slice Aq lq.length cq, c.val, .agg #[.int .i64 sc, .int .i64 bd, .slice A1 att.length c1, .slice A2 left.length c2]] w fun e w' => e = .returned (.bool true) ∧ Ext w w' := by
  have HP := Lib.hid hP
  have HQ := Lib.hid hQ
  have HA := Lib.hid hA
  have HL := Lib.hid hL
  have CA := Lib.hid (fun w => alive_any w)
  clear hP hQ hA hL
  have hE0 := (((Ext.refl w).alloc (.cells #[.int .i64 c.turns, .int .i64 c.shift, .int .i64 c.elastic, .int .i64 c.reach, .int .i64 c.spread] 38)).alloc (.cells #[.int .i64 sc, .int .i64 bd, .slice A1 att.length c1, .slice A2 left.length c2] 58))
  by_cases hn : lp.length ≤ 6 ∧ lq.length ≤ 6
  · obtain ⟨hnp0, hnq0⟩ := hn
    have hnp : lp.length ≤ 100 := by omega
    have hnq : lq.length ≤ 100 := by omega
    have g6 : decide ((6 : Int) < ((lp.length : Nat) : Int)) = false := by simp; omega
    have k6 : decide ((6 : Int) < ((lq.length : Nat) : Int)) = false := by simp; omega
    have g6' : decide (6 < lp.length) = false := by simp; omega
    have k6' : decide (6 < lq.length) = false := by simp; omega
    have CGr := Lib.hid (fun w => great_any sc bd A1 A2 att.length left.length c1 c2 w)
    cases hgr : (decide (700 < att.length) || decide (700 < left.length))
    · rw [hgr] at CGr
      have hna : att.length ≤ 2000 ∧ left.length ≤ 2000 := by simp at hgr; omega
      clear hgr
      have CK := Lib.hid (fun A A' n n' w h1 h2 => askedL_any c lp lq hnp hnq A A' n n' w h1 h2)
      cases h1 : okP lp && okP lq && okC c
      · rw [h1] at CK
        clear hp hq h1 hwf hna
        go_enter Try.func9, Try.ntmps9
        go_wp2_with fail
        refine Calls.ext (CA.out _) fun z1 => ?_
        go_wp2_with fail
        have hE1 := hE0.ext z1
        refine Calls.ext (CGr.out _) fun z2 => ?_
        go_wp2_with fail
        have hE2 := hE1.ext z2
        refine Calls.ext (CK.out _ _ _ _ _ (HP.out.grow hE2) (HQ.out.grow hE2)) fun z3 => ?_
        go_wp2_with fail
        have hE3 := hE2.ext z3
        go_ret
        exact ⟨rfl, hE3⟩
      · have h0 := asked_ok h1
        rw [h1] at CK
        obtain ⟨hokp, -, hc⟩ := askE_ok h0
        have hpo := (okP_ok hokp hp).1
        obtain ⟨T, hT⟩ : ∃ T : Nat, c.turns = T := ⟨c.turns.toNat, by have := hc.turns; omega⟩
        obtain ⟨S, hS⟩ : ∃ S : Nat, c.shift = S := ⟨c.shift.toNat, by have := hc.shift; omega⟩
        have HMV := Lib.hid (fun w => moves_any c T S (by have := hc.turns; omega) (by have := hc.shift; omega) hT hS w)
        generalize movesM T S (2 * T + 1) = L at *
        clear hT hS h1 hokp
        have HC := Lib.hid hc
        have HPO := Lib.hid hpo
        clear hc hpo
        by_cases hb : L.length ≤ 100
        · have hbi : decide ((100 : Int) < (L.length : Nat)) = false := by simp; omega
          have CC := Lib.hid (fun A A' k k' w h1 h2 h3 h4 => CheckBest_any c lp lq hp hq hnp hnq A A' k k' att left sc bd A1 A2 c1 c2 hna.1 hna.2 hwf w h1 h2 h3 h4)
          cases hpr : provB c (bndK c lp lq) (trK c lp lq) ⟨att, left⟩ sc bd
          · have hchk : chkE c lp lq ⟨att, left⟩ sc bd = 21 := by unfold chkE; rw [if_pos h0, hpr]; rfl
            rw [hchk] at CC
            clear hchk hpr hp hq h0 HC HPO hb hwf hna
            go_enter Try.func9, Try.ntmps9
            go_wp2_with fail
            refine Calls.ext (CA.out _) fun z1 => ?_
            go_wp2_with fail
            have hE1 := hE0.ext z1
            refine Calls.ext (CGr.out _) fun z2 => ?_
            go_wp2_with fail
            have hE2 := hE1.ext z2
            refine Calls.ext (CK.out _ _ _ _ _ (HP.out.grow hE2) (HQ.out.grow hE2)) fun z3 => ?_
            go_wp2_with fail
            have hE3 := hE2.ext z3
            refine calls_slice (HMV.out _) fun A0 n0 z4 _ => ?_
            have HE := Lib.hid (hE3.ext z4)
            have HB := Lib.hid ((((((Blk.new w 38 #[.int .i64 c.turns, .int .i64 c.shift, .int .i64 c.elastic, .int .i64 c.reach, .int .i64 c.spread]).alloc (.cells #[.int .i64 sc, .int .i64 bd, .slice A1 att.length c1, .slice A2 left.length c2] 58)).ext z1).ext z2).ext z3).ext z4)
            have HR := Lib.hid (((((Blk.new' (w.alloc (.cells #[.int .i64 c.turns, .int .i64 c.shift, .int .i64 c.elastic, .int .i64 c.reach, .int .i64 c.spread] 38)) 58 #[.int .i64 sc, .int .i64 bd, .slice A1 att.length c1, .slice A2 left.length c2] (w.heap.size + 1) (by simp)).ext z1).ext z2).ext z3).ext z4)
            clear hE0 hE1 hE2 hE3
            generalize ext (ext (ext (ext ((w.alloc (.cells #[.int .i64 c.turns, .int .i64 c.shift, .int .i64 c.elastic, .int .i64 c.reach, .int .i64 c.spread] 38)).alloc (.cells #[.int .i64 sc, .int .i64 bd, .slice A1 att.length c1, .slice A2 left.length c2] 58)) z1) z2) z3) z4 = V at *
            have g0 : V.cell? ⟨w.heap.size, 0, none⟩ = some (.int .i64 c.turns) := HB.out.cell 0
            have g1 : V.cell? ⟨w.heap.size, 1, none⟩ = some (.int .i64 c.shift) := HB.out.cell 1
            have g2 : V.cell? ⟨w.heap.size, 2, none⟩ = some (.int .i64 c.elastic) := HB.out.cell 2
            have g3 : V.cell? ⟨w.heap.size, 3, none⟩ = some (.int .i64 c.reach) := HB.out.cell 3
            have g4 : V.cell? ⟨w.heap.size, 4, none⟩ = some (.int .i64 c.spread) := HB.out.cell 4
            have oC := Old.mk (HB.out).lt
            have r0 : V.cell? ⟨w.heap.size + 1, 0, none⟩ = some (.int .i64 sc) := HR.out.cell 0
            have r1 : V.cell? ⟨w.heap.size + 1, 1, none⟩ = some (.int .i64 bd) := HR.out.cell 1
            have r2 : V.cell? ⟨w.heap.size + 1, 2, none⟩ = some (.slice A1 att.length c1) := HR.out.cell 2
            have r3 : V.cell? ⟨w.heap.size + 1, 3, none⟩ = some (.slice A2 left.length c2) := HR.out.cell 3
            have oR := Old.mk (HR.out).lt
            go_wp2_with fail
            refine Calls.ext (CC.out _ _ _ _ _ (HP.out.grow HE.out) (HQ.out.grow HE.out) (HA.out.grow HE.out) (HL.out.grow HE.out)) fun z5 => ?_
            go_wp2_with fail
            go_ret
            exact ⟨rfl, HE.out.ext z5⟩
          · have hchk : chkE c lp lq ⟨att, left⟩ sc bd = 0 := by unfold chkE; rw [if_pos h0, hpr]; rfl
            rw [hchk] at CC
            obtain ⟨hI, s1, s2⟩ := inv_of_prov hpr
            have HM := Lib.hid (show ∀ M, Most c lp lq M → sc ≤ M ∧ M ≤ bd from fun M hM => by rw [s1, s2]; exact best_most HC.out HPO.out hI hM)
            have CG := Lib.hid (fun A A' k k' w h1 h2 => greatest_any c lp lq h0 hp hq hnp hnq A A' k k' w h1 h2)
            clear hchk hpr hp hq h0 HC HPO hb hwf hna hI s1 s2
            go_enter Try.func9, Try.ntmps9
            go_wp2_with fail
            refine Calls.ext (CA.out _) fun z1 => ?_
            go_wp2_with fail
            have hE1 := hE0.ext z1
            refine Calls.ext (CGr.out _) fun z2 => ?_
            go_wp2_with fail
            have hE2 := hE1.ext z2
            refine Calls.ext (CK.out _ _ _ _ _ (HP.out.grow hE2) (HQ.out.grow hE2)) fun z3 => ?_
            go_wp2_with fail
            have hE3 := hE2.ext z3
            refine calls_slice (HMV.out _) fun A0 n0 z4 _ => ?_
            have HE := Lib.hid (hE3.ext z4)
            have HB := Lib.hid ((((((Blk.new w 38 #[.int .i64 c.turns, .int .i64 c.shift, .int .i64 c.elastic, .int .i64 c.reach, .int .i64 c.spread]).alloc (.cells #[.int .i64 sc, .int .i64 bd, .slice A1 att.length c1, .slice A2 left.length c2] 58)).ext z1).ext z2).ext z3).ext z4)
            have HR := Lib.hid (((((Blk.new' (w.alloc (.cells #[.int .i64 c.turns, .int .i64 c.shift, .int .i64 c.elastic, .int .i64 c.reach, .int .i64 c.spread] 38)) 58 #[.int .i64 sc, .int .i64 bd, .slice A1 att.length c1, .slice A2 left.length c2] (w.heap.size + 1) (by simp)).ext z1).ext z2).ext z3).ext z4)
            clear hE0 hE1 hE2 hE3
            generalize ext (ext (ext (ext ((w.alloc (.cells #[.int .i64 c.turns, .int .i64 c.shift, .int .i64 c.elastic, .int .i64 c.reach, .int .i64 c.spread] 38)).alloc (.cells #[.int .i64 sc, .int .i64 bd, .slice A1 att.length c1, .slice A2 left.length c2] 58)) z1) z2) z3) z4 = V at *
            have g0 : V.cell? ⟨w.heap.size, 0, none⟩ = some (.int .i64 c.turns) := HB.out.cell 0
            have g1 : V.cell? ⟨w.heap.size, 1, none⟩ = some (.int .i64 c.shift) := HB.out.cell 1
            have g2 : V.cell? ⟨w.heap.size, 2, none⟩ = some (.int .i64 c.elastic) := HB.out.cell 2
            have g3 : V.cell? ⟨w.heap.size, 3, none⟩ = some (.int .i64 c.reach) := HB.out.cell 3
            have g4 : V.cell? ⟨w.heap.size, 4, none⟩ = some (.int .i64 c.spread) := HB.out.cell 4
            have oC := Old.mk (HB.out).lt
            have r0 : V.cell? ⟨w.heap.size + 1, 0, none⟩ = some (.int .i64 sc) := HR.out.cell 0
            have r1 : V.cell? ⟨w.heap.size + 1, 1, none⟩ = some (.int .i64 bd) := HR.out.cell 1
            have r2 : V.cell? ⟨w.heap.size + 1, 2, none⟩ = some (.slice A1 att.length c1) := HR.out.cell 2
            have r3 : V.cell? ⟨w.heap.size + 1, 3, none⟩ = some (.slice A2 left.length c2) := HR.out.cell 3
            have oR := Old.mk (HR.out).lt
            go_wp2_with fail
            refine Calls.ext (CC.out _ _ _ _ _ (HP.out.grow HE.out) (HQ.out.grow HE.out) (HA.out.grow HE.out) (HL.out.grow HE.out)) fun z5 => ?_
            go_wp2_with fail
            have hE5 := HE.out.ext z5
            refine call_most (CG.out _ _ _ _ _ (HP.out.grow hE5) (HQ.out.grow hE5)) fun M z6 hM => ?_
            have q1 : decide (sc ≤ M) = true := by simpa using (HM.out M hM).1
            have q2 : decide (M ≤ bd) = true := by simpa using (HM.out M hM).2
            go_wp2_with fail
            go_ret
            exact ⟨rfl, hE5.ext z6⟩
        · have hbi : decide ((100 : Int) < (L.length : Nat)) = true := by simp; omega
          clear hb hp hq h0 HC HPO hwf hna
          go_enter Try.func9, Try.ntmps9
          go_wp2_with fail
          refine Calls.ext (CA.out _) fun z1 => ?_
          go_wp2_with fail
          have hE1 := hE0.ext z1
          refine Calls.ext (CGr.out _) fun z2 => ?_
          go_wp2_with fail
          have hE2 := hE1.ext z2
          refine Calls.ext (CK.out _ _ _ _ _ (HP.out.grow hE2) (HQ.out.grow hE2)) fun z3 => ?_
          go_wp2_with fail
          have hE3 := hE2.ext z3
          refine calls_slice (HMV.out _) fun A0 n0 z4 _ => ?_
          go_wp2_with fail
          go_ret
          exact ⟨rfl, hE3.ext z4⟩
    · rw [hgr] at CGr
      clear hgr hp hq hwf
      go_enter Try.func9, Try.ntmps9
      go_wp2_with fail
      refine Calls.ext (CA.out _) fun z1 => ?_
      go_wp2_with fail
      have hE1 := hE0.ext z1
      refine Calls.ext (CGr.out _) fun z2 => ?_
      go_wp2_with fail
      have hE2 := hE1.ext z2
      go_ret
      exact ⟨rfl, hE2⟩
  · by_cases hnp : lp.length ≤ 6
    · have hnp' : ((lp.length : Nat) : Int) ≤ 6 := by omega
      have hnq' : (6 : Int) < ((lq.length : Nat) : Int) := by omega
      clear hn hp hq hwf
      go_enter Try.func9, Try.ntmps9
      go_wp2_with fail
      refine Calls.ext (CA.out _) fun z1 => ?_
      go_wp2_with fail
      go_ret
      exact ⟨rfl, hE0.ext z1⟩
    · have hnp' : (6 : Int) < ((lp.length : Nat) : Int) := by omega
      clear hn hp hq hwf
      go_enter Try.func9, Try.ntmps9
      go_wp2_with fail
      refine Calls.ext (CA.out _) fun z1 => ?_
      go_wp2_with fail
      go_ret
      exact ⟨rfl, hE0.ext z1⟩
set_option maxRecDepth 100000 in
theorem alignProved_lifted (os : Os) (started : os.Started) (H : Type) (enc : TypeId × Value → H) :
    ReturnsInHanded {} Try.checked os 9 .any (Rows.alignProvedSpec.pre6 enc Try.prog Try.f9 Rows.alignProvedRow.domain false) (Rows.alignProvedSpec.post enc Try.prog Try.f9 false true false false) := by
  refine returnsInHanded_of_change (C := Try.checked) own started (by kernel_rfl) Try.func9
    (ChangeSpec.witness6 (enc := enc) (C := Try.checked) false ⟨#[], #[.slice none 0 0, .slice none 0 0, .agg #[.int .i64 0, .int .i64 0, .int .i64 0, .int .i64 0, .int .i64 0], .agg #[.int .i64 0, .int .i64 0, .slice none 0 0, .slice none 0 0]], []⟩ 8 (by kernel_rfl) (by kernel_rfl) (by kernel_rfl) (by kernel_rfl)) ?_
  intro W base args ds gs before hval0 hW hcnd _
  have hval : ∀ (j : Nat) t v, Try.f9.params[j]? = some t → args[j]? = some v → Value.okWide Try.prog W .any base t v := hval0
  have hW' := hW
  obtain ⟨p, q, hA0, hV, rfl, hfz, hnd⟩ := hW
  have hA : DataW.TrodAll enc Try.prog W 0 (fun _ => true) true Try.f9.params.toList args.toList ds p := hA0
  rw [Try.params9] at hA hval
  obtain ⟨v0, vs0, d0, ds0, p0, q0, hargs, rfl, rfl, h0, r0⟩ := trodAll_cons hA
  obtain ⟨v1, vs1, d1, ds1, p1, q1, rfl, rfl, rfl, h1, r1⟩ := trodAll_cons r0
  obtain ⟨v2, vs2, d2, ds2, p2, q2, rfl, rfl, rfl, h2, r2⟩ := trodAll_cons r1
  obtain ⟨v3, vs3, d3, ds3, p3, q3, rfl, rfl, rfl, h3, r3⟩ := trodAll_cons r2
  obtain ⟨rfl, rfl, rfl⟩ := trodAll_nil r3
  obtain rfl : args = #[v0, v1, v2, v3] := by cases args; simp_all
  obtain ⟨rfl, rfl⟩ := trodVars_none hV
  have k0 := h0
  have lt0 : ∀ x ∈ p0, x.block < W.heap.size := by obtain ⟨m, hm⟩ := k0; exact DataW.trod_lt m _ _ _ hm
  obtain ⟨A0, rows0, cap0, rfl, hlc0, hcm0, hwf0, hrow0⟩ := open_rows (ks := [.i64, .i64, .u8, .u8]) Try.underlying22 Try.underlying24 (by kernel_rfl) (by kernel_rfl) (kindsOf_of (by kernel_rfl)) (by decide) (hval 0 22 v0 rfl rfl) h0
  have k1 := h1
  have lt1 : ∀ x ∈ p1, x.block < W.heap.size := by obtain ⟨m, hm⟩ := k1; exact DataW.trod_lt m _ _ _ hm
  obtain ⟨A1, rows1, cap1, rfl, hlc1, hcm1, hwf1, hrow1⟩ := open_rows (ks := [.i64, .i64, .u8, .u8]) Try.underlying22 Try.underlying24 (by kernel_rfl) (by kernel_rfl) (kindsOf_of (by kernel_rfl)) (by decide) (hval 1 22 v1 rfl rfl) h1
  have k2 := h2
  have lt2 : ∀ x ∈ p2, x.block < W.heap.size := by obtain ⟨m, hm⟩ := k2; exact DataW.trod_lt m _ _ _ hm
  obtain ⟨ns2, hl2, hv2, wf2⟩ := open_nums (ks := [.i64, .i64, .i64, .i64, .i64]) Try.underlying38 (by kernel_rfl) (by kernel_rfl) (kindsOf_of (by kernel_rfl)) (hval 2 38 v2 rfl rfl) h2
  have k3 := h3
  have lt3 : ∀ x ∈ p3, x.block < W.heap.size := by obtain ⟨m, hm⟩ := k3; exact DataW.trod_lt m _ _ _ hm
  obtain ⟨sc3, bd3, AA3, att3, ca3, AL3, left3, cl3, rfl, wsc3, wbd3, lca3, lcl3, wfa3, wfl3, ats3, rss3⟩ := open_al (hval 3 58 v3 rfl rfl) h3
  clear hA0 hval0
  obtain ⟨l0, hr0, hp0, hk0, hc0⟩ := pts_of_rows hwf0 hrow0 hlc0
  obtain ⟨l1, hr1, hp1, hk1, hc1⟩ := pts_of_rows hwf1 hrow1 hlc1
  obtain ⟨c2, hcl2⟩ := cl_of hl2
  rw [hcl2] at hv2
  subst hv2
  refine (hr0 ▸ hr1 ▸ alignProved_walk A0 A1 cap0 cap1 l0 l1 c2 sc3 bd3 AA3 AL3 att3 left3 ca3 cl3 W hp0 hp1 hk0 hk1 wfa3 ats3 rss3).mono fun e W' ⟨he, bel⟩ => ?_
  subst he
  exact ⟨_, rfl, _, _, _, [], _, [], hW', trodAll_mk1 (shut_bool Try.underlying4 _), (trodAll_cons_mk (Below.trod laidOut (by kernel_rfl) (of_decide_eq_true (by kernel_rfl)) k0 bel lt0) (trodAll_cons_mk (Below.trod laidOut (by kernel_rfl) (of_decide_eq_true (by kernel_rfl)) k1 bel lt1) (trodAll_cons_mk (Below.trod laidOut (by kernel_rfl) (of_decide_eq_true (by kernel_rfl)) k2 bel lt2) (trodAll_cons_mk (Below.trod laidOut (by kernel_rfl) (of_decide_eq_true (by kernel_rfl)) k3 bel lt3) trodAll_mk0)))), rfl, Below.frame bel _, fun h => by cases h⟩

theorem alignProved_holds : Rows.AlignProvedSaid :=
  OpenClaim.holds_of_wide 9 Try.f9 rfl rfl rfl rfl rfl rfl rfl ⟨rfl, rfl, rfl, rfl, rfl⟩ rfl rfl rfl rfl rfl (by kernel_rfl) Try.func9 (by kernel_rfl)
    (of_decide_eq_true (by kernel_rfl)) (by unfold Func.isWrapper; first | (rw [if_pos (by decide +kernel)]; kernel_rfl) | (rw [if_neg (by decide +kernel)]; exact ⟨rfl, rfl⟩))
    (fun os started H enc _ => alignProved_lifted os started H enc)
end Go.Proofs.Ythejomcibobieaa
