/- Proved: for all prints, classes, move and bend, the call of whorllaw02.AlignGrows returns true and leaves its arguments as they were. No conditions. -/
import Derived.Test.YthejomcibobieaaOuts
import Derived.Test.YthejomcibobieaaGrowLaw
import Derived.Test.YthejomcibobieaaAskedL
namespace Go.Proofs.Ythejomcibobieaa
open Go.Joins Go.ChangeShapes Go.WideShapes Go.RowKit Go.Deep Go.ChangeAt

def plusC (c m : Cl) : Cl := ⟨wrap64 (c.turns + m.turns), wrap64 (c.shift + m.shift), wrap64 (c.elastic + m.elastic), wrap64 (c.reach + m.reach), wrap64 (c.spread + m.spread)⟩
theorem plus_le {c m : Cl} (hc : c.ok) (hm : m.ok) : leC c (plusC c m) := by
  have c1 := hc.turns; have c2 := hc.shift; have c3 := hc.elastic; have c4 := hc.reach; have c5 := hc.spread
  have m1 := hm.turns; have m2 := hm.shift; have m3 := hm.elastic; have m4 := hm.reach; have m5 := hm.spread
  constructor <;> (unfold plusC wrap64; dsimp only; omega)
theorem best_full {c : Cl} {lp lq : List Mi} (hp : ∀ m ∈ lp, 0 ≤ m.dir) (h : askE c lp lq = 0) : bestE c lp lq 2000 = 0 ∧ bestS c lp lq 2000 = runS (bndK c lp lq) (trK c lp lq) 2000 (startS (bndK c lp lq) c) := by
  have h1 : bestE c lp lq 2000 = 0 := by unfold bestE; rw [if_pos h]; rfl
  exact ⟨h1, (best_ok h1).2.2.2⟩
theorem grows_score {c d : Cl} (h : leC c d) {lp lq : List Mi} (hc : askE c lp lq = 0) (hd : askE d lp lq = 0) (v : Mv) (b : Nat → Int) :
    ∃ n g m h : Int, scoreT c lp lq v b = .tuple #[.int .i64 n, .int .i64 g] ∧ scoreT d lp lq v b = .tuple #[.int .i64 m, .int .i64 h] ∧ ((g != 0) = true ∨ g = 0 ∧ h = 0 ∧ n ≤ m) := by
  unfold scoreT
  rw [if_pos hc, if_pos hd]
  cases h1 : isMove c v && isBend c.elastic b
  · cases h2 : isMove d v && isBend d.elastic b
    · exact ⟨_, _, _, _, rfl, rfl, .inl rfl⟩
    · exact ⟨_, _, _, _, rfl, rfl, .inl rfl⟩
  · simp only [Bool.and_eq_true] at h1
    rw [h.move h1.1, h.bend h1.2]
    exact ⟨_, _, _, _, rfl, rfl, .inr ⟨rfl, rfl, h.scr lp lq v b⟩⟩
theorem grows_try {c d : Cl} (h : leC c d) (hco : c.ok) (hdo : d.ok) {lp lq : List Mi} (hc : askE c lp lq = 0) (hd : askE d lp lq = 0) (v : Mv) :
    ∃ (x y : At) (i j : Int), tryT c lp lq v = .tuple #[.agg x.cells, .int .i64 i] ∧ tryT d lp lq v = .tuple #[.agg y.cells, .int .i64 j] ∧ ((i != 0) = true ∨ i = 0 ∧ j = 0 ∧ x.score ≤ y.score) := by
  refine ⟨_, _, _, _, rfl, rfl, ?_⟩
  unfold tryE tryA
  rw [if_pos hc, if_pos hd, if_pos hc, if_pos hd]
  cases h1 : isMove c v
  · exact .inl rfl
  · rw [h.move h1]
    exact .inr ⟨rfl, rfl, h.tr hco hdo lp lq v⟩
set_option maxRecDepth 100000 in
set_option maxHeartbeats 16000000 in
theorem alignGrows_walk (Ap Aq : Option Addr) (cp cq : Nat) (lp lq : List Mi) (c more : Cl) (v : Mv) (b : Nat → Int) (w : World) (hP : Pts w Ap lp) (hQ : Pts w Aq lq) (hp : ∀ m ∈ lp, 0 ≤ m.dir) (hq : ∀ m ∈ lq, 0 ≤ m.dir) :
    Calls Try.prog 13 #[.slice Ap lp.length cp, .slice Aq lq.length cq, c.val, more.val, v.val, bendV b] w fun e w' => e = .returned (.bool true) ∧ Ext w w' := by
  have HP := Lib.hid hP
  have HQ := Lib.hid hQ
  have CA := Lib.hid (fun w => alive_any w)
  clear hP hQ
  have hE0 := (((((Ext.refl w).alloc (.cells #[.int .i64 c.turns, .int .i64 c.shift, .int .i64 c.elastic, .int .i64 c.reach, .int .i64 c.spread] 38)).alloc (.cells #[.int .i64 more.turns, .int .i64 more.shift, .int .i64 more.elastic, .int .i64 more.reach, .int .i64 more.spread] 38)).alloc (.cells #[.int .i64 v.turn, .int .i64 v.dx, .int .i64 v.dy] 26)).alloc (.cells #[.int .i64 (b 0), .int .i64 (b 1), .int .i64 (b 2), .int .i64 (b 3)] 28))
  have hD : (plusC c more).val = .agg #[.int .i64 (wrap64 (c.turns + more.turns)), .int .i64 (wrap64 (c.shift + more.shift)), .int .i64 (wrap64 (c.elastic + more.elastic)), .int .i64 (wrap64 (c.reach + more.reach)), .int .i64 (wrap64 (c.spread + more.spread))] := rfl
  by_cases hn : lp.length ≤ 100 ∧ lq.length ≤ 100
  · obtain ⟨hnp, hnq⟩ := hn
    have hnp' : ((lp.length : Nat) : Int) ≤ 100 := by omega
    have hnq' : ((lq.length : Nat) : Int) ≤ 100 := by omega
    have CK := Lib.hid (fun A A' n n' w h1 h2 => askedL_any c lp lq hnp hnq A A' n n' w h1 h2)
    have CM := Lib.hid (fun w => classR_any more w)
    have CD := Lib.hid (fun w => hD ▸ classR_any (plusC c more) w)
    cases h1 : okP lp && okP lq && okC c
    · rw [h1] at CK
      clear hp hq hD h1
      go_enter Try.func13, Try.ntmps13
      go_wp2_with fail
      refine Calls.ext (CA.out _) fun z1 => ?_
      go_wp2_with fail
      have hE1 := (hE0.ext z1).alloc (.cells #[.int .i64 (wrap64 (c.turns + more.turns)), .int .i64 (wrap64 (c.shift + more.shift)), .int .i64 (wrap64 (c.elastic + more.elastic)), .int .i64 (wrap64 (c.reach + more.reach)), .int .i64 (wrap64 (c.spread + more.spread))] 38)
      refine Calls.ext (CK.out _ _ _ _ _ (HP.out.grow hE1) (HQ.out.grow hE1)) fun z2 => ?_
      go_wp2_with fail
      go_ret
      exact ⟨rfl, hE1.ext z2⟩
    · have h0 := asked_ok h1
      rw [h1] at CK
      obtain ⟨hokp, hokq, hco⟩ := askE_ok h0
      have hpo := (okP_ok hokp hp).1
      have CC := Lib.hid (fun w => classR_any (plusC c more) w)
      obtain ⟨d, hd⟩ : ∃ d, d = plusC c more := ⟨_, rfl⟩
      have e1 : wrap64 (c.turns + more.turns) = d.turns := by rw [hd]; rfl
      have e2 : wrap64 (c.shift + more.shift) = d.shift := by rw [hd]; rfl
      have e3 : wrap64 (c.elastic + more.elastic) = d.elastic := by rw [hd]; rfl
      have e4 : wrap64 (c.reach + more.reach) = d.reach := by rw [hd]; rfl
      have e5 : wrap64 (c.spread + more.spread) = d.spread := by rw [hd]; rfl
      rw [← hd] at CC
      have HKD := Lib.hid hd
      have HPO := Lib.hid hpo
      have HCO := Lib.hid hco
      clear hD hd hpo hco hokp hokq h1
      go_enter Try.func13, Try.ntmps13
      go_wp2_with fail
      refine Calls.ext (CA.out _) fun z1 => ?_
      go_wp2_with fail
      have hE1 := (hE0.ext z1).alloc (.cells #[.int .i64 d.turns, .int .i64 d.shift, .int .i64 d.elastic, .int .i64 d.reach, .int .i64 d.spread] 38)
      refine Calls.ext (CK.out _ _ _ _ _ (HP.out.grow hE1) (HQ.out.grow hE1)) fun z2 => ?_
      have HE := Lib.hid (hE1.ext z2)
      have HC := Lib.hid (((((((Blk.new w 38 #[.int .i64 c.turns, .int .i64 c.shift, .int .i64 c.elastic, .int .i64 c.reach, .int .i64 c.spread]).alloc (.cells #[.int .i64 more.turns, .int .i64 more.shift, .int .i64 more.elastic, .int .i64 more.reach, .int .i64 more.spread] 38)).alloc (.cells #[.int .i64 v.turn, .int .i64 v.dx, .int .i64 v.dy] 26)).alloc (.cells #[.int .i64 (b 0), .int .i64 (b 1), .int .i64 (b 2), .int .i64 (b 3)] 28)).ext z1).alloc (.cells #[.int .i64 d.turns, .int .i64 d.shift, .int .i64 d.elastic, .int .i64 d.reach, .int .i64 d.spread] 38)).ext z2)
      have HM := Lib.hid ((((((Blk.new' (w.alloc (.cells #[.int .i64 c.turns, .int .i64 c.shift, .int .i64 c.elastic, .int .i64 c.reach, .int .i64 c.spread] 38)) 38 #[.int .i64 more.turns, .int .i64 more.shift, .int .i64 more.elastic, .int .i64 more.reach, .int .i64 more.spread] (w.heap.size + 1) (by simp)).alloc (.cells #[.int .i64 v.turn, .int .i64 v.dx, .int .i64 v.dy] 26)).alloc (.cells #[.int .i64 (b 0), .int .i64 (b 1), .int .i64 (b 2), .int .i64 (b 3)] 28)).ext z1).alloc (.cells #[.int .i64 d.turns, .int .i64 d.shift, .int .i64 d.elastic, .int .i64 d.reach, .int .i64 d.spread] 38)).ext z2)
      have HV := Lib.hid (((((Blk.new' ((w.alloc (.cells #[.int .i64 c.turns, .int .i64 c.shift, .int .i64 c.elastic, .int .i64 c.reach, .int .i64 c.spread] 38)).alloc (.cells #[.int .i64 more.turns, .int .i64 more.shift, .int .i64 more.elastic, .int .i64 more.reach, .int .i64 more.spread] 38)) 26 #[.int .i64 v.turn, .int .i64 v.dx, .int .i64 v.dy] (w.heap.size + 1 + 1) (by simp)).alloc (.cells #[.int .i64 (b 0), .int .i64 (b 1), .int .i64 (b 2), .int .i64 (b 3)] 28)).ext z1).alloc (.cells #[.int .i64 d.turns, .int .i64 d.shift, .int .i64 d.elastic, .int .i64 d.reach, .int .i64 d.spread] 38)).ext z2)
      have HB := Lib.hid ((((Blk.new' (((w.alloc (.cells #[.int .i64 c.turns, .int .i64 c.shift, .int .i64 c.elastic, .int .i64 c.reach, .int .i64 c.spread] 38)).alloc (.cells #[.int .i64 more.turns, .int .i64 more.shift, .int .i64 more.elastic, .int .i64 more.reach, .int .i64 more.spread] 38)).alloc (.cells #[.int .i64 v.turn, .int .i64 v.dx, .int .i64 v.dy] 26)) 28 #[.int .i64 (b 0), .int .i64 (b 1), .int .i64 (b 2), .int .i64 (b 3)] (w.heap.size + 1 + 1 + 1) (by simp)).ext z1).alloc (.cells #[.int .i64 d.turns, .int .i64 d.shift, .int .i64 d.elastic, .int .i64 d.reach, .int .i64 d.spread] 38)).ext z2)
      have HD := Lib.hid ((Blk.new (ext ((((w.alloc (.cells #[.int .i64 c.turns, .int .i64 c.shift, .int .i64 c.elastic, .int .i64 c.reach, .int .i64 c.spread] 38)).alloc (.cells #[.int .i64 more.turns, .int .i64 more.shift, .int .i64 more.elastic, .int .i64 more.reach, .int .i64 more.spread] 38)).alloc (.cells #[.int .i64 v.turn, .int .i64 v.dx, .int .i64 v.dy] 26)).alloc (.cells #[.int .i64 (b 0), .int .i64 (b 1), .int .i64 (b 2), .int .i64 (b 3)] 28)) z1) 38 #[.int .i64 d.turns, .int .i64 d.shift, .int .i64 d.elastic, .int .i64 d.reach, .int .i64 d.spread]).ext z2)
      clear hE0 hE1 e1 e2 e3 e4 e5
      generalize (ext ((ext ((((w.alloc (.cells #[.int .i64 c.turns, .int .i64 c.shift, .int .i64 c.elastic, .int .i64 c.reach, .int .i64 c.spread] 38)).alloc (.cells #[.int .i64 more.turns, .int .i64 more.shift, .int .i64 more.elastic, .int .i64 more.reach, .int .i64 more.spread] 38)).alloc (.cells #[.int .i64 v.turn, .int .i64 v.dx, .int .i64 v.dy] 26)).alloc (.cells #[.int .i64 (b 0), .int .i64 (b 1), .int .i64 (b 2), .int .i64 (b 3)] 28)) z1).alloc (.cells #[.int .i64 d.turns, .int .i64 d.shift, .int .i64 d.elastic, .int .i64 d.reach, .int .i64 d.spread] 38)) z2) = V at *
      generalize (ext ((((w.alloc (.cells #[.int .i64 c.turns, .int .i64 c.shift, .int .i64 c.elastic, .int .i64 c.reach, .int .i64 c.spread] 38)).alloc (.cells #[.int .i64 more.turns, .int .i64 more.shift, .int .i64 more.elastic, .int .i64 more.reach, .int .i64 more.spread] 38)).alloc (.cells #[.int .i64 v.turn, .int .i64 v.dx, .int .i64 v.dy] 26)).alloc (.cells #[.int .i64 (b 0), .int .i64 (b 1), .int .i64 (b 2), .int .i64 (b 3)] 28)) z1).heap.size = gd at *
      have cq0 : V.cell? ⟨w.heap.size, 0, none⟩ = some (.int .i64 c.turns) := HC.out.cell 0
      have cq1 : V.cell? ⟨w.heap.size, 1, none⟩ = some (.int .i64 c.shift) := HC.out.cell 1
      have cq2 : V.cell? ⟨w.heap.size, 2, none⟩ = some (.int .i64 c.elastic) := HC.out.cell 2
      have cq3 : V.cell? ⟨w.heap.size, 3, none⟩ = some (.int .i64 c.reach) := HC.out.cell 3
      have cq4 : V.cell? ⟨w.heap.size, 4, none⟩ = some (.int .i64 c.spread) := HC.out.cell 4
      have oC := Old.mk HC.out.lt
      have mq0 : V.cell? ⟨w.heap.size + 1, 0, none⟩ = some (.int .i64 more.turns) := HM.out.cell 0
      have mq1 : V.cell? ⟨w.heap.size + 1, 1, none⟩ = some (.int .i64 more.shift) := HM.out.cell 1
      have mq2 : V.cell? ⟨w.heap.size + 1, 2, none⟩ = some (.int .i64 more.elastic) := HM.out.cell 2
      have mq3 : V.cell? ⟨w.heap.size + 1, 3, none⟩ = some (.int .i64 more.reach) := HM.out.cell 3
      have mq4 : V.cell? ⟨w.heap.size + 1, 4, none⟩ = some (.int .i64 more.spread) := HM.out.cell 4
      have oM := Old.mk HM.out.lt
      have vq0 : V.cell? ⟨w.heap.size + 1 + 1, 0, none⟩ = some (.int .i64 v.turn) := HV.out.cell 0
      have vq1 : V.cell? ⟨w.heap.size + 1 + 1, 1, none⟩ = some (.int .i64 v.dx) := HV.out.cell 1
      have vq2 : V.cell? ⟨w.heap.size + 1 + 1, 2, none⟩ = some (.int .i64 v.dy) := HV.out.cell 2
      have oV := Old.mk HV.out.lt
      have bq0 : V.cell? ⟨w.heap.size + 1 + 1 + 1, 0, none⟩ = some (.int .i64 (b 0)) := HB.out.cell 0
      have bq1 : V.cell? ⟨w.heap.size + 1 + 1 + 1, 1, none⟩ = some (.int .i64 (b 1)) := HB.out.cell 1
      have bq2 : V.cell? ⟨w.heap.size + 1 + 1 + 1, 2, none⟩ = some (.int .i64 (b 2)) := HB.out.cell 2
      have bq3 : V.cell? ⟨w.heap.size + 1 + 1 + 1, 3, none⟩ = some (.int .i64 (b 3)) := HB.out.cell 3
      have oB := Old.mk HB.out.lt
      have dq0 : V.cell? ⟨gd, 0, none⟩ = some (.int .i64 d.turns) := HD.out.cell 0
      have dq1 : V.cell? ⟨gd, 1, none⟩ = some (.int .i64 d.shift) := HD.out.cell 1
      have dq2 : V.cell? ⟨gd, 2, none⟩ = some (.int .i64 d.elastic) := HD.out.cell 2
      have dq3 : V.cell? ⟨gd, 3, none⟩ = some (.int .i64 d.reach) := HD.out.cell 3
      have dq4 : V.cell? ⟨gd, 4, none⟩ = some (.int .i64 d.spread) := HD.out.cell 4
      have oD := Old.mk HD.out.lt
      cases h2 : okC more
      · rw [h2] at CM
        clear h2 hp hq h0
        go_wp2_with fail
        refine Calls.ext (CM.out _) fun z3 => ?_
        go_wp2_with fail
        go_ret
        exact ⟨rfl, HE.out.ext z3⟩
      · cases h3 : okC d
        · rw [h2] at CM
          rw [h3] at CC
          clear h2 h3 hp hq h0
          go_wp2_with fail
          refine Calls.ext (CM.out _) fun z3 => ?_
          go_wp2_with fail
          refine Calls.ext (CC.out _) fun z4 => ?_
          go_wp2_with fail
          go_ret
          exact ⟨rfl, (HE.out.ext z3).ext z4⟩
        · rw [h2] at CM
          rw [h3] at CC
          have hle : leC c d := by rw [HKD.out]; exact plus_le HCO.out (okC_ok h2)
          have h0d : askE d lp lq = 0 := by
            obtain ⟨a1, a2, -⟩ := askE_ok h0
            unfold askE
            rw [a1, a2, h3]; rfl
          have hdo := okC_ok h3
          have CB1 := Lib.hid (fun A A' k k' w h1 h2 => Best_any c lp lq 2000 hp hq hnp hnq A A' k k' w h1 h2)
          have CB2 := Lib.hid (fun A A' k k' w h1 h2 => Best_any d lp lq 2000 hp hq hnp hnq A A' k k' w h1 h2)
          obtain ⟨a1, a2⟩ := best_full (c := c) hp h0
          obtain ⟨b1, b2⟩ := best_full (c := d) hp h0d
          obtain ⟨f1, -⟩ := full_law HCO.out HPO.out a2
          obtain ⟨f2, -⟩ := full_law hdo HPO.out b2
          have f3 := full_grows hle HCO.out hdo HPO.out a2 b2
          rw [a1] at CB1
          rw [b1] at CB2
          clear a1 a2 b1 b2
          generalize bestS c lp lq 2000 = s at *
          generalize bestS d lp lq 2000 = t at *
          generalize hs1 : scoreS s = sc at *
          generalize ht1 : scoreS t = tc at *
          have E1 := Lib.hid hs1
          have E2 := Lib.hid f1
          have E3 := Lib.hid ht1
          have E4 := Lib.hid f2
          have q1 : decide (tc < sc) = false := by simpa using f3
          have q2 : (sc != sc) = false := by simp
          have q3 : (tc != tc) = false := by simp
          have CS1 := Lib.hid (fun A A' n n' w h1 h2 => Score_any c lp lq v b hp hq hnp hnq A A' n n' w h1 h2)
          have CS2 := Lib.hid (fun A A' n n' w h1 h2 => Score_any d lp lq v b hp hq hnp hnq A A' n n' w h1 h2)
          have CT1 := Lib.hid (fun A A' n n' w h1 h2 => Try_any c lp lq v hp hq hnp hnq A A' n n' w h1 h2)
          have CT2 := Lib.hid (fun A A' n n' w h1 h2 => Try_any d lp lq v hp hq hnp hnq A A' n n' w h1 h2)
          obtain ⟨n, g, m, h, hS1, hS2, hor1⟩ := grows_score hle h0 h0d v b
          obtain ⟨x, y, i, j, hT1, hT2, hor2⟩ := grows_try hle HCO.out hdo h0 h0d v
          rw [hS1] at CS1
          rw [hS2] at CS2
          rw [hT1] at CT1
          rw [hT2] at CT2
          clear hs1 ht1 f1 f2 f3 hS1 hS2 hT1 hT2 h2 h3 hp hq h0 h0d hle hdo HKD HPO HCO
          go_wp2_with fail
          refine Calls.ext (CM.out _) fun z3 => ?_
          go_wp2_with fail
          refine Calls.ext (CC.out _) fun z4 => ?_
          go_wp2_with fail
          have hE2 := (HE.out.ext z3).ext z4
          refine call_best (CB1.out _ _ _ _ _ (HP.out.grow hE2) (HQ.out.grow hE2)) fun A1 c1 B1 d1 z5 _ _ => ?_
          rw [E1.out, E2.out]
          have HE3 := Lib.hid (hE2.ext z5)
          replace HC := Lib.hid ((((HC.out).ext z3).ext z4).ext z5)
          replace HV := Lib.hid ((((HV.out).ext z3).ext z4).ext z5)
          replace HB := Lib.hid ((((HB.out).ext z3).ext z4).ext z5)
          replace HD := Lib.hid ((((HD.out).ext z3).ext z4).ext z5)
          clear bq0 bq1 bq2 bq3 cq0 cq1 cq2 cq3 cq4 dq0 dq1 dq2 dq3 dq4 mq0 mq1 mq2 mq3 mq4 oB oC oD oM oV vq0 vq1 vq2 hE2 HM HE CM CC
          generalize ext (ext (ext V z3) z4) z5 = W1 at *
          have cq0 : W1.cell? ⟨w.heap.size, 0, none⟩ = some (.int .i64 c.turns) := HC.out.cell 0
          have cq1 : W1.cell? ⟨w.heap.size, 1, none⟩ = some (.int .i64 c.shift) := HC.out.cell 1
          have cq2 : W1.cell? ⟨w.heap.size, 2, none⟩ = some (.int .i64 c.elastic) := HC.out.cell 2
          have cq3 : W1.cell? ⟨w.heap.size, 3, none⟩ = some (.int .i64 c.reach) := HC.out.cell 3
          have cq4 : W1.cell? ⟨w.heap.size, 4, none⟩ = some (.int .i64 c.spread) := HC.out.cell 4
          have oC := Old.mk HC.out.lt
          have vq0 : W1.cell? ⟨w.heap.size + 1 + 1, 0, none⟩ = some (.int .i64 v.turn) := HV.out.cell 0
          have vq1 : W1.cell? ⟨w.heap.size + 1 + 1, 1, none⟩ = some (.int .i64 v.dx) := HV.out.cell 1
          have vq2 : W1.cell? ⟨w.heap.size + 1 + 1, 2, none⟩ = some (.int .i64 v.dy) := HV.out.cell 2
          have oV := Old.mk HV.out.lt
          have bq0 : W1.cell? ⟨w.heap.size + 1 + 1 + 1, 0, none⟩ = some (.int .i64 (b 0)) := HB.out.cell 0
          have bq1 : W1.cell? ⟨w.heap.size + 1 + 1 + 1, 1, none⟩ = some (.int .i64 (b 1)) := HB.out.cell 1
          have bq2 : W1.cell? ⟨w.heap.size + 1 + 1 + 1, 2, none⟩ = some (.int .i64 (b 2)) := HB.out.cell 2
          have bq3 : W1.cell? ⟨w.heap.size + 1 + 1 + 1, 3, none⟩ = some (.int .i64 (b 3)) := HB.out.cell 3
          have oB := Old.mk HB.out.lt
          have dq0 : W1.cell? ⟨gd, 0, none⟩ = some (.int .i64 d.turns) := HD.out.cell 0
          have dq1 : W1.cell? ⟨gd, 1, none⟩ = some (.int .i64 d.shift) := HD.out.cell 1
          have dq2 : W1.cell? ⟨gd, 2, none⟩ = some (.int .i64 d.elastic) := HD.out.cell 2
          have dq3 : W1.cell? ⟨gd, 3, none⟩ = some (.int .i64 d.reach) := HD.out.cell 3
          have dq4 : W1.cell? ⟨gd, 4, none⟩ = some (.int .i64 d.spread) := HD.out.cell 4
          have oD := Old.mk HD.out.lt
          go_wp2_with fail
          have hE4 := HE3.out.alloc (.cells #[.int .i64 sc, .int .i64 sc, .slice A1 s.att.length c1, .slice B1 s.left.length d1] 58)
          refine call_best (CB2.out _ _ _ _ _ (HP.out.grow hE4) (HQ.out.grow hE4)) fun A2 c2 B2 d2 z6 _ _ => ?_
          rw [E3.out, E4.out]
          go_wp2_with fail
          have HE5 := Lib.hid ((hE4.ext z6).alloc (.cells #[.int .i64 tc, .int .i64 tc, .slice A2 t.att.length c2, .slice B2 t.left.length d2] 58))
          refine Calls.ext (CS1.out _ _ _ _ _ (HP.out.grow HE5.out) (HQ.out.grow HE5.out)) fun z7 => ?_
          replace HC := Lib.hid ((((HC.out.alloc (.cells #[.int .i64 sc, .int .i64 sc, .slice A1 s.att.length c1, .slice B1 s.left.length d1] 58)).ext z6).alloc (.cells #[.int .i64 tc, .int .i64 tc, .slice A2 t.att.length c2, .slice B2 t.left.length d2] 58)).ext z7)
          replace HV := Lib.hid ((((HV.out.alloc (.cells #[.int .i64 sc, .int .i64 sc, .slice A1 s.att.length c1, .slice B1 s.left.length d1] 58)).ext z6).alloc (.cells #[.int .i64 tc, .int .i64 tc, .slice A2 t.att.length c2, .slice B2 t.left.length d2] 58)).ext z7)
          replace HB := Lib.hid ((((HB.out.alloc (.cells #[.int .i64 sc, .int .i64 sc, .slice A1 s.att.length c1, .slice B1 s.left.length d1] 58)).ext z6).alloc (.cells #[.int .i64 tc, .int .i64 tc, .slice A2 t.att.length c2, .slice B2 t.left.length d2] 58)).ext z7)
          replace HD := Lib.hid ((((HD.out.alloc (.cells #[.int .i64 sc, .int .i64 sc, .slice A1 s.att.length c1, .slice B1 s.left.length d1] 58)).ext z6).alloc (.cells #[.int .i64 tc, .int .i64 tc, .slice A2 t.att.length c2, .slice B2 t.left.length d2] 58)).ext z7)
          have hE6 := HE5.out.ext z7
          clear bq0 bq1 bq2 bq3 cq0 cq1 cq2 cq3 cq4 dq0 dq1 dq2 dq3 dq4 oB oC oD oV vq0 vq1 vq2 hE4 HE3 E1 E2 E3 E4 CB1 CB2 q1 q2 q3 CS1 HE5
          generalize ext ((ext (W1.alloc (.cells #[.int .i64 sc, .int .i64 sc, .slice A1 s.att.length c1, .slice B1 s.left.length d1] 58)) z6).alloc (.cells #[.int .i64 tc, .int .i64 tc, .slice A2 t.att.length c2, .slice B2 t.left.length d2] 58)) z7 = W2 at *
          have cq0 : W2.cell? ⟨w.heap.size, 0, none⟩ = some (.int .i64 c.turns) := HC.out.cell 0
          have cq1 : W2.cell? ⟨w.heap.size, 1, none⟩ = some (.int .i64 c.shift) := HC.out.cell 1
          have cq2 : W2.cell? ⟨w.heap.size, 2, none⟩ = some (.int .i64 c.elastic) := HC.out.cell 2
          have cq3 : W2.cell? ⟨w.heap.size, 3, none⟩ = some (.int .i64 c.reach) := HC.out.cell 3
          have cq4 : W2.cell? ⟨w.heap.size, 4, none⟩ = some (.int .i64 c.spread) := HC.out.cell 4
          have oC := Old.mk HC.out.lt
          have vq0 : W2.cell? ⟨w.heap.size + 1 + 1, 0, none⟩ = some (.int .i64 v.turn) := HV.out.cell 0
          have vq1 : W2.cell? ⟨w.heap.size + 1 + 1, 1, none⟩ = some (.int .i64 v.dx) := HV.out.cell 1
          have vq2 : W2.cell? ⟨w.heap.size + 1 + 1, 2, none⟩ = some (.int .i64 v.dy) := HV.out.cell 2
          have oV := Old.mk HV.out.lt
          have bq0 : W2.cell? ⟨w.heap.size + 1 + 1 + 1, 0, none⟩ = some (.int .i64 (b 0)) := HB.out.cell 0
          have bq1 : W2.cell? ⟨w.heap.size + 1 + 1 + 1, 1, none⟩ = some (.int .i64 (b 1)) := HB.out.cell 1
          have bq2 : W2.cell? ⟨w.heap.size + 1 + 1 + 1, 2, none⟩ = some (.int .i64 (b 2)) := HB.out.cell 2
          have bq3 : W2.cell? ⟨w.heap.size + 1 + 1 + 1, 3, none⟩ = some (.int .i64 (b 3)) := HB.out.cell 3
          have oB := Old.mk HB.out.lt
          have dq0 : W2.cell? ⟨gd, 0, none⟩ = some (.int .i64 d.turns) := HD.out.cell 0
          have dq1 : W2.cell? ⟨gd, 1, none⟩ = some (.int .i64 d.shift) := HD.out.cell 1
          have dq2 : W2.cell? ⟨gd, 2, none⟩ = some (.int .i64 d.elastic) := HD.out.cell 2
          have dq3 : W2.cell? ⟨gd, 3, none⟩ = some (.int .i64 d.reach) := HD.out.cell 3
          have dq4 : W2.cell? ⟨gd, 4, none⟩ = some (.int .i64 d.spread) := HD.out.cell 4
          have oD := Old.mk HD.out.lt
          go_wp2_with fail
          refine Calls.ext (CS2.out _ _ _ _ _ (HP.out.grow hE6) (HQ.out.grow hE6)) fun z8 => ?_
          have HE7 := Lib.hid (hE6.ext z8)
          replace HC := Lib.hid (HC.out.ext z8)
          replace HV := Lib.hid (HV.out.ext z8)
          replace HD := Lib.hid (HD.out.ext z8)
          clear bq0 bq1 bq2 bq3 cq0 cq1 cq2 cq3 cq4 dq0 dq1 dq2 dq3 dq4 oB oC oD oV vq0 vq1 vq2 hE6 HB CS2
          generalize ext W2 z8 = W3 at *
          have cq0 : W3.cell? ⟨w.heap.size, 0, none⟩ = some (.int .i64 c.turns) := HC.out.cell 0
          have cq1 : W3.cell? ⟨w.heap.size, 1, none⟩ = some (.int .i64 c.shift) := HC.out.cell 1
          have cq2 : W3.cell? ⟨w.heap.size, 2, none⟩ = some (.int .i64 c.elastic) := HC.out.cell 2
          have cq3 : W3.cell? ⟨w.heap.size, 3, none⟩ = some (.int .i64 c.reach) := HC.out.cell 3
          have cq4 : W3.cell? ⟨w.heap.size, 4, none⟩ = some (.int .i64 c.spread) := HC.out.cell 4
          have oC := Old.mk HC.out.lt
          have vq0 : W3.cell? ⟨w.heap.size + 1 + 1, 0, none⟩ = some (.int .i64 v.turn) := HV.out.cell 0
          have vq1 : W3.cell? ⟨w.heap.size + 1 + 1, 1, none⟩ = some (.int .i64 v.dx) := HV.out.cell 1
          have vq2 : W3.cell? ⟨w.heap.size + 1 + 1, 2, none⟩ = some (.int .i64 v.dy) := HV.out.cell 2
          have oV := Old.mk HV.out.lt
          have dq0 : W3.cell? ⟨gd, 0, none⟩ = some (.int .i64 d.turns) := HD.out.cell 0
          have dq1 : W3.cell? ⟨gd, 1, none⟩ = some (.int .i64 d.shift) := HD.out.cell 1
          have dq2 : W3.cell? ⟨gd, 2, none⟩ = some (.int .i64 d.elastic) := HD.out.cell 2
          have dq3 : W3.cell? ⟨gd, 3, none⟩ = some (.int .i64 d.reach) := HD.out.cell 3
          have dq4 : W3.cell? ⟨gd, 4, none⟩ = some (.int .i64 d.spread) := HD.out.cell 4
          have oD := Old.mk HD.out.lt
          go_wp2_with fail
          refine Calls.ext (CT1.out _ _ _ _ _ (HP.out.grow HE7.out) (HQ.out.grow HE7.out)) fun z9 => ?_
          go_wp2_with fail
          have hE8 := (HE7.out.ext z9).alloc (.cells #[.int .i64 x.mv.turn, .int .i64 x.mv.dx, .int .i64 x.mv.dy, .int .i64 x.bd.a, .int .i64 x.bd.b, .int .i64 x.bd.c, .int .i64 x.bd.d, .int .i64 x.score] 46)
          refine Calls.ext (CT2.out _ _ _ _ _ (HP.out.grow hE8) (HQ.out.grow hE8)) fun z10 => ?_
          have HE9 := Lib.hid ((hE8.ext z10).alloc (.cells #[.int .i64 y.mv.turn, .int .i64 y.mv.dx, .int .i64 y.mv.dy, .int .i64 y.bd.a, .int .i64 y.bd.b, .int .i64 y.bd.c, .int .i64 y.bd.d, .int .i64 y.score] 46))
          rcases hor1 with hg | ⟨rfl, rfl, hg⟩
          · rcases hor2 with hi | ⟨rfl, rfl, hi⟩
            · go_wp2_with fail
              go_ret
              exact ⟨rfl, HE9.out⟩
            · have q4 : decide (x.score ≤ y.score) = true := by simpa using hi
              go_wp2_with fail
              go_ret
              exact ⟨rfl, HE9.out⟩
          · have q5 : decide (n ≤ m) = true := by simpa using hg
            rcases hor2 with hi | ⟨rfl, rfl, hi⟩
            · go_wp2_with fail
              go_ret
              exact ⟨rfl, HE9.out⟩
            · have q4 : decide (x.score ≤ y.score) = true := by simpa using hi
              go_wp2_with fail
              go_ret
              exact ⟨rfl, HE9.out⟩
  · by_cases hnp : lp.length ≤ 100
    · have hnp' : ((lp.length : Nat) : Int) ≤ 100 := by omega
      have hnq' : (100 : Int) < ((lq.length : Nat) : Int) := by omega
      clear hn hp hq hD
      go_enter Try.func13, Try.ntmps13
      go_wp2_with fail
      refine Calls.ext (CA.out _) fun z1 => ?_
      go_wp2_with fail
      go_ret
      exact ⟨rfl, (hE0.ext z1).alloc _⟩
    · have hnp' : (100 : Int) < ((lp.length : Nat) : Int) := by omega
      clear hn hp hq hD
      go_enter Try.func13, Try.ntmps13
      go_wp2_with fail
      refine Calls.ext (CA.out _) fun z1 => ?_
      go_wp2_with fail
      go_ret
      exact ⟨rfl, (hE0.ext z1).alloc _⟩
set_option maxRecDepth 100000 in
theorem alignGrows_lifted (os : Os) (started : os.Started) (H : Type) (enc : TypeId × Value → H) :
    ReturnsInHanded {} Try.checked os 13 .any (Rows.alignGrowsSpec.pre6 enc Try.prog Try.f13 Rows.alignGrowsRow.domain false) (Rows.alignGrowsSpec.post enc Try.prog Try.f13 false true false false) := by
  refine returnsInHanded_of_change (C := Try.checked) own started (by kernel_rfl) Try.func13
    (ChangeSpec.witness6 (enc := enc) (C := Try.checked) false ⟨#[], #[.slice none 0 0, .slice none 0 0, .agg #[.int .i64 0, .int .i64 0, .int .i64 0, .int .i64 0, .int .i64 0], .agg #[.int .i64 0, .int .i64 0, .int .i64 0, .int .i64 0, .int .i64 0], .agg #[.int .i64 0, .int .i64 0, .int .i64 0], .agg (Array.replicate 4 (.int .i64 0))], []⟩ 8 (by kernel_rfl) (by kernel_rfl) (by kernel_rfl) (by kernel_rfl)) ?_
  intro W base args ds gs before hval0 hW hcnd _
  have hval : ∀ (j : Nat) t v, Try.f13.params[j]? = some t → args[j]? = some v → Value.okWide Try.prog W .any base t v := hval0
  have hW' := hW
  obtain ⟨p, q, hA0, hV, rfl, hfz, hnd⟩ := hW
  have hA : DataW.TrodAll enc Try.prog W 0 (fun _ => true) true Try.f13.params.toList args.toList ds p := hA0
  rw [Try.params13] at hA hval
  obtain ⟨v0, vs0, d0, ds0, p0, q0, hargs, rfl, rfl, h0, r0⟩ := trodAll_cons hA
  obtain ⟨v1, vs1, d1, ds1, p1, q1, rfl, rfl, rfl, h1, r1⟩ := trodAll_cons r0
  obtain ⟨v2, vs2, d2, ds2, p2, q2, rfl, rfl, rfl, h2, r2⟩ := trodAll_cons r1
  obtain ⟨v3, vs3, d3, ds3, p3, q3, rfl, rfl, rfl, h3, r3⟩ := trodAll_cons r2
  obtain ⟨v4, vs4, d4, ds4, p4, q4, rfl, rfl, rfl, h4, r4⟩ := trodAll_cons r3
  obtain ⟨v5, vs5, d5, ds5, p5, q5, rfl, rfl, rfl, h5, r5⟩ := trodAll_cons r4
  obtain ⟨rfl, rfl, rfl⟩ := trodAll_nil r5
  obtain rfl : args = #[v0, v1, v2, v3, v4, v5] := by cases args; simp_all
  obtain ⟨rfl, rfl⟩ := trodVars_none hV
  have k0 := h0
  have lt0 : ∀ x ∈ p0, x.block < W.heap.size := by obtain ⟨m, hm⟩ := k0; exact DataW.trod_lt m _ _ _ hm
  obtain ⟨A0, rows0, cap0, rfl, hlc0, hcm0, hwf0, hrow0⟩ := open_rows (ks := [.i64, .i64, .u8, .u8]) Try.underlying22 Try.underlying24 (by kernel_rfl) (by kernel_rfl) (kindsOf_of (by kernel_rfl)) (by decide) (hval 0 22 v0 rfl rfl) h0
  have k1 := h1
  have lt1 : ∀ x ∈ p1, x.block < W.heap.size := by obtain ⟨m, hm⟩ := k1; exact DataW.trod_lt m _ _ _ hm
  obtain ⟨A1, rows1, cap1, rfl, hlc1, hcm1, hwf1, hrow1⟩ := open_rows (ks := [.i64, .i64, .u8, .u8]) Try.underlying22 Try.underlying24 (by kernel_rfl) (by kernel_rfl) (kindsOf_of (by kernel_rfl)) (by decide) (hval 1 22 v1 rfl rfl) h1
  have k2 := h2
  have lt2 : ∀ x ∈ p2, x.block < W.heap.size := by obtain ⟨m, hm⟩ := k2; exact DataW.trod_lt m _ _ _ hm
  obtain ⟨ns2, hl2, hv2, wf2⟩ := open_nums (ks := [.i64, .i64, .i64, .i64, .i64]) Try.underlying38 (by kernel_rfl) (by kernel_rfl) (kindsOf_of (by kernel_rfl)) (hval 2 38 v2 rfl rfl) h2
  have k3 := h3
  have lt3 : ∀ x ∈ p3, x.block < W.heap.size := by obtain ⟨m, hm⟩ := k3; exact DataW.trod_lt m _ _ _ hm
  obtain ⟨ns3, hl3, hv3, wf3⟩ := open_nums (ks := [.i64, .i64, .i64, .i64, .i64]) Try.underlying38 (by kernel_rfl) (by kernel_rfl) (kindsOf_of (by kernel_rfl)) (hval 3 38 v3 rfl rfl) h3
  have k4 := h4
  have lt4 : ∀ x ∈ p4, x.block < W.heap.size := by obtain ⟨m, hm⟩ := k4; exact DataW.trod_lt m _ _ _ hm
  obtain ⟨ns4, hl4, hv4, wf4⟩ := open_nums (ks := [.i64, .i64, .i64]) Try.underlying26 (by kernel_rfl) (by kernel_rfl) (kindsOf_of (by kernel_rfl)) (hval 4 26 v4 rfl rfl) h4
  have k5 := h5
  have lt5 : ∀ x ∈ p5, x.block < W.heap.size := by obtain ⟨m, hm⟩ := k5; exact DataW.trod_lt m _ _ _ hm
  obtain ⟨ns5, hl5, hv5, wf5⟩ := open_flat (ks := (List.replicate 4 .i64)) (by kernel_rfl) (hval 5 28 v5 rfl rfl)
  clear hA0 hval0
  obtain ⟨l0, hr0, hp0, hk0, hc0⟩ := pts_of_rows hwf0 hrow0 hlc0
  obtain ⟨l1, hr1, hp1, hk1, hc1⟩ := pts_of_rows hwf1 hrow1 hlc1
  obtain ⟨c2, hcl2⟩ := cl_of hl2
  rw [hcl2] at hv2
  subst hv2
  obtain ⟨c3, hcl3⟩ := cl_of hl3
  rw [hcl3] at hv3
  subst hv3
  obtain ⟨mv4, hmv4⟩ := mv_of hl4
  rw [hmv4] at hv4
  subst hv4
  obtain ⟨bd5, hbd5⟩ := bend_of hl5
  rw [hbd5] at hv5
  subst hv5
  refine (hr0 ▸ hr1 ▸ alignGrows_walk A0 A1 cap0 cap1 l0 l1 c2 c3 mv4 bd5 W hp0 hp1 hk0 hk1).mono fun e W' ⟨he, bel⟩ => ?_
  subst he
  exact ⟨_, rfl, _, _, _, [], _, [], hW', trodAll_mk1 (shut_bool Try.underlying4 _), (trodAll_cons_mk (Below.trod laidOut (by kernel_rfl) (of_decide_eq_true (by kernel_rfl)) k0 bel lt0) (trodAll_cons_mk (Below.trod laidOut (by kernel_rfl) (of_decide_eq_true (by kernel_rfl)) k1 bel lt1) (trodAll_cons_mk (Below.trod laidOut (by kernel_rfl) (of_decide_eq_true (by kernel_rfl)) k2 bel lt2) (trodAll_cons_mk (Below.trod laidOut (by kernel_rfl) (of_decide_eq_true (by kernel_rfl)) k3 bel lt3) (trodAll_cons_mk (Below.trod laidOut (by kernel_rfl) (of_decide_eq_true (by kernel_rfl)) k4 bel lt4) (trodAll_cons_mk (Below.trod laidOut (by kernel_rfl) (of_decide_eq_true (by kernel_rfl)) k5 bel lt5) trodAll_mk0)))))), rfl, Below.frame bel _, fun h => by cases h⟩

theorem alignGrows_holds : Rows.AlignGrowsSaid :=
  OpenClaim.holds_of_wide 13 Try.f13 rfl rfl rfl rfl rfl rfl rfl ⟨rfl, rfl, rfl, rfl, rfl⟩ rfl rfl rfl rfl rfl (by kernel_rfl) Try.func13 (by kernel_rfl)
    (of_decide_eq_true (by kernel_rfl)) (by unfold Func.isWrapper; first | (rw [if_pos (by decide +kernel)]; kernel_rfl) | (rw [if_neg (by decide +kernel)]; exact ⟨rfl, rfl⟩))
    (fun os started H enc _ => alignGrows_lifted os started H enc)
end Go.Proofs.Ythejomcibobieaa
