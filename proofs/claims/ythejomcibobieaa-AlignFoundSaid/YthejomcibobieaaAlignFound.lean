/- Proved: for all prints, classes, shifts and bends, the call of whorllaw02.AlignFound returns true and leaves its arguments as they were. No conditions. -/
import Derived.Test.YthejomcibobieaaOuts
import Derived.Test.YthejomcibobieaaFoundLaw
namespace Go.Proofs.Ythejomcibobieaa
open Go.Joins Go.ChangeShapes Go.WideShapes Go.RowKit Go.Deep Go.ChangeAt

set_option maxRecDepth 100000 in
set_option maxHeartbeats 2000000 in
theorem valid_all (A : Option Addr) (c : Nat) (l : List Mi) (w : World) (hl : Pts w A l) :
    Calls Try.prog 43 #[.slice A l.length c] w fun e w' => e = .returned (.bool (okP l)) ∧ Ext w w' := by
  by_cases hn : l.length ≤ 100
  · exact valid_any A c l w hl hn
  · have h1 : decide ((12 : Int) < (l.length : Int)) = true := by simp; omega
    have h2 : decide (12 < l.length) = true := by simp; omega
    have HV := Lib.hid (show okP l = false by
      unfold okP
      rw [decide_eq_false (by omega)]; rfl)
    clear hl hn
    go_enter Try.func43, Try.ntmps43
    go_wp2_with fail
    go_ret
    exact ⟨ret_of (by rw [HV.out]; rfl), Ext.refl w⟩
theorem call_sorted {P : Program} {f : FuncId} {args : Array Value} {l : List Mi} {w : World} {R : Ending → World → Prop} (h : Calls P f args w fun e w' => ∃ A' c' r, e = .returned (.slice A' r.length c') ∧ r.Perm l ∧ r.Pairwise leR ∧ Pts w' A' r ∧ Ext w w') (hR : ∀ A' c' r z, r.Perm l → r.Pairwise leR → Pts (ext w z) A' r → R (.returned (.slice A' r.length c')) (ext w z)) : Calls P f args w R :=
  h.mono fun e w' ⟨A', c', r, he, h1, h2, h3, hw⟩ => by
    subst he
    have := hR A' c' r w' h1 h2
    rw [ext_of hw] at this
    exact this h3
theorem found_calls {c : Cl} {dx dy : Int} {b : Bd} {lp r : List Mi} (hp : ∀ m ∈ lp, 0 ≤ m.dir) (hok : okP lp = true) (hc : okC c = true) (hmv : isMove c ⟨0, dx, dy⟩ = true) (hb : isBend c.elastic b.f = true) (h1 : r.Perm (qOf dx dy b.f lp)) (h2 : r.Pairwise leR) :
    ∃ s : St, scoreS s = r.length ∧ boundS s = r.length ∧
      (∀ A A' n n' w, Pts w A lp → Pts w A' r → Calls Try.prog 32 #[.slice A lp.length n, .slice A' r.length n', c.val, .int .i64 2000] w (RetB s 0 w)) ∧
      (∀ A A' n n' w, Pts w A lp → Pts w A' r → Calls Try.prog 21 #[.slice A lp.length n, .slice A' r.length n', c.val, .agg #[.int .i64 0, .int .i64 dx, .int .i64 dy], .agg #[.int .i64 b.a, .int .i64 b.b, .int .i64 b.c, .int .i64 b.d]] w fun e w' => e = .returned (.tuple #[.int .i64 (r.length : Int), .int .i64 0]) ∧ Ext w w') := by
  obtain ⟨hpo, hl12⟩ := okP_ok hok hp
  have hco := okC_ok hc
  obtain ⟨hokr, hlt⟩ := found_ok hok h1 h2
  have h0 : askE c lp r = 0 := by unfold askE; rw [hok, hokr, hc]; rfl
  have hsc := found_score hco (dx := dx) (dy := dy) (b := b.f) hpo h1 hlt
  have hrl : r.length ≤ 12 := by
    have := h1.length_eq
    have := qOf_len dx dy b.f lp
    omega
  have hq : ∀ m ∈ r, 0 ≤ m.dir := fun m hm => by
    obtain ⟨⟨n, hn, rfl⟩, -⟩ := qOf_mem.1 (h1.mem_iff.1 hm)
    exact hp n hn
  have e1 : bestE c lp r 2000 = 0 := by unfold bestE; rw [if_pos h0]; rfl
  obtain ⟨s1, s2⟩ := found_best hco hpo hmv hb hsc (best_ok e1).2.2.2
  refine ⟨bestS c lp r 2000, s1, s2, fun A A' n n' w g1 g2 => ?_, fun A A' n n' w g1 g2 => ?_⟩
  · have := Best_any c lp r 2000 hp hq (by omega) (by omega) A A' n n' w g1 g2
    rw [e1] at this
    exact this
  · have := Score_any c lp r ⟨0, dx, dy⟩ b.f hp hq (by omega) (by omega) A A' n n' w g1 g2
    unfold scoreT at this
    rw [if_pos h0, hmv, hb, hsc] at this
    exact this
theorem place_found {c : Cl} {dx dy : Int} {b : Bd} (hco : c.ok) (hmv : isMove c ⟨0, dx, dy⟩ = true) (hb : isBend c.elastic b.f = true) {m : Mi} (hm : okM m = true) (hd : 0 ≤ m.dir) {j : Nat} (hj : m.x / 16 = j) (w : World) :
    Calls Try.prog 17 #[m.val, .agg #[.int .i64 0, .int .i64 dx, .int .i64 dy], .agg #[.int .i64 b.a, .int .i64 b.b, .int .i64 b.c, .int .i64 b.d]] w fun e w' => e = .returned (.tuple #[.int .i64 (m.x + dx), .int .i64 (m.y + dy + b.f j), .int .i64 (2 * m.dir), .int .i64 0]) ∧ Ext w w' := by
  have := Place_any m ⟨0, dx, dy⟩ b.f hd w
  have hmv' := isMove_iff.1 hmv
  have c1 := hco.turns
  have c2 := hco.shift
  have c3 := hco.elastic
  have hp := okM_parts hm
  have e : placeE m ⟨0, dx, dy⟩ b.f = 0 := by
    unfold placeE
    have h1 : isMove allC ⟨0, dx, dy⟩ = true := by
      rw [isMove_iff]
      unfold allC
      dsimp only at hmv' ⊢
      omega
    have h2 : isBend 1 b.f = true := (show leC ⟨0, 0, c.elastic, 0, 0⟩ ⟨0, 0, 1, 0, 0⟩ from ⟨Int.le_refl _, Int.le_refl _, c3.2, Int.le_refl _, Int.le_refl _⟩).bend hb
    rw [if_pos hm, h1, h2]; rfl
  unfold placeT at this
  rw [if_pos e] at this
  unfold placeX placeY at this
  rw [found0X, found0Y, found0D ⟨hd, hp.2.2.2⟩, hj, Int.toNat_natCast] at this
  exact this
theorem bd_cell {w : World} {g : Nat} {b : Bd} (h : Blk w g 28 #[.int .i64 b.a, .int .i64 b.b, .int .i64 b.c, .int .i64 b.d]) {j : Nat} (hj : j < 4) : w.cell? ⟨g, j, none⟩ = some (.int .i64 (b.f j)) := by
  rcases (show j = 0 ∨ j = 1 ∨ j = 2 ∨ j = 3 by omega) with rfl | rfl | rfl | rfl
  · exact h.cell 0
  · exact h.cell 1
  · exact h.cell 2
  · exact h.cell 3
set_option maxRecDepth 100000 in
set_option maxHeartbeats 16000000 in
theorem alignFound_walk (Ap : Option Addr) (cp : Nat) (lp : List Mi) (c : Cl) (dx dy : Int) (b : Bd) (w : World) (hP : Pts w Ap lp) (hp : ∀ m ∈ lp, 0 ≤ m.dir) :
    Calls Try.prog 14 #[.slice Ap lp.length cp, c.val, .int .i64 dx, .int .i64 dy, .agg #[.int .i64 b.a, .int .i64 b.b, .int .i64 b.c, .int .i64 b.d]] w fun e w' => e = .returned (.bool true) ∧ Ext w w' := by
  have HP := Lib.hid hP
  have CA := Lib.hid (fun w => alive_any w)
  have CV := Lib.hid (fun w h => valid_all Ap cp lp w h)
  have CC := Lib.hid (fun w => classR_any c w)
  clear hP
  have hE0 := (((Ext.refl w).alloc (.cells #[.int .i64 c.turns, .int .i64 c.shift, .int .i64 c.elastic, .int .i64 c.reach, .int .i64 c.spread] 38)).alloc (.cells #[.int .i64 b.a, .int .i64 b.b, .int .i64 b.c, .int .i64 b.d] 28))
  cases h1 : okP lp
  · rw [h1] at CV
    clear hp h1
    go_enter Try.func14, Try.ntmps14
    go_wp2_with fail
    refine Calls.ext (CA.out _) fun z1 => ?_
    go_wp2_with fail
    have hE1 := (hE0.ext z1).alloc (.cells #[.int .i64 0, .int .i64 dx, .int .i64 dy] 26)
    refine Calls.ext (CV.out _ (HP.out.grow hE1)) fun z2 => ?_
    go_wp2_with fail
    have hE2 := hE1.ext z2
    go_ret
    exact ⟨rfl, hE2⟩
  · rw [h1] at CV
    cases h2 : okC c
    · rw [h2] at CC
      clear hp h1 h2
      go_enter Try.func14, Try.ntmps14
      go_wp2_with fail
      refine Calls.ext (CA.out _) fun z1 => ?_
      go_wp2_with fail
      have hE1 := (hE0.ext z1).alloc (.cells #[.int .i64 0, .int .i64 dx, .int .i64 dy] 26)
      refine Calls.ext (CV.out _ (HP.out.grow hE1)) fun z2 => ?_
      go_wp2_with fail
      have hE2 := hE1.ext z2
      refine Calls.ext (CC.out _) fun z3 => ?_
      go_wp2_with fail
      go_ret
      exact ⟨rfl, hE2.ext z3⟩
    · rw [h2] at CC
      have hco := okC_ok h2
      have CM := Lib.hid (fun w => isMove_any c ⟨0, dx, dy⟩ hco w)
      have CB := Lib.hid (fun w => isBend_any c b.f hco.elastic w)
      cases h3 : isMove c ⟨0, dx, dy⟩
      · rw [h3] at CM
        clear hp h1 h2 h3 hco
        go_enter Try.func14, Try.ntmps14
        go_wp2_with fail
        refine Calls.ext (CA.out _) fun z1 => ?_
        go_wp2_with fail
        have hE1 := (hE0.ext z1).alloc (.cells #[.int .i64 0, .int .i64 dx, .int .i64 dy] 26)
        refine Calls.ext (CV.out _ (HP.out.grow hE1)) fun z2 => ?_
        go_wp2_with fail
        have hE2 := hE1.ext z2
        refine Calls.ext (CC.out _) fun z3 => ?_
        go_wp2_with fail
        refine Calls.ext (CM.out _) fun z4 => ?_
        go_wp2_with fail
        go_ret
        exact ⟨rfl, (hE2.ext z3).ext z4⟩
      · rw [h3] at CM
        cases h4 : isBend c.elastic b.f
        · rw [h4] at CB
          clear hp h1 h2 h3 h4 hco
          go_enter Try.func14, Try.ntmps14
          go_wp2_with fail
          refine Calls.ext (CA.out _) fun z1 => ?_
          go_wp2_with fail
          have hE1 := (hE0.ext z1).alloc (.cells #[.int .i64 0, .int .i64 dx, .int .i64 dy] 26)
          refine Calls.ext (CV.out _ (HP.out.grow hE1)) fun z2 => ?_
          go_wp2_with fail
          have hE2 := hE1.ext z2
          refine Calls.ext (CC.out _) fun z3 => ?_
          go_wp2_with fail
          refine Calls.ext (CM.out _) fun z4 => ?_
          go_wp2_with fail
          refine Calls.ext (CB.out _) fun z5 => ?_
          go_wp2_with fail
          go_ret
          exact ⟨rfl, ((hE2.ext z3).ext z4).ext z5⟩
        · rw [h4] at CB
          obtain ⟨hpo, hl12⟩ := okP_ok h1 hp
          have hokm : ∀ m ∈ lp, okM m = true := by
            simp only [okP, Bool.and_eq_true] at h1
            exact fun m hm => ((chP_pair lp _ h1.2).1 m hm).2
          have CF := Lib.hid (fun (r : List Mi) (g1 : r.Perm (qOf dx dy b.f lp)) (g2 : r.Pairwise leR) => found_calls hp h1 h2 h3 h4 g1 g2)
          have CP := Lib.hid (fun (m : Mi) (hm : m ∈ lp) (j : Nat) (hj : m.x / 16 = j) w => place_found hco h3 h4 (hokm m hm) (hp m hm) hj w)
          have HPO := Lib.hid hpo
          have hmv := isMove_iff.1 h3
          dsimp only at hmv
          have c2 := hco.shift
          have HBI := Lib.hid (bend_in hco.elastic.2 h4)
          have hdx : -4 ≤ dx ∧ dx ≤ 4 := by omega
          have hdy : -4 ≤ dy ∧ dy ≤ 4 := by omega
          clear hp h1 h2 h3 h4 hco hpo hokm hmv c2
          go_enter Try.func14, Try.ntmps14
          go_wp2_with fail
          refine Calls.ext (CA.out _) fun z1 => ?_
          go_wp2_with fail
          have hE1 := (hE0.ext z1).alloc (.cells #[.int .i64 0, .int .i64 dx, .int .i64 dy] 26)
          refine Calls.ext (CV.out _ (HP.out.grow hE1)) fun z2 => ?_
          go_wp2_with fail
          have hE2 := hE1.ext z2
          refine Calls.ext (CC.out _) fun z3 => ?_
          go_wp2_with fail
          refine Calls.ext (CM.out _) fun z4 => ?_
          have HE := Lib.hid ((hE2.ext z3).ext z4)
          have HC := Lib.hid (((((((Blk.new w 38 #[.int .i64 c.turns, .int .i64 c.shift, .int .i64 c.elastic, .int .i64 c.reach, .int .i64 c.spread]).alloc (.cells #[.int .i64 b.a, .int .i64 b.b, .int .i64 b.c, .int .i64 b.d] 28)).ext z1).alloc (.cells #[.int .i64 0, .int .i64 dx, .int .i64 dy] 26)).ext z2).ext z3).ext z4)
          have HB := Lib.hid ((((((Blk.new' (w.alloc (.cells #[.int .i64 c.turns, .int .i64 c.shift, .int .i64 c.elastic, .int .i64 c.reach, .int .i64 c.spread] 38)) 28 #[.int .i64 b.a, .int .i64 b.b, .int .i64 b.c, .int .i64 b.d] (w.heap.size + 1) (by simp)).ext z1).alloc (.cells #[.int .i64 0, .int .i64 dx, .int .i64 dy] 26)).ext z2).ext z3).ext z4)
          have HV := Lib.hid ((((Blk.new (ext ((w.alloc (.cells #[.int .i64 c.turns, .int .i64 c.shift, .int .i64 c.elastic, .int .i64 c.reach, .int .i64 c.spread] 38)).alloc (.cells #[.int .i64 b.a, .int .i64 b.b, .int .i64 b.c, .int .i64 b.d] 28)) z1) 26 #[.int .i64 0, .int .i64 dx, .int .i64 dy]).ext z2).ext z3).ext z4)
          clear hE0 hE1 hE2
          generalize ext (ext (ext ((ext ((w.alloc (.cells #[.int .i64 c.turns, .int .i64 c.shift, .int .i64 c.elastic, .int .i64 c.reach, .int .i64 c.spread] 38)).alloc (.cells #[.int .i64 b.a, .int .i64 b.b, .int .i64 b.c, .int .i64 b.d] 28)) z1).alloc (.cells #[.int .i64 0, .int .i64 dx, .int .i64 dy] 26)) z2) z3) z4 = V0 at *
          generalize (ext ((w.alloc (.cells #[.int .i64 c.turns, .int .i64 c.shift, .int .i64 c.elastic, .int .i64 c.reach, .int .i64 c.spread] 38)).alloc (.cells #[.int .i64 b.a, .int .i64 b.b, .int .i64 b.c, .int .i64 b.d] 28)) z1).heap.size = gv at *
          have cq0 : V0.cell? ⟨w.heap.size, 0, none⟩ = some (.int .i64 c.turns) := HC.out.cell 0
          have cq1 : V0.cell? ⟨w.heap.size, 1, none⟩ = some (.int .i64 c.shift) := HC.out.cell 1
          have cq2 : V0.cell? ⟨w.heap.size, 2, none⟩ = some (.int .i64 c.elastic) := HC.out.cell 2
          have cq3 : V0.cell? ⟨w.heap.size, 3, none⟩ = some (.int .i64 c.reach) := HC.out.cell 3
          have cq4 : V0.cell? ⟨w.heap.size, 4, none⟩ = some (.int .i64 c.spread) := HC.out.cell 4
          have oC := Old.mk (HC.out).lt
          have bq0 : V0.cell? ⟨w.heap.size + 1, 0, none⟩ = some (.int .i64 b.a) := HB.out.cell 0
          have bq1 : V0.cell? ⟨w.heap.size + 1, 1, none⟩ = some (.int .i64 b.b) := HB.out.cell 1
          have bq2 : V0.cell? ⟨w.heap.size + 1, 2, none⟩ = some (.int .i64 b.c) := HB.out.cell 2
          have bq3 : V0.cell? ⟨w.heap.size + 1, 3, none⟩ = some (.int .i64 b.d) := HB.out.cell 3
          have oB := Old.mk (HB.out).lt
          have vq0 : V0.cell? ⟨gv, 0, none⟩ = some (.int .i64 0) := HV.out.cell 0
          have vq1 : V0.cell? ⟨gv, 1, none⟩ = some (.int .i64 dx) := HV.out.cell 1
          have vq2 : V0.cell? ⟨gv, 2, none⟩ = some (.int .i64 dy) := HV.out.cell 2
          have oV := Old.mk (HV.out).lt
          go_wp2_with fail
          refine Calls.ext (CB.out _) fun z5 => ?_
          replace HE := Lib.hid (HE.out.ext z5)
          replace HC := Lib.hid (HC.out.ext z5)
          replace HB := Lib.hid (HB.out.ext z5)
          replace HV := Lib.hid (HV.out.ext z5)
          clear cq0 cq1 cq2 cq3 cq4 bq0 bq1 bq2 bq3 vq0 vq1 vq2 oC oB oV
          generalize ext V0 z5 = V at *
          go_wp2_with fail
          have HPV := Lib.hid (HP.out.grow HE.out)
          go_loopw [13, 51] (fun s t wr => ∃ (k : Nat) (uv : Value), uv = s ∧ k ≤ lp.length ∧ t = .int .i64 k ∧ wr.ownsRow V.heap.size 24 4 s (qOf dx dy b.f (lp.take k)).length (flatG Mi.cellsL (qOf dx dy b.f (lp.take k))) ∧ Ext V wr) (fun _ t _ => lp.length - (intOf t).toNat)
          case atStart => exact ⟨0, _, rfl, by omega, rfl, own_nil _ _ _ _, Ext.refl _⟩
          case round =>
            obtain ⟨k, uv, rfl, hk, rfl, hown, hE2⟩ := hrel
            have HOwn := Lib.hid hown
            have HE2 := Lib.hid hE2
            have cq0 : wr.cell? ⟨w.heap.size, 0, none⟩ = some (.int .i64 c.turns) := (HC.out.grow hE2).cell 0
            have cq1 : wr.cell? ⟨w.heap.size, 1, none⟩ = some (.int .i64 c.shift) := (HC.out.grow hE2).cell 1
            have cq2 : wr.cell? ⟨w.heap.size, 2, none⟩ = some (.int .i64 c.elastic) := (HC.out.grow hE2).cell 2
            have cq3 : wr.cell? ⟨w.heap.size, 3, none⟩ = some (.int .i64 c.reach) := (HC.out.grow hE2).cell 3
            have cq4 : wr.cell? ⟨w.heap.size, 4, none⟩ = some (.int .i64 c.spread) := (HC.out.grow hE2).cell 4
            have oC := Old.mk ((HC.out.grow hE2)).lt
            have bq0 : wr.cell? ⟨w.heap.size + 1, 0, none⟩ = some (.int .i64 b.a) := (HB.out.grow hE2).cell 0
            have bq1 : wr.cell? ⟨w.heap.size + 1, 1, none⟩ = some (.int .i64 b.b) := (HB.out.grow hE2).cell 1
            have bq2 : wr.cell? ⟨w.heap.size + 1, 2, none⟩ = some (.int .i64 b.c) := (HB.out.grow hE2).cell 2
            have bq3 : wr.cell? ⟨w.heap.size + 1, 3, none⟩ = some (.int .i64 b.d) := (HB.out.grow hE2).cell 3
            have oB := Old.mk ((HB.out.grow hE2)).lt
            have vq0 : wr.cell? ⟨gv, 0, none⟩ = some (.int .i64 0) := (HV.out.grow hE2).cell 0
            have vq1 : wr.cell? ⟨gv, 1, none⟩ = some (.int .i64 dx) := (HV.out.grow hE2).cell 1
            have vq2 : wr.cell? ⟨gv, 2, none⟩ = some (.int .i64 dy) := (HV.out.grow hE2).cell 2
            have oV := Old.mk ((HV.out.grow hE2)).lt
            by_cases hlt : k < lp.length
            · rcases HPV.out with hl | ⟨gp, off, rfl, hgb, hcell⟩
              · rw [hl] at hlt; simp at hlt
              have hki : (k : Int) < lp.length := by omega
              obtain ⟨m, hm⟩ : ∃ m, lp[k]? = some m := ⟨_, List.getElem?_eq_getElem hlt⟩
              obtain ⟨a0, a1, a2, a3⟩ := hcell k m hm
              have p0 : wr.cell? ⟨gp, off + k * 4, none⟩ = some (.int .i64 m.x) := (hE2.cell (by exact hgb)).trans a0
              have p1 : wr.cell? ⟨gp, off + k * 4 + 1, none⟩ = some (.int .i64 m.y) := (hE2.cell (by exact hgb)).trans a1
              have p2 : wr.cell? ⟨gp, off + k * 4 + 2, none⟩ = some (.int .u8 m.kind) := (hE2.cell (by exact hgb)).trans a2
              have p3 : wr.cell? ⟨gp, off + k * 4 + 3, none⟩ = some (.int .u8 m.dir) := (hE2.cell (by exact hgb)).trans a3
              have oP : Nonempty (Old gp wr) := ⟨Nat.lt_of_lt_of_le hgb hE2.size⟩
              have hmem := List.mem_of_getElem? hm
              have hmo := HPO.out m hmem
              have hmx := hmo.x
              have hmy := hmo.y
              have hmd := hmo.dir
              obtain ⟨j, hj⟩ : ∃ j : Nat, m.x / 16 = j := ⟨(m.x / 16).toNat, by omega⟩
              have hj4 : j < 4 := by omega
              have CPm := Lib.hid (fun w => CP.out m hmem j hj w)
              have hbj := HBI.out j hj4
              have hdiv : m.x.tdiv 16 = (j : Int) := by rw [Int.tdiv_eq_ediv_of_nonneg hmx.1]; exact hj
              have HTK := Lib.hid (show qOf dx dy b.f (lp.take (k + 1)) = if inP ⟨m.x + dx, m.y + dy + b.f j, m.kind, m.dir⟩ then qOf dx dy b.f (lp.take k) ++ [⟨m.x + dx, m.y + dy + b.f j, m.kind, m.dir⟩] else qOf dx dy b.f (lp.take k) by
                have e : lp.take (k + 1) = lp.take k ++ [m] := by
                  rw [List.take_succ_eq_append_getElem hlt]
                  rw [List.getElem?_eq_getElem hlt] at hm
                  injection hm with hm
                  rw [hm]
                have e2 : imgF dx dy b.f m = ⟨m.x + dx, m.y + dy + b.f j, m.kind, m.dir⟩ := by
                  unfold imgF
                  rw [hj, Int.toNat_natCast]
                rw [e, qOf_app, e2])
              have HQL := Lib.hid (show (qOf dx dy b.f (lp.take k)).length ≤ 12 by
                have := qOf_len dx dy b.f (lp.take k)
                rw [List.length_take] at this
                omega)
              clear a0 a1 a2 a3 hcell hm hmo hown hE2
              go_wp2_with fail
              have hA := HE2.out.alloc (.cells #[.int .i64 m.x, .int .i64 m.y, .int .u8 m.kind, .int .u8 m.dir] 24)
              refine Calls.ext (CPm.out _) fun z6 => ?_
              have HM := Lib.hid ((Blk.new wr 24 #[.int .i64 m.x, .int .i64 m.y, .int .u8 m.kind, .int .u8 m.dir]).ext z6)
              have HEa := Lib.hid (hA.ext z6)
              have HOa := Lib.hid (own_grow HOwn.out (((Ext.refl wr).alloc (.cells #[.int .i64 m.x, .int .i64 m.y, .int .u8 m.kind, .int .u8 m.dir] 24)).ext z6))
              clear hA HE2 HOwn p0 p1 p2 p3 oP cq0 cq1 cq2 cq3 cq4 bq0 bq1 bq2 bq3 vq0 vq1 vq2 oC oB oV
              generalize ext (wr.alloc (.cells #[.int .i64 m.x, .int .i64 m.y, .int .u8 m.kind, .int .u8 m.dir] 24)) z6 = W at *
              generalize wr.heap.size = gm at *
              have m0 : W.cell? ⟨gm, 0, none⟩ = some (.int .i64 m.x) := HM.out.cell 0
              have m1 : W.cell? ⟨gm, 1, none⟩ = some (.int .i64 m.y) := HM.out.cell 1
              have m2 : W.cell? ⟨gm, 2, none⟩ = some (.int .u8 m.kind) := HM.out.cell 2
              have m3 : W.cell? ⟨gm, 3, none⟩ = some (.int .u8 m.dir) := HM.out.cell 3
              have oM := Old.mk HM.out.lt
              have bj : W.cell? ⟨w.heap.size + 1, j, none⟩ = some (.int .i64 (b.f j)) := bd_cell (HB.out.grow HEa.out) hj4
              have oB := Old.mk (HB.out.grow HEa.out).lt
              have w1 : IntKind.i64.wrap (m.x + dx) = m.x + dx := IntWalk.i64_in _ (by omega)
              have w2 : IntKind.i64.wrap (m.y + dy) = m.y + dy := IntWalk.i64_in _ (by omega)
              have w3 : IntKind.i64.wrap (m.y + dy + b.f j) = m.y + dy + b.f j := IntWalk.i64_in _ (by omega)
              have w4 : IntKind.i64.wrap m.dir = m.dir := IntWalk.i64_in _ (by omega)
              have w5 : IntKind.i64.wrap (2 * m.dir) = 2 * m.dir := IntWalk.i64_in _ (by omega)
              have w6 : IntKind.i64.wrap (j : Int) = (j : Int) := IntWalk.i64_in _ (by omega)
              have hj5 : (j : Int) < 4 := by omega
              have n1 : (m.x + dx != m.x + dx) = false := by simp
              have n2 : (m.y + dy + b.f j != m.y + dy + b.f j) = false := by simp
              have n3 : (2 * m.dir != 2 * m.dir) = false := by simp
              go_wp2_with fail
              refine wp_region_ext (by kernel_rfl) (by kernel_rfl) ?_
              repeat (go_big_quiet_step (fail))
              refine wpQuiet_nil ?_
              rintro _ ⟨z7, rfl⟩
              have HEb := Lib.hid (HEa.out.ext z7)
              have HOb := Lib.hid (own_grow HOa.out (Ext.ext_self W z7))
              have HMb := Lib.hid (HM.out.ext z7)
              clear m0 m1 m2 m3 oM bj oB n1 n2 n3 w4 w5 w6 HEa HOa HM hdiv
              generalize ext W z7 = W2 at *
              have m2 : W2.cell? ⟨gm, 2, none⟩ = some (.int .u8 m.kind) := HMb.out.cell 2
              have m3 : W2.cell? ⟨gm, 3, none⟩ = some (.int .u8 m.dir) := HMb.out.cell 3
              have oM := Old.mk HMb.out.lt
              have hin : (decide (0 ≤ m.x + dx) = true ∧ decide (m.x + dx < 64) = true ∧ decide (0 ≤ m.y + dy + b.f j) = true ∧ decide (m.y + dy + b.f j < 64) = true ∧ inP ⟨m.x + dx, m.y + dy + b.f j, m.kind, m.dir⟩ = true) ∨ inP ⟨m.x + dx, m.y + dy + b.f j, m.kind, m.dir⟩ = false ∧ (decide (0 ≤ m.x + dx) = false ∨ decide (0 ≤ m.x + dx) = true ∧ (decide (m.x + dx < 64) = false ∨ decide (m.x + dx < 64) = true ∧ (decide (0 ≤ m.y + dy + b.f j) = false ∨ decide (0 ≤ m.y + dy + b.f j) = true ∧ decide (m.y + dy + b.f j < 64) = false))) := by
                unfold inP
                dsimp only
                cases decide (0 ≤ m.x + dx) <;> cases decide (m.x + dx < 64) <;> cases decide (0 ≤ m.y + dy + b.f j) <;> cases decide (m.y + dy + b.f j < 64) <;> simp
              rcases hin with ⟨i1, i2, i3, i4, i5⟩ | ⟨i5, hin⟩
              · rw [i5, if_pos rfl] at HTK
                go_wp2_with fail
                refine Calls.ext (point_any _ _ _ _ _) fun z8 => ?_
                have HEc := Lib.hid (HEb.out.ext z8)
                have HOc := Lib.hid (own_grow HOb.out (Ext.ext_self W2 z8))
                clear m2 m3 oM HEb HOb HMb
                generalize ext W2 z8 = W3 at *
                go_wp2_with (at_builtin; refine wpList_append_ext rfl V (by exact HEc.out.alloc _) infoM (.tmp 110) (.tmp 118) rfl _ _ _ rfl (by exact own_grow HOc.out ((Ext.refl _).alloc _)) _ 1 1 [.int .i64 (m.x + dx), .int .i64 (m.y + dy + b.f j), .int .u8 m.kind, .int .u8 m.dir] rfl (Slc.of_blk (cs := #[.int .i64 (m.x + dx), .int .i64 (m.y + dy + b.f j), .int .u8 m.kind, .int .u8 m.dir]) (t := 24) (Blk.new W3 24 #[.int .i64 (m.x + dx), .int .i64 (m.y + dy + b.f j), .int .u8 m.kind, .int .u8 m.dir]) rfl) (by simp [Value.oneCell']) (by have := HQL.out; omega) (by omega) ?_; intro A2 c2 z9 hown2)
                refine ⟨⟨k + 1, _, rfl, by omega, by go_num, ?_, Ext.ext_self V z9⟩, by simp [intOf]; omega⟩
                have e := flatG_app (f := Mi.cellsL) (qOf dx dy b.f (lp.take k)) [⟨m.x + dx, m.y + dy + b.f j, m.kind, m.dir⟩]
                rw [HTK.out, List.length_append, e]
                exact hown2
              · rw [i5, if_neg Bool.false_ne_true] at HTK
                rcases hin with i1 | ⟨i1, i2 | ⟨i2, i3 | ⟨i3, i4⟩⟩⟩
                all_goals
                  go_wp2_with fail
                  exact ⟨⟨k + 1, _, rfl, by omega, by go_num, by rw [HTK.out]; exact HOb.out, HEb.out⟩, by simp [intOf]; omega⟩
            · obtain rfl : k = lp.length := by omega
              rw [List.take_length] at HOwn hown
              obtain ⟨Aq, cq, rfl⟩ := own_slice HOwn.out
              have HPQ := Lib.hid (pts_own HOwn.out)
              have HPP := Lib.hid (HPV.out.grow hE2)
              have HE5 := Lib.hid (HE.out.trans hE2)
              have HC5 := Lib.hid (HC.out.grow hE2)
              have HB5 := Lib.hid (HB.out.grow hE2)
              have HV5 := Lib.hid (HV.out.grow hE2)
              clear hown hE2
              have hq12 : (qOf dx dy b.f lp).length ≤ 100 := by
                have := qOf_len dx dy b.f lp
                omega
              go_wp2_with fail
              refine call_sorted (sorted_any Aq cq _ _ HPQ.out hq12) fun Ar cr r z6 g1 g2 g3 => ?_
              have HR := Lib.hid g3
              replace HE5 := Lib.hid (HE5.out.ext z6)
              replace HC5 := Lib.hid (HC5.out.ext z6)
              replace HB5 := Lib.hid (HB5.out.ext z6)
              replace HV5 := Lib.hid (HV5.out.ext z6)
              replace HPP := Lib.hid (HPP.out.grow (Ext.ext_self wr z6))
              obtain ⟨s, s1, s2, B1, B2⟩ := CF.out r g1 g2
              have HB1 := Lib.hid B1
              have HB2 := Lib.hid B2
              have E1 := Lib.hid s1
              have E2 := Lib.hid s2
              clear g1 g2 g3 s1 s2 B1 B2 HOwn HPQ cq0 cq1 cq2 cq3 cq4 bq0 bq1 bq2 bq3 vq0 vq1 vq2 oC oB oV CF hq12
              generalize ext wr z6 = W at *
              have cq0 : W.cell? ⟨w.heap.size, 0, none⟩ = some (.int .i64 c.turns) := HC5.out.cell 0
              have cq1 : W.cell? ⟨w.heap.size, 1, none⟩ = some (.int .i64 c.shift) := HC5.out.cell 1
              have cq2 : W.cell? ⟨w.heap.size, 2, none⟩ = some (.int .i64 c.elastic) := HC5.out.cell 2
              have cq3 : W.cell? ⟨w.heap.size, 3, none⟩ = some (.int .i64 c.reach) := HC5.out.cell 3
              have cq4 : W.cell? ⟨w.heap.size, 4, none⟩ = some (.int .i64 c.spread) := HC5.out.cell 4
              have oC := Old.mk (HC5.out).lt
              have bq0 : W.cell? ⟨w.heap.size + 1, 0, none⟩ = some (.int .i64 b.a) := HB5.out.cell 0
              have bq1 : W.cell? ⟨w.heap.size + 1, 1, none⟩ = some (.int .i64 b.b) := HB5.out.cell 1
              have bq2 : W.cell? ⟨w.heap.size + 1, 2, none⟩ = some (.int .i64 b.c) := HB5.out.cell 2
              have bq3 : W.cell? ⟨w.heap.size + 1, 3, none⟩ = some (.int .i64 b.d) := HB5.out.cell 3
              have oB := Old.mk (HB5.out).lt
              have vq0 : W.cell? ⟨gv, 0, none⟩ = some (.int .i64 0) := HV5.out.cell 0
              have vq1 : W.cell? ⟨gv, 1, none⟩ = some (.int .i64 dx) := HV5.out.cell 1
              have vq2 : W.cell? ⟨gv, 2, none⟩ = some (.int .i64 dy) := HV5.out.cell 2
              have oV := Old.mk (HV5.out).lt
              go_wp2_with fail
              refine call_best (HB1.out _ _ _ _ _ HPP.out HR.out) fun A1 c1 B1 d1 z7 _ _ => ?_
              rw [E1.out, E2.out]
              go_wp2_with fail
              have hx := ((Ext.ext_self W z7).alloc (.cells #[.int .i64 (r.length : Int), .int .i64 (r.length : Int), .slice A1 s.att.length c1, .slice B1 s.left.length d1] 58))
              refine Calls.ext (HB2.out _ _ _ _ _ (HPP.out.grow hx) (HR.out.grow hx)) fun z8 => ?_
              have q1 : (((r.length : Nat) : Int) == ((r.length : Nat) : Int)) = true := by simp
              go_wp2_with fail
              go_ret
              exact ⟨rfl, (HE5.out.trans hx).ext z8⟩
set_option maxRecDepth 100000 in
theorem alignFound_lifted (os : Os) (started : os.Started) (H : Type) (enc : TypeId × Value → H) :
    ReturnsInHanded {} Try.checked os 14 .any (Rows.alignFoundSpec.pre6 enc Try.prog Try.f14 Rows.alignFoundRow.domain false) (Rows.alignFoundSpec.post enc Try.prog Try.f14 false true false false) := by
  refine returnsInHanded_of_change (C := Try.checked) own started (by kernel_rfl) Try.func14
    (ChangeSpec.witness6 (enc := enc) (C := Try.checked) false ⟨#[], #[.slice none 0 0, .agg #[.int .i64 0, .int .i64 0, .int .i64 0, .int .i64 0, .int .i64 0], .int .i64 0, .int .i64 0, .agg (Array.replicate 4 (.int .i64 0))], []⟩ 8 (by kernel_rfl) (by kernel_rfl) (by kernel_rfl) (by kernel_rfl)) ?_
  intro W base args ds gs before hval0 hW hcnd _
  have hval : ∀ (j : Nat) t v, Try.f14.params[j]? = some t → args[j]? = some v → Value.okWide Try.prog W .any base t v := hval0
  have hW' := hW
  obtain ⟨p, q, hA0, hV, rfl, hfz, hnd⟩ := hW
  have hA : DataW.TrodAll enc Try.prog W 0 (fun _ => true) true Try.f14.params.toList args.toList ds p := hA0
  rw [Try.params14] at hA hval
  obtain ⟨v0, vs0, d0, ds0, p0, q0, hargs, rfl, rfl, h0, r0⟩ := trodAll_cons hA
  obtain ⟨v1, vs1, d1, ds1, p1, q1, rfl, rfl, rfl, h1, r1⟩ := trodAll_cons r0
  obtain ⟨v2, vs2, d2, ds2, p2, q2, rfl, rfl, rfl, h2, r2⟩ := trodAll_cons r1
  obtain ⟨v3, vs3, d3, ds3, p3, q3, rfl, rfl, rfl, h3, r3⟩ := trodAll_cons r2
  obtain ⟨v4, vs4, d4, ds4, p4, q4, rfl, rfl, rfl, h4, r4⟩ := trodAll_cons r3
  obtain ⟨rfl, rfl, rfl⟩ := trodAll_nil r4
  obtain rfl : args = #[v0, v1, v2, v3, v4] := by cases args; simp_all
  obtain ⟨rfl, rfl⟩ := trodVars_none hV
  have k0 := h0
  have lt0 : ∀ x ∈ p0, x.block < W.heap.size := by obtain ⟨m, hm⟩ := k0; exact DataW.trod_lt m _ _ _ hm
  obtain ⟨A0, rows0, cap0, rfl, hlc0, hcm0, hwf0, hrow0⟩ := open_rows (ks := [.i64, .i64, .u8, .u8]) Try.underlying22 Try.underlying24 (by kernel_rfl) (by kernel_rfl) (kindsOf_of (by kernel_rfl)) (by decide) (hval 0 22 v0 rfl rfl) h0
  have k1 := h1
  have lt1 : ∀ x ∈ p1, x.block < W.heap.size := by obtain ⟨m, hm⟩ := k1; exact DataW.trod_lt m _ _ _ hm
  obtain ⟨ns1, hl1, hv1, wf1⟩ := open_nums (ks := [.i64, .i64, .i64, .i64, .i64]) Try.underlying38 (by kernel_rfl) (by kernel_rfl) (kindsOf_of (by kernel_rfl)) (hval 1 38 v1 rfl rfl) h1
  have k2 := h2
  have lt2 : ∀ x ∈ p2, x.block < W.heap.size := by obtain ⟨m, hm⟩ := k2; exact DataW.trod_lt m _ _ _ hm
  obtain ⟨a2, rfl, _, _, w2⟩ := open_int Try.underlying3 (hval 2 3 v2 rfl rfl) h2
  have k3 := h3
  have lt3 : ∀ x ∈ p3, x.block < W.heap.size := by obtain ⟨m, hm⟩ := k3; exact DataW.trod_lt m _ _ _ hm
  obtain ⟨a3, rfl, _, _, w3⟩ := open_int Try.underlying3 (hval 3 3 v3 rfl rfl) h3
  have k4 := h4
  have lt4 : ∀ x ∈ p4, x.block < W.heap.size := by obtain ⟨m, hm⟩ := k4; exact DataW.trod_lt m _ _ _ hm
  obtain ⟨ns4, hl4, hv4, wf4⟩ := open_flat (ks := (List.replicate 4 .i64)) (by kernel_rfl) (hval 4 28 v4 rfl rfl)
  clear hA0 hval0
  obtain ⟨l0, hr0, hp0, hk0, hc0⟩ := pts_of_rows hwf0 hrow0 hlc0
  obtain ⟨c1, hcl1⟩ := cl_of hl1
  rw [hcl1] at hv1
  subst hv1
  obtain ⟨bd4, hbd4⟩ := bend_of hl4
  rw [hbd4] at hv4
  subst hv4
  refine (hr0 ▸ alignFound_walk A0 cap0 l0 c1 a2 a3 ⟨bd4 0, bd4 1, bd4 2, bd4 3⟩ W hp0 hk0).mono fun e W' ⟨he, bel⟩ => ?_
  subst he
  exact ⟨_, rfl, _, _, _, [], _, [], hW', trodAll_mk1 (shut_bool Try.underlying4 _), (trodAll_cons_mk (Below.trod laidOut (by kernel_rfl) (of_decide_eq_true (by kernel_rfl)) k0 bel lt0) (trodAll_cons_mk (Below.trod laidOut (by kernel_rfl) (of_decide_eq_true (by kernel_rfl)) k1 bel lt1) (trodAll_cons_mk (Below.trod laidOut (by kernel_rfl) (of_decide_eq_true (by kernel_rfl)) k2 bel lt2) (trodAll_cons_mk (Below.trod laidOut (by kernel_rfl) (of_decide_eq_true (by kernel_rfl)) k3 bel lt3) (trodAll_cons_mk (Below.trod laidOut (by kernel_rfl) (of_decide_eq_true (by kernel_rfl)) k4 bel lt4) trodAll_mk0))))), rfl, Below.frame bel _, fun h => by cases h⟩

theorem alignFound_holds : Rows.AlignFoundSaid :=
  OpenClaim.holds_of_wide 14 Try.f14 rfl rfl rfl rfl rfl rfl rfl ⟨rfl, rfl, rfl, rfl, rfl⟩ rfl rfl rfl rfl rfl (by kernel_rfl) Try.func14 (by kernel_rfl)
    (of_decide_eq_true (by kernel_rfl)) (by unfold Func.isWrapper; first | (rw [if_pos (by decide +kernel)]; kernel_rfl) | (rw [if_neg (by decide +kernel)]; exact ⟨rfl, rfl⟩))
    (fun os started H enc _ => alignFound_lifted os started H enc)
end Go.Proofs.Ythejomcibobieaa
