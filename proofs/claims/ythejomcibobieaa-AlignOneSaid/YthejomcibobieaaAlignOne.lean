/- Proved: for all prints, class, move, bend and index, the call of whorllaw02.AlignOne returns true and leaves its arguments as they were. No conditions. -/
import Derived.Test.YthejomcibobieaaOuts
import Derived.Test.YthejomcibobieaaOneLaw
import Derived.Deep.RegionHeld3
namespace Go.Proofs.Ythejomcibobieaa
open Go.Joins Go.ChangeShapes Go.WideShapes Go.RowKit Go.Deep Go.ChangeAt

theorem okM_mem : ∀ (l : List Mi) (x : Int), chP x l = true → ∀ m ∈ l, okM m = true
  | [], _, _, _, hm => by cases hm
  | y :: r, x, h, m, hm => by
    simp only [chP, Bool.and_eq_true] at h
    rcases List.mem_cons.1 hm with rfl | hm
    · exact h.1.1
    · exact okM_mem r _ h.2 m hm
theorem okP_single {l : List Mi} {x : Mi} (hx : x ∈ l) (h : okP l = true) : okP [x] = true := by
  simp only [okP, Bool.and_eq_true] at h
  have h1 := okM_mem l _ h.2 x hx
  obtain ⟨h2, h3, -, -⟩ := okM_parts h1
  simp only [okP, chP, Bool.and_eq_true, decide_eq_true_eq, List.length_singleton]
  exact ⟨by omega, ⟨h1, by omega⟩, trivial⟩
theorem score_err {c : Cl} {lp lq : List Mi} {v : Mv} {b : Nat → Int} (h : ¬ (askE c lp lq = 0 ∧ (isMove c v && isBend c.elastic b) = true)) : ∃ e : Int, (e != 0) = true ∧ scoreT c lp lq v b = .tuple #[.int .i64 0, .int .i64 e] := by
  unfold scoreT
  by_cases h0 : askE c lp lq = 0
  · rw [if_pos h0]
    cases hk : isMove c v && isBend c.elastic b
    · exact ⟨2, rfl, rfl⟩
    · exact absurd ⟨h0, hk⟩ h
  · rw [if_neg h0]
    exact ⟨_, by simpa using h0, rfl⟩
theorem one_calls {c : Cl} {lp lq : List Mi} {v : Mv} {b : Nat → Int} {a : Nat} {x : Mi} (hx : lp[a]? = some x) (hp : ∀ m ∈ lp, 0 ≤ m.dir) (hq : ∀ m ∈ lq, 0 ≤ m.dir) (hnp : lp.length ≤ 100) (hnq : lq.length ≤ 100) (h0 : askE c lp lq = 0) (h1 : (isMove c v && isBend c.elastic b) = true) :
    ∃ n m k : Int,
      (∀ A A' d d' w, Pts w A lp → Pts w A' lq → Calls Try.prog 21 #[.slice A lp.length d, .slice A' lq.length d', c.val, v.val, bendV b] w fun e w' => e = .returned (.tuple #[.int .i64 n, .int .i64 0]) ∧ Ext w w') ∧
      (∀ A A' d d' w, Pts w A (lp.take a ++ lp.drop (a + 1)) → Pts w A' lq → Calls Try.prog 21 #[.slice A (a + (lp.length - (a + 1))) d, .slice A' lq.length d', c.val, v.val, bendV b] w fun e w' => e = .returned (.tuple #[.int .i64 m, .int .i64 0]) ∧ Ext w w') ∧
      (∀ A A' d d' w, Pts w A [x] → Pts w A' lq → Calls Try.prog 21 #[.slice A 1 d, .slice A' lq.length d', c.val, v.val, bendV b] w fun e w' => e = .returned (.tuple #[.int .i64 k, .int .i64 0]) ∧ Ext w w') ∧
      m ≤ n ∧ n ≤ m + k ∧ 0 ≤ m ∧ 0 ≤ k ∧ k ≤ 1 ∧ n ≤ lp.length ∧ n ≤ lq.length := by
  have hmem := List.mem_of_getElem? hx
  have hal : a < lp.length := (List.getElem?_eq_some_iff.1 hx).1
  have hll : (lp.take a ++ lp.drop (a + 1)).length = a + (lp.length - (a + 1)) := by simp; omega
  obtain ⟨l1, l2, l3⟩ := one_law c lp lq v b hx
  have hm := mmk_max (nbF lq.length (mayL c lp lq v b)) lp.length
  have r1 := isMax_left hm
  have r2 := isMax_right (n := lq.length) (fun i j _ hj => (mem_nbF.1 hj).1) hm
  have hs : ∀ l, (okP lp = true → okP l = true) → scoreT c l lq v b = .tuple #[.int .i64 (scrK c l lq v b), .int .i64 0] := fun l hl => by
    unfold scoreT
    rw [if_pos (ask_less h0 hl), if_pos h1]
  refine ⟨scrK c lp lq v b, scrK c (lp.take a ++ lp.drop (a + 1)) lq v b, scrK c [x] lq v b, ?_, ?_, ?_, l1, l2, ?_, ?_, l3, ?_, ?_⟩
  · intro A A' d d' w h2 h3
    have := Score_any c lp lq v b hp hq hnp hnq A A' d d' w h2 h3
    rw [hs lp id] at this
    exact this
  · intro A A' d d' w h2 h3
    have := Score_any c (lp.take a ++ lp.drop (a + 1)) lq v b (fun m hm => hp m (by
      rcases List.mem_append.1 hm with h | h
      · exact List.mem_of_mem_take h
      · exact List.mem_of_mem_drop h)) hq (by omega) hnq A A' d d' w h2 h3
    rw [hs _ (okP_drop a), hll] at this
    exact this
  · intro A A' d d' w h2 h3
    have := Score_any c [x] lq v b (fun m hm => hp m (by rw [List.mem_singleton.1 hm]; exact hmem)) hq (by simp) hnq A A' d d' w h2 h3
    rw [hs _ (okP_single hmem)] at this
    exact this
  · unfold scrK; omega
  · unfold scrK; omega
  · unfold scrK; omega
  · unfold scrK; omega
theorem pts_take {w : World} {g off : Nat} {l : List Mi} (a : Nat) (ha : a ≤ l.length) (hb : g < w.heap.size) (hc : ∀ (k : Nat) (m : Mi), l[k]? = some m →
    w.cell? ⟨g, off + k * 4, none⟩ = some (.int .i64 m.x) ∧ w.cell? ⟨g, off + k * 4 + 1, none⟩ = some (.int .i64 m.y) ∧ w.cell? ⟨g, off + k * 4 + 2, none⟩ = some (.int .u8 m.kind) ∧ w.cell? ⟨g, off + k * 4 + 3, none⟩ = some (.int .u8 m.dir)) :
    Slc w 4 (some ⟨g, off, none⟩) a (flatG Mi.cellsL (l.take a)) := by
  have h : Pts w (some ⟨g, off, none⟩) (l.take a) := .inr ⟨g, off, rfl, hb, fun k m hm => hc k m (by
    rw [List.getElem?_take] at hm
    split at hm
    · exact hm
    · cases hm)⟩
  have := h.sl.slc mi_len
  rwa [List.length_take, Nat.min_eq_left ha] at this
theorem pts_drop {w : World} {g off : Nat} {l : List Mi} (a : Nat) (hb : g < w.heap.size) (hc : ∀ (k : Nat) (m : Mi), l[k]? = some m →
    w.cell? ⟨g, off + k * 4, none⟩ = some (.int .i64 m.x) ∧ w.cell? ⟨g, off + k * 4 + 1, none⟩ = some (.int .i64 m.y) ∧ w.cell? ⟨g, off + k * 4 + 2, none⟩ = some (.int .u8 m.kind) ∧ w.cell? ⟨g, off + k * 4 + 3, none⟩ = some (.int .u8 m.dir)) :
    Slc w 4 (some ⟨g, off + a * 4, none⟩) (l.length - a) (flatG Mi.cellsL (l.drop a)) := by
  have h : Pts w (some ⟨g, off + a * 4, none⟩) (l.drop a) := .inr ⟨g, off + a * 4, rfl, hb, fun k m hm => by
    rw [List.getElem?_drop] at hm
    have := hc (a + k) m hm
    rw [show off + (a + k) * 4 = off + a * 4 + k * 4 by omega] at this
    exact this⟩
  have := h.sl.slc mi_len
  rwa [List.length_drop] at this
set_option maxRecDepth 100000 in
set_option maxHeartbeats 16000000 in
theorem alignOne_walk (Ap Aq : Option Addr) (cp cq : Nat) (lp lq : List Mi) (c : Cl) (v : Mv) (b : Nat → Int) (at_ : Int) (w : World) (hP : Pts w Ap lp) (hQ : Pts w Aq lq) (hp : ∀ m ∈ lp, 0 ≤ m.dir) (hq : ∀ m ∈ lq, 0 ≤ m.dir) (hcp : lp.length ≤ cp) :
    Calls Try.prog 12 #[.slice Ap lp.length cp, .slice Aq lq.length cq, c.val, v.val, bendV b, .int .i64 at_] w fun e w' => e = .returned (.bool true) ∧ Ext w w' := by
  have HP := Lib.hid hP
  have HQ := Lib.hid hQ
  have CA := Lib.hid (fun w => alive_any w)
  clear hP hQ
  have hE0 := ((((Ext.refl w).alloc (.cells #[.int .i64 c.turns, .int .i64 c.shift, .int .i64 c.elastic, .int .i64 c.reach, .int .i64 c.spread] 38)).alloc (.cells #[.int .i64 v.turn, .int .i64 v.dx, .int .i64 v.dy] 26)).alloc (.cells #[.int .i64 (b 0), .int .i64 (b 1), .int .i64 (b 2), .int .i64 (b 3)] 28))
  by_cases hn : lp.length ≤ 100 ∧ lq.length ≤ 100 ∧ 0 ≤ at_ ∧ at_ < lp.length
  · obtain ⟨hnp, hnq, h0, h1⟩ := hn
    obtain ⟨a, rfl⟩ : ∃ a : Nat, at_ = a := ⟨at_.toNat, by omega⟩
    have hal : a < lp.length := by omega
    have hnp' : ((lp.length : Nat) : Int) ≤ 100 := by omega
    have hnq' : ((lq.length : Nat) : Int) ≤ 100 := by omega
    have g1 : decide ((100 : Int) < ((lp.length : Nat) : Int)) = false := by simp; omega
    have g2 : decide ((100 : Int) < ((lq.length : Nat) : Int)) = false := by simp; omega
    have g3 : decide (100 < lp.length) = false := by simp; omega
    have g4 : decide (100 < lq.length) = false := by simp; omega
    have t0 : decide ((a : Int) < 0) = false := by simp
    have t2 : decide (lp.length ≤ a) = false := by simp; omega
    have t1 : decide ((lp.length : Int) ≤ (a : Int)) = false := by simp; omega
    obtain ⟨x, hx⟩ : ∃ x, lp[a]? = some x := ⟨_, List.getElem?_eq_getElem hal⟩
    by_cases hok : askE c lp lq = 0 ∧ (isMove c v && isBend c.elastic b) = true
    · obtain ⟨n, m, k, S1, S2, S3, l1, l2, l3, l4, l5, l6, l7⟩ := one_calls hx hp hq hnp hnq hok.1 hok.2
      have CS1 := Lib.hid S1
      have CS2 := Lib.hid S2
      have CS3 := Lib.hid S3
      have w1 : IntKind.i64.wrap (m + 1) = m + 1 := IntWalk.i64_in _ (by omega)
      have w2 : IntKind.i64.wrap (m + k) = m + k := IntWalk.i64_in _ (by omega)
      have q1 : decide (m ≤ n) = true := by simpa using l1
      have q2 : decide (n ≤ m + 1) = true := by simp; omega
      have q3 : decide (n ≤ m + k) = true := by simpa using l2
      have q4 : decide (n ≤ if lq.length < lp.length then ((lq.length : Nat) : Int) else ((lp.length : Nat) : Int)) = true := by simp; split <;> omega
      have HQS := Lib.hid (And.intro q1 (And.intro q2 (And.intro q3 (And.intro q4 (And.intro w1 w2)))))
      clear S1 S2 S3 l1 l2 l3 l4 l5 l6 l7 w1 w2 q1 q2 q3 q4 hok hp hq
      rcases HP.out with hl | ⟨g, off, rfl, hgb, hcell⟩
      · rw [hl] at hal; simp at hal
      have HGB := Lib.hid hgb
      have HCELL := Lib.hid hcell
      clear hgb hcell
      go_enter Try.func12, Try.ntmps12
      go_wp2_with fail
      refine Calls.ext (CA.out _) fun z1 => ?_
      go_wp2_with fail
      have hE1 := hE0.ext z1
      refine Calls.ext (CS1.out _ _ _ _ _ (HP.out.grow hE1) (HQ.out.grow hE1)) fun z2 => ?_
      go_wp2_with fail
      have HE := Lib.hid (hE1.ext z2)
      have HC := Lib.hid (((((Blk.new w 38 #[.int .i64 c.turns, .int .i64 c.shift, .int .i64 c.elastic, .int .i64 c.reach, .int .i64 c.spread]).alloc (.cells #[.int .i64 v.turn, .int .i64 v.dx, .int .i64 v.dy] 26)).alloc (.cells #[.int .i64 (b 0), .int .i64 (b 1), .int .i64 (b 2), .int .i64 (b 3)] 28)).ext z1).ext z2)
      have HV := Lib.hid ((((Blk.new' (w.alloc (.cells #[.int .i64 c.turns, .int .i64 c.shift, .int .i64 c.elastic, .int .i64 c.reach, .int .i64 c.spread] 38)) 26 #[.int .i64 v.turn, .int .i64 v.dx, .int .i64 v.dy] (w.heap.size + 1) (by simp)).alloc (.cells #[.int .i64 (b 0), .int .i64 (b 1), .int .i64 (b 2), .int .i64 (b 3)] 28)).ext z1).ext z2)
      have HB := Lib.hid (((Blk.new' ((w.alloc (.cells #[.int .i64 c.turns, .int .i64 c.shift, .int .i64 c.elastic, .int .i64 c.reach, .int .i64 c.spread] 38)).alloc (.cells #[.int .i64 v.turn, .int .i64 v.dx, .int .i64 v.dy] 26)) 28 #[.int .i64 (b 0), .int .i64 (b 1), .int .i64 (b 2), .int .i64 (b 3)] (w.heap.size + 1 + 1) (by simp)).ext z1).ext z2)
      clear hE0 hE1 t0 t1 t2 g1 g2 g3 g4
      generalize (ext (ext (((w.alloc (.cells #[.int .i64 c.turns, .int .i64 c.shift, .int .i64 c.elastic, .int .i64 c.reach, .int .i64 c.spread] 38)).alloc (.cells #[.int .i64 v.turn, .int .i64 v.dx, .int .i64 v.dy] 26)).alloc (.cells #[.int .i64 (b 0), .int .i64 (b 1), .int .i64 (b 2), .int .i64 (b 3)] 28)) z1) z2) = V at *
      have hgV : g < V.heap.size := Nat.lt_of_lt_of_le HGB.out HE.out.size
      have hcV : ∀ (k : Nat) (m : Mi), lp[k]? = some m → V.cell? ⟨g, off + k * 4, none⟩ = some (.int .i64 m.x) ∧ V.cell? ⟨g, off + k * 4 + 1, none⟩ = some (.int .i64 m.y) ∧ V.cell? ⟨g, off + k * 4 + 2, none⟩ = some (.int .u8 m.kind) ∧ V.cell? ⟨g, off + k * 4 + 3, none⟩ = some (.int .u8 m.dir) := fun k m hk => by
        obtain ⟨a1, a2, a3, a4⟩ := HCELL.out k m hk
        refine ⟨?_, ?_, ?_, ?_⟩ <;> rw [HE.out.cell (by exact HGB.out)] <;> assumption
      have HT := Lib.hid (pts_take a (by omega) hgV hcV)
      have HD := Lib.hid (pts_drop (a + 1) hgV hcV)
      have HX := Lib.hid (flatG_one mi_one (lp.take a))
      have HY := Lib.hid (flatG_one mi_one (lp.drop (a + 1)))
      have HXC := Lib.hid (hcV a x hx)
      have HGV := Lib.hid hgV
      have HFA := Lib.hid (flatG_app (f := Mi.cellsL) (lp.take a) (lp.drop (a + 1)))
      have HLL := Lib.hid (show a + (lp.length - (a + 1)) = (lp.take a ++ lp.drop (a + 1)).length by simp; omega)
      clear hcV hgV hx HGB HCELL
      have wa : IntKind.i64.wrap ((a : Int) + 1) = (a : Int) + 1 := IntWalk.i64_in _ (by omega)
      have hna : ((a : Int) + 1).toNat = a + 1 := by omega
      have hq1 : (a : Int) ≤ (cp : Int) := by omega
      have hq2 : (a : Int) + 1 ≤ (lp.length : Int) := by omega
      have hq3 : (0 : Int) ≤ (a : Int) + 1 := by omega
      have hq4 : (lp.length : Int) ≤ (cp : Int) := by omega
      have hq5 : ((lp.length : Int) - ((a : Int) + 1)).toNat = lp.length - (a + 1) := by omega
      by_cases hcd : cp = a + 1
      · subst hcd
        have hz : lp.length - (a + 1) = 0 := by omega
        have hq6 : (a : Int) ≤ (a : Int) + 1 := by omega
        have hq7 : (lp.length : Int) ≤ (a : Int) + 1 := by omega
        have hq8 : ((lp.length : Int) - ((a : Int) + 1)).toNat = 0 := by omega
        clear hq1 hq4 hq5
        have hz2 : a + (lp.length - (a + 1)) = a := by omega
        rw [hz2] at CS2 HLL
        go_region_law (first
          | (refine step_append_new rfl infoM (.tmp 53) (.tmp 56) rfl V.heap.size (((Ext.refl V).alloc (.cells #[] 24)).drew.size) _ rfl (own_empty 4 (Nat.le_refl _) ((Blk.new V 24 #[]).drew)) (some ⟨g, off, none⟩) a _ (flatG Mi.cellsL (lp.take a)) rfl (by exact HT.out.grow ((Ext.refl V).alloc _).drew) HX.out (by omega) (by omega) ?_; intro A1 c1 z3 hown1)
          | (refine step_append_ext rfl V (((Ext.refl V).alloc _).drew.ext z3) infoM (.tmp 57) (.tmp 61) rfl (.slice A1 a c1) a (flatG Mi.cellsL (lp.take a)) rfl hown1 (some ⟨g, off, none⟩) 0 _ [] rfl (Slc.none_ _ _ _) (by simp) (by omega) (by omega) ?_; intro A2 c2 z4 hown2))
        have hs : Pts (ext V z4) A2 (lp.take a ++ lp.drop (a + 1)) := pts_own (c := c2) (by rw [← HLL.out, HFA.out]; rw [show lp.drop (a + 1) = [] from List.drop_of_length_le (by omega)]; exact hown2)
        have HS := Lib.hid hs
        have HE4 := Lib.hid (HE.out.ext z4)
        have HC4 := Lib.hid (HC.out.ext z4)
        have HV4 := Lib.hid (HV.out.ext z4)
        have HB4 := Lib.hid (HB.out.ext z4)
        have HXC4 := Lib.hid (show ((ext V z4).cell? ⟨g, off + a * 4, none⟩ = some (.int .i64 x.x) ∧ (ext V z4).cell? ⟨g, off + a * 4 + 1, none⟩ = some (.int .i64 x.y) ∧ (ext V z4).cell? ⟨g, off + a * 4 + 2, none⟩ = some (.int .u8 x.kind) ∧ (ext V z4).cell? ⟨g, off + a * 4 + 3, none⟩ = some (.int .u8 x.dir)) ∧ g < (ext V z4).heap.size from by
          have hX := Ext.ext_self V z4
          refine ⟨?_, Nat.lt_of_lt_of_le HGV.out hX.size⟩
          obtain ⟨a1, a2, a3, a4⟩ := HXC.out
          refine ⟨?_, ?_, ?_, ?_⟩ <;> rw [hX.cell (by exact HGV.out)] <;> assumption)
        clear hs hown1 hown2 HE HC HV HB HXC HGV HT HD HX HY HFA HLL
        generalize ext V z4 = W1 at *
        have cq0 : W1.cell? ⟨w.heap.size, 0, none⟩ = some (.int .i64 c.turns) := HC4.out.cell 0
        have cq1 : W1.cell? ⟨w.heap.size, 1, none⟩ = some (.int .i64 c.shift) := HC4.out.cell 1
        have cq2 : W1.cell? ⟨w.heap.size, 2, none⟩ = some (.int .i64 c.elastic) := HC4.out.cell 2
        have cq3 : W1.cell? ⟨w.heap.size, 3, none⟩ = some (.int .i64 c.reach) := HC4.out.cell 3
        have cq4 : W1.cell? ⟨w.heap.size, 4, none⟩ = some (.int .i64 c.spread) := HC4.out.cell 4
        have oC := Old.mk HC4.out.lt
        have vq0 : W1.cell? ⟨w.heap.size + 1, 0, none⟩ = some (.int .i64 v.turn) := HV4.out.cell 0
        have vq1 : W1.cell? ⟨w.heap.size + 1, 1, none⟩ = some (.int .i64 v.dx) := HV4.out.cell 1
        have vq2 : W1.cell? ⟨w.heap.size + 1, 2, none⟩ = some (.int .i64 v.dy) := HV4.out.cell 2
        have oV := Old.mk HV4.out.lt
        have bq0 : W1.cell? ⟨w.heap.size + 1 + 1, 0, none⟩ = some (.int .i64 (b 0)) := HB4.out.cell 0
        have bq1 : W1.cell? ⟨w.heap.size + 1 + 1, 1, none⟩ = some (.int .i64 (b 1)) := HB4.out.cell 1
        have bq2 : W1.cell? ⟨w.heap.size + 1 + 1, 2, none⟩ = some (.int .i64 (b 2)) := HB4.out.cell 2
        have bq3 : W1.cell? ⟨w.heap.size + 1 + 1, 3, none⟩ = some (.int .i64 (b 3)) := HB4.out.cell 3
        have oB := Old.mk HB4.out.lt
        go_wp2_with fail
        refine Calls.ext (CS2.out _ _ _ _ _ HS.out (HQ.out.grow HE4.out)) fun z5 => ?_
        go_wp2_with fail
        have HE5 := Lib.hid (HE4.out.ext z5)
        have HC5 := Lib.hid (HC4.out.ext z5)
        have HV5 := Lib.hid (HV4.out.ext z5)
        have HB5 := Lib.hid (HB4.out.ext z5)
        have HXC5 := Lib.hid (show ((ext W1 z5).cell? ⟨g, off + a * 4, none⟩ = some (.int .i64 x.x) ∧ (ext W1 z5).cell? ⟨g, off + a * 4 + 1, none⟩ = some (.int .i64 x.y) ∧ (ext W1 z5).cell? ⟨g, off + a * 4 + 2, none⟩ = some (.int .u8 x.kind) ∧ (ext W1 z5).cell? ⟨g, off + a * 4 + 3, none⟩ = some (.int .u8 x.dir)) ∧ g < (ext W1 z5).heap.size from by
          have hX := Ext.ext_self W1 z5
          have hg := HXC4.out.2
          refine ⟨?_, Nat.lt_of_lt_of_le hg hX.size⟩
          obtain ⟨⟨a1, a2, a3, a4⟩, -⟩ := HXC4.out
          refine ⟨?_, ?_, ?_, ?_⟩ <;> rw [hX.cell (by exact hg)] <;> assumption)
        clear HE4 HC4 HV4 HB4 HXC4 HS
        clear cq0 cq1 cq2 cq3 cq4 vq0 vq1 vq2 bq0 bq1 bq2 bq3 oC oV oB
        generalize ext W1 z5 = W2 at *
        have cq0 : W2.cell? ⟨w.heap.size, 0, none⟩ = some (.int .i64 c.turns) := HC5.out.cell 0
        have cq1 : W2.cell? ⟨w.heap.size, 1, none⟩ = some (.int .i64 c.shift) := HC5.out.cell 1
        have cq2 : W2.cell? ⟨w.heap.size, 2, none⟩ = some (.int .i64 c.elastic) := HC5.out.cell 2
        have cq3 : W2.cell? ⟨w.heap.size, 3, none⟩ = some (.int .i64 c.reach) := HC5.out.cell 3
        have cq4 : W2.cell? ⟨w.heap.size, 4, none⟩ = some (.int .i64 c.spread) := HC5.out.cell 4
        have oC := Old.mk HC5.out.lt
        have vq0 : W2.cell? ⟨w.heap.size + 1, 0, none⟩ = some (.int .i64 v.turn) := HV5.out.cell 0
        have vq1 : W2.cell? ⟨w.heap.size + 1, 1, none⟩ = some (.int .i64 v.dx) := HV5.out.cell 1
        have vq2 : W2.cell? ⟨w.heap.size + 1, 2, none⟩ = some (.int .i64 v.dy) := HV5.out.cell 2
        have oV := Old.mk HV5.out.lt
        have bq0 : W2.cell? ⟨w.heap.size + 1 + 1, 0, none⟩ = some (.int .i64 (b 0)) := HB5.out.cell 0
        have bq1 : W2.cell? ⟨w.heap.size + 1 + 1, 1, none⟩ = some (.int .i64 (b 1)) := HB5.out.cell 1
        have bq2 : W2.cell? ⟨w.heap.size + 1 + 1, 2, none⟩ = some (.int .i64 (b 2)) := HB5.out.cell 2
        have bq3 : W2.cell? ⟨w.heap.size + 1 + 1, 3, none⟩ = some (.int .i64 (b 3)) := HB5.out.cell 3
        have oB := Old.mk HB5.out.lt
        obtain ⟨⟨x0, x1, x2, x3⟩, hgx⟩ := HXC5.out
        have oX := Old.mk hgx
        obtain ⟨q1, q2, q3, q4, w1, w2⟩ := HQS.out
        have hai : (a : Int) < (lp.length : Int) := by omega
        clear hq2 hq3
        go_region_held3 (fun w' => w'.cell? ⟨w.heap.size, 0, none⟩ = some (.int .i64 c.turns) ∧ w'.cell? ⟨w.heap.size, 1, none⟩ = some (.int .i64 c.shift) ∧ w'.cell? ⟨w.heap.size, 2, none⟩ = some (.int .i64 c.elastic) ∧ w'.cell? ⟨w.heap.size, 3, none⟩ = some (.int .i64 c.reach) ∧ w'.cell? ⟨w.heap.size, 4, none⟩ = some (.int .i64 c.spread) ∧ w'.cell? ⟨w.heap.size + 1, 0, none⟩ = some (.int .i64 v.turn) ∧ w'.cell? ⟨w.heap.size + 1, 1, none⟩ = some (.int .i64 v.dx) ∧ w'.cell? ⟨w.heap.size + 1, 2, none⟩ = some (.int .i64 v.dy) ∧ w'.cell? ⟨w.heap.size + 1 + 1, 0, none⟩ = some (.int .i64 (b 0)) ∧ w'.cell? ⟨w.heap.size + 1 + 1, 1, none⟩ = some (.int .i64 (b 1)) ∧ w'.cell? ⟨w.heap.size + 1 + 1, 2, none⟩ = some (.int .i64 (b 2)) ∧ w'.cell? ⟨w.heap.size + 1 + 1, 3, none⟩ = some (.int .i64 (b 3)) ∧ w'.cell? ⟨g, off + a * 4, none⟩ = some (.int .i64 x.x) ∧ w'.cell? ⟨g, off + a * 4 + 1, none⟩ = some (.int .i64 x.y) ∧ w'.cell? ⟨g, off + a * 4 + 2, none⟩ = some (.int .u8 x.kind) ∧ w'.cell? ⟨g, off + a * 4 + 3, none⟩ = some (.int .u8 x.dir)) (simp [go_sem, cq0, cq1, cq2, cq3, cq4, vq0, vq1, vq2, bq0, bq1, bq2, bq3, x0, x1, x2, x3]) (first
          | (refine step_call_ext rfl 21 [.tmp 77, .tmp 78, .tmp 79, .tmp 80, .tmp 81] #[22, 22, 38, 26, 28] rfl (by kernel_rfl) [.slice (some ⟨W2.heap.size, 0, none⟩) 1 1, .slice Aq lq.length cq, c.val, v.val, bendV b] rfl (CS3.out _ _ _ _ _ (pts_one (m := x) (by repeat' (first | with_reducible exact Blk.new' _ _ _ _ (by simp) | with_reducible refine Blk.drew ?_ | with_reducible refine Blk.alloc ?_ _))) (HQ.out.grow (HE5.out.trans (by repeat' (first | with_reducible exact Ext.refl _ | with_reducible refine Ext.alloc ?_ _ | with_reducible refine Ext.drew ?_))))) ?_; intro z6))
        all_goals
          go_wp2_with fail
          all_goals
            go_ret
            exact ⟨rfl, ((HE5.out.alloc _).drew).ext z6⟩
      · have hac : a + 1 ≤ cp := by omega
        go_region_law (first
          | (refine step_append_new rfl infoM (.tmp 53) (.tmp 56) rfl V.heap.size (((Ext.refl V).alloc (.cells #[] 24)).drew.size) _ rfl (own_empty 4 (Nat.le_refl _) ((Blk.new V 24 #[]).drew)) (some ⟨g, off, none⟩) a _ (flatG Mi.cellsL (lp.take a)) rfl (by exact HT.out.grow ((Ext.refl V).alloc _).drew) HX.out (by omega) (by omega) ?_; intro A1 c1 z3 hown1)
          | (refine step_append_ext rfl V (((Ext.refl V).alloc _).drew.ext z3) infoM (.tmp 57) (.tmp 61) rfl (.slice A1 a c1) a (flatG Mi.cellsL (lp.take a)) rfl hown1 (some ⟨g, off + (a + 1) * 4, none⟩) (lp.length - (a + 1)) _ (flatG Mi.cellsL (lp.drop (a + 1))) rfl (by exact HD.out.grow (((Ext.refl V).alloc _).drew.ext z3)) HY.out (by omega) (by omega) ?_; intro A2 c2 z4 hown2))
        have hs : Pts (ext V z4) A2 (lp.take a ++ lp.drop (a + 1)) := pts_own (c := c2) (by rw [← HLL.out, HFA.out]; exact hown2)
        have HS := Lib.hid hs
        have HE4 := Lib.hid (HE.out.ext z4)
        have HC4 := Lib.hid (HC.out.ext z4)
        have HV4 := Lib.hid (HV.out.ext z4)
        have HB4 := Lib.hid (HB.out.ext z4)
        have HXC4 := Lib.hid (show ((ext V z4).cell? ⟨g, off + a * 4, none⟩ = some (.int .i64 x.x) ∧ (ext V z4).cell? ⟨g, off + a * 4 + 1, none⟩ = some (.int .i64 x.y) ∧ (ext V z4).cell? ⟨g, off + a * 4 + 2, none⟩ = some (.int .u8 x.kind) ∧ (ext V z4).cell? ⟨g, off + a * 4 + 3, none⟩ = some (.int .u8 x.dir)) ∧ g < (ext V z4).heap.size from by
          have hX := Ext.ext_self V z4
          refine ⟨?_, Nat.lt_of_lt_of_le HGV.out hX.size⟩
          obtain ⟨a1, a2, a3, a4⟩ := HXC.out
          refine ⟨?_, ?_, ?_, ?_⟩ <;> rw [hX.cell (by exact HGV.out)] <;> assumption)
        clear hs hown1 hown2 HE HC HV HB HXC HGV HT HD HX HY HFA HLL
        generalize ext V z4 = W1 at *
        have cq0 : W1.cell? ⟨w.heap.size, 0, none⟩ = some (.int .i64 c.turns) := HC4.out.cell 0
        have cq1 : W1.cell? ⟨w.heap.size, 1, none⟩ = some (.int .i64 c.shift) := HC4.out.cell 1
        have cq2 : W1.cell? ⟨w.heap.size, 2, none⟩ = some (.int .i64 c.elastic) := HC4.out.cell 2
        have cq3 : W1.cell? ⟨w.heap.size, 3, none⟩ = some (.int .i64 c.reach) := HC4.out.cell 3
        have cq4 : W1.cell? ⟨w.heap.size, 4, none⟩ = some (.int .i64 c.spread) := HC4.out.cell 4
        have oC := Old.mk HC4.out.lt
        have vq0 : W1.cell? ⟨w.heap.size + 1, 0, none⟩ = some (.int .i64 v.turn) := HV4.out.cell 0
        have vq1 : W1.cell? ⟨w.heap.size + 1, 1, none⟩ = some (.int .i64 v.dx) := HV4.out.cell 1
        have vq2 : W1.cell? ⟨w.heap.size + 1, 2, none⟩ = some (.int .i64 v.dy) := HV4.out.cell 2
        have oV := Old.mk HV4.out.lt
        have bq0 : W1.cell? ⟨w.heap.size + 1 + 1, 0, none⟩ = some (.int .i64 (b 0)) := HB4.out.cell 0
        have bq1 : W1.cell? ⟨w.heap.size + 1 + 1, 1, none⟩ = some (.int .i64 (b 1)) := HB4.out.cell 1
        have bq2 : W1.cell? ⟨w.heap.size + 1 + 1, 2, none⟩ = some (.int .i64 (b 2)) := HB4.out.cell 2
        have bq3 : W1.cell? ⟨w.heap.size + 1 + 1, 3, none⟩ = some (.int .i64 (b 3)) := HB4.out.cell 3
        have oB := Old.mk HB4.out.lt
        go_wp2_with fail
        refine Calls.ext (CS2.out _ _ _ _ _ HS.out (HQ.out.grow HE4.out)) fun z5 => ?_
        go_wp2_with fail
        have HE5 := Lib.hid (HE4.out.ext z5)
        have HC5 := Lib.hid (HC4.out.ext z5)
        have HV5 := Lib.hid (HV4.out.ext z5)
        have HB5 := Lib.hid (HB4.out.ext z5)
        have HXC5 := Lib.hid (show ((ext W1 z5).cell? ⟨g, off + a * 4, none⟩ = some (.int .i64 x.x) ∧ (ext W1 z5).cell? ⟨g, off + a * 4 + 1, none⟩ = some (.int .i64 x.y) ∧ (ext W1 z5).cell? ⟨g, off + a * 4 + 2, none⟩ = some (.int .u8 x.kind) ∧ (ext W1 z5).cell? ⟨g, off + a * 4 + 3, none⟩ = some (.int .u8 x.dir)) ∧ g < (ext W1 z5).heap.size from by
          have hX := Ext.ext_self W1 z5
          have hg := HXC4.out.2
          refine ⟨?_, Nat.lt_of_lt_of_le hg hX.size⟩
          obtain ⟨⟨a1, a2, a3, a4⟩, -⟩ := HXC4.out
          refine ⟨?_, ?_, ?_, ?_⟩ <;> rw [hX.cell (by exact hg)] <;> assumption)
        clear HE4 HC4 HV4 HB4 HXC4 HS
        clear cq0 cq1 cq2 cq3 cq4 vq0 vq1 vq2 bq0 bq1 bq2 bq3 oC oV oB
        generalize ext W1 z5 = W2 at *
        have cq0 : W2.cell? ⟨w.heap.size, 0, none⟩ = some (.int .i64 c.turns) := HC5.out.cell 0
        have cq1 : W2.cell? ⟨w.heap.size, 1, none⟩ = some (.int .i64 c.shift) := HC5.out.cell 1
        have cq2 : W2.cell? ⟨w.heap.size, 2, none⟩ = some (.int .i64 c.elastic) := HC5.out.cell 2
        have cq3 : W2.cell? ⟨w.heap.size, 3, none⟩ = some (.int .i64 c.reach) := HC5.out.cell 3
        have cq4 : W2.cell? ⟨w.heap.size, 4, none⟩ = some (.int .i64 c.spread) := HC5.out.cell 4
        have oC := Old.mk HC5.out.lt
        have vq0 : W2.cell? ⟨w.heap.size + 1, 0, none⟩ = some (.int .i64 v.turn) := HV5.out.cell 0
        have vq1 : W2.cell? ⟨w.heap.size + 1, 1, none⟩ = some (.int .i64 v.dx) := HV5.out.cell 1
        have vq2 : W2.cell? ⟨w.heap.size + 1, 2, none⟩ = some (.int .i64 v.dy) := HV5.out.cell 2
        have oV := Old.mk HV5.out.lt
        have bq0 : W2.cell? ⟨w.heap.size + 1 + 1, 0, none⟩ = some (.int .i64 (b 0)) := HB5.out.cell 0
        have bq1 : W2.cell? ⟨w.heap.size + 1 + 1, 1, none⟩ = some (.int .i64 (b 1)) := HB5.out.cell 1
        have bq2 : W2.cell? ⟨w.heap.size + 1 + 1, 2, none⟩ = some (.int .i64 (b 2)) := HB5.out.cell 2
        have bq3 : W2.cell? ⟨w.heap.size + 1 + 1, 3, none⟩ = some (.int .i64 (b 3)) := HB5.out.cell 3
        have oB := Old.mk HB5.out.lt
        obtain ⟨⟨x0, x1, x2, x3⟩, hgx⟩ := HXC5.out
        have oX := Old.mk hgx
        obtain ⟨q1, q2, q3, q4, w1, w2⟩ := HQS.out
        have hai : (a : Int) < (lp.length : Int) := by omega
        clear hq2 hq3
        go_region_held3 (fun w' => w'.cell? ⟨w.heap.size, 0, none⟩ = some (.int .i64 c.turns) ∧ w'.cell? ⟨w.heap.size, 1, none⟩ = some (.int .i64 c.shift) ∧ w'.cell? ⟨w.heap.size, 2, none⟩ = some (.int .i64 c.elastic) ∧ w'.cell? ⟨w.heap.size, 3, none⟩ = some (.int .i64 c.reach) ∧ w'.cell? ⟨w.heap.size, 4, none⟩ = some (.int .i64 c.spread) ∧ w'.cell? ⟨w.heap.size + 1, 0, none⟩ = some (.int .i64 v.turn) ∧ w'.cell? ⟨w.heap.size + 1, 1, none⟩ = some (.int .i64 v.dx) ∧ w'.cell? ⟨w.heap.size + 1, 2, none⟩ = some (.int .i64 v.dy) ∧ w'.cell? ⟨w.heap.size + 1 + 1, 0, none⟩ = some (.int .i64 (b 0)) ∧ w'.cell? ⟨w.heap.size + 1 + 1, 1, none⟩ = some (.int .i64 (b 1)) ∧ w'.cell? ⟨w.heap.size + 1 + 1, 2, none⟩ = some (.int .i64 (b 2)) ∧ w'.cell? ⟨w.heap.size + 1 + 1, 3, none⟩ = some (.int .i64 (b 3)) ∧ w'.cell? ⟨g, off + a * 4, none⟩ = some (.int .i64 x.x) ∧ w'.cell? ⟨g, off + a * 4 + 1, none⟩ = some (.int .i64 x.y) ∧ w'.cell? ⟨g, off + a * 4 + 2, none⟩ = some (.int .u8 x.kind) ∧ w'.cell? ⟨g, off + a * 4 + 3, none⟩ = some (.int .u8 x.dir)) (simp [go_sem, cq0, cq1, cq2, cq3, cq4, vq0, vq1, vq2, bq0, bq1, bq2, bq3, x0, x1, x2, x3]) (first
          | (refine step_call_ext rfl 21 [.tmp 77, .tmp 78, .tmp 79, .tmp 80, .tmp 81] #[22, 22, 38, 26, 28] rfl (by kernel_rfl) [.slice (some ⟨W2.heap.size, 0, none⟩) 1 1, .slice Aq lq.length cq, c.val, v.val, bendV b] rfl (CS3.out _ _ _ _ _ (pts_one (m := x) (by repeat' (first | with_reducible exact Blk.new' _ _ _ _ (by simp) | with_reducible refine Blk.drew ?_ | with_reducible refine Blk.alloc ?_ _))) (HQ.out.grow (HE5.out.trans (by repeat' (first | with_reducible exact Ext.refl _ | with_reducible refine Ext.alloc ?_ _ | with_reducible refine Ext.drew ?_))))) ?_; intro z6))
        all_goals
          go_wp2_with fail
          all_goals
            go_ret
            exact ⟨rfl, ((HE5.out.alloc _).drew).ext z6⟩
    · have CS := Lib.hid (fun A A' d d' w h1 h2 => Score_any c lp lq v b hp hq hnp hnq A A' d d' w h1 h2)
      obtain ⟨e, he, hT⟩ := score_err hok
      rw [hT] at CS
      clear hT hok hp hq hx
      go_enter Try.func12, Try.ntmps12
      go_wp2_with fail
      refine Calls.ext (CA.out _) fun z1 => ?_
      go_wp2_with fail
      have hE1 := hE0.ext z1
      refine Calls.ext (CS.out _ _ _ _ _ (HP.out.grow hE1) (HQ.out.grow hE1)) fun z2 => ?_
      go_wp2_with fail
      go_ret
      exact ⟨rfl, hE1.ext z2⟩
  · clear hp hq
    by_cases hnp : lp.length ≤ 100
    · have hnp' : ((lp.length : Nat) : Int) ≤ 100 := by omega
      by_cases hnq : lq.length ≤ 100
      · have hnq' : ((lq.length : Nat) : Int) ≤ 100 := by omega
        by_cases h0 : 0 ≤ at_
        · have h1 : decide ((lp.length : Int) ≤ at_) = true := by simp; omega
          have t0 : decide (at_ < 0) = false := by simpa using h0
          clear hn
          go_enter Try.func12, Try.ntmps12
          go_wp2_with fail
          refine Calls.ext (CA.out _) fun z1 => ?_
          go_wp2_with fail
          go_ret
          exact ⟨rfl, hE0.ext z1⟩
        · have t0 : decide (at_ < 0) = true := by simp; omega
          clear hn h0
          go_enter Try.func12, Try.ntmps12
          go_wp2_with fail
          refine Calls.ext (CA.out _) fun z1 => ?_
          go_wp2_with fail
          go_ret
          exact ⟨rfl, hE0.ext z1⟩
      · have hnq' : (100 : Int) < ((lq.length : Nat) : Int) := by omega
        clear hn
        go_enter Try.func12, Try.ntmps12
        go_wp2_with fail
        refine Calls.ext (CA.out _) fun z1 => ?_
        go_wp2_with fail
        go_ret
        exact ⟨rfl, hE0.ext z1⟩
    · have hnp' : (100 : Int) < ((lp.length : Nat) : Int) := by omega
      clear hn
      go_enter Try.func12, Try.ntmps12
      go_wp2_with fail
      refine Calls.ext (CA.out _) fun z1 => ?_
      go_wp2_with fail
      go_ret
      exact ⟨rfl, hE0.ext z1⟩
set_option maxRecDepth 100000 in
theorem alignOne_lifted (os : Os) (started : os.Started) (H : Type) (enc : TypeId × Value → H) :
    ReturnsInHanded {} Try.checked os 12 .any (Rows.alignOneSpec.pre6 enc Try.prog Try.f12 Rows.alignOneRow.domain false) (Rows.alignOneSpec.post enc Try.prog Try.f12 false true false false) := by
  refine returnsInHanded_of_change (C := Try.checked) own started (by kernel_rfl) Try.func12
    (ChangeSpec.witness6 (enc := enc) (C := Try.checked) false ⟨#[], #[.slice none 0 0, .slice none 0 0, .agg #[.int .i64 0, .int .i64 0, .int .i64 0, .int .i64 0, .int .i64 0], .agg #[.int .i64 0, .int .i64 0, .int .i64 0], .agg (Array.replicate 4 (.int .i64 0)), .int .i64 0], []⟩ 8 (by kernel_rfl) (by kernel_rfl) (by kernel_rfl) (by kernel_rfl)) ?_
  intro W base args ds gs before hval0 hW hcnd _
  have hval : ∀ (j : Nat) t v, Try.f12.params[j]? = some t → args[j]? = some v → Value.okWide Try.prog W .any base t v := hval0
  have hW' := hW
  obtain ⟨p, q, hA0, hV, rfl, hfz, hnd⟩ := hW
  have hA : DataW.TrodAll enc Try.prog W 0 (fun _ => true) true Try.f12.params.toList args.toList ds p := hA0
  rw [Try.params12] at hA hval
  obtain ⟨v0, vs0, d0, ds0, p0, q0, hargs, rfl, rfl, h0, r0⟩ := trodAll_cons hA
  obtain ⟨v1, vs1, d1, ds1, p1, q1, rfl, rfl, rfl, h1, r1⟩ := trodAll_cons r0
  obtain ⟨v2, vs2, d2, ds2, p2, q2, rfl, rfl, rfl, h2, r2⟩ := trodAll_cons r1
  obtain ⟨v3, vs3, d3, ds3, p3, q3, rfl, rfl, rfl, h3, r3⟩ := trodAll_cons r2
  obtain ⟨v4, vs4, d4, ds4, p4, q4, rfl, rfl, rfl, h4, r4⟩ := trodAll_cons r3
  obtain ⟨v5, vs5, d5, ds5, p5, q5, rfl, rfl, rfl, h5, r5⟩ := trodAll_cons r4
  obtain ⟨rfl, rfl, rfl⟩ := trodAll_nil r5
  obtain rfl : args = #[v0, v1, v2, v3, v4, v5] := by cases args; simp_all
  obtain ⟨rfl, rfl⟩ := trodVars_none hV
  have k0 := h0
  have lt0 : ∀ x ∈ p0, x.block < W.heap.size := by obtain ⟨m, hm⟩ := k0; exact DataW.trod_lt m _ _ _ hm
  obtain ⟨A0, rows0, cap0, rfl, hlc0, hcm0, hwf0, hrow0⟩ := open_rows (ks := [.i64, .i64, .u8, .u8]) Try.underlying22 Try.underlying24 (by kernel_rfl) (by kernel_rfl) (kindsOf_of (by kernel_rfl)) (by decide) (hval 0 22 v0 rfl rfl) h0
  have k1 := h1
  have lt1 : ∀ x ∈ p1, x.block < W.heap.size := by obtain ⟨m, hm⟩ := k1; exact DataW.trod_lt m _ _ _ hm
  obtain ⟨A1, rows1, cap1, rfl, hlc1, hcm1, hwf1, hrow1⟩ := open_rows (ks := [.i64, .i64, .u8, .u8]) Try.underlying22 Try.underlying24 (by kernel_rfl) (by kernel_rfl) (kindsOf_of (by kernel_rfl)) (by decide) (hval 1 22 v1 rfl rfl) h1
  have k2 := h2
  have lt2 : ∀ x ∈ p2, x.block < W.heap.size := by obtain ⟨m, hm⟩ := k2; exact DataW.trod_lt m _ _ _ hm
  obtain ⟨ns2, hl2, hv2, wf2⟩ := open_nums (ks := [.i64, .i64, .i64, .i64, .i64]) Try.underlying38 (by kernel_rfl) (by kernel_rfl) (kindsOf_of (by kernel_rfl)) (hval 2 38 v2 rfl rfl) h2
  have k3 := h3
  have lt3 : ∀ x ∈ p3, x.block < W.heap.size := by obtain ⟨m, hm⟩ := k3; exact DataW.trod_lt m _ _ _ hm
  obtain ⟨ns3, hl3, hv3, wf3⟩ := open_nums (ks := [.i64, .i64, .i64]) Try.underlying26 (by kernel_rfl) (by kernel_rfl) (kindsOf_of (by kernel_rfl)) (hval 3 26 v3 rfl rfl) h3
  have k4 := h4
  have lt4 : ∀ x ∈ p4, x.block < W.heap.size := by obtain ⟨m, hm⟩ := k4; exact DataW.trod_lt m _ _ _ hm
  obtain ⟨ns4, hl4, hv4, wf4⟩ := open_flat (ks := (List.replicate 4 .i64)) (by kernel_rfl) (hval 4 28 v4 rfl rfl)
  have k5 := h5
  have lt5 : ∀ x ∈ p5, x.block < W.heap.size := by obtain ⟨m, hm⟩ := k5; exact DataW.trod_lt m _ _ _ hm
  obtain ⟨a5, rfl, _, _, w5⟩ := open_int Try.underlying3 (hval 5 3 v5 rfl rfl) h5
  clear hA0 hval0
  obtain ⟨l0, hr0, hp0, hk0, hc0⟩ := pts_of_rows hwf0 hrow0 hlc0
  obtain ⟨l1, hr1, hp1, hk1, hc1⟩ := pts_of_rows hwf1 hrow1 hlc1
  obtain ⟨c2, hcl2⟩ := cl_of hl2
  rw [hcl2] at hv2
  subst hv2
  obtain ⟨mv3, hmv3⟩ := mv_of hl3
  rw [hmv3] at hv3
  subst hv3
  obtain ⟨bd4, hbd4⟩ := bend_of hl4
  rw [hbd4] at hv4
  subst hv4
  refine (hr0 ▸ hr1 ▸ alignOne_walk A0 A1 cap0 cap1 l0 l1 c2 mv3 bd4 a5 W hp0 hp1 hk0 hk1 hc0).mono fun e W' ⟨he, bel⟩ => ?_
  subst he
  exact ⟨_, rfl, _, _, _, [], _, [], hW', trodAll_mk1 (shut_bool Try.underlying4 _), (trodAll_cons_mk (Below.trod laidOut (by kernel_rfl) (of_decide_eq_true (by kernel_rfl)) k0 bel lt0) (trodAll_cons_mk (Below.trod laidOut (by kernel_rfl) (of_decide_eq_true (by kernel_rfl)) k1 bel lt1) (trodAll_cons_mk (Below.trod laidOut (by kernel_rfl) (of_decide_eq_true (by kernel_rfl)) k2 bel lt2) (trodAll_cons_mk (Below.trod laidOut (by kernel_rfl) (of_decide_eq_true (by kernel_rfl)) k3 bel lt3) (trodAll_cons_mk (Below.trod laidOut (by kernel_rfl) (of_decide_eq_true (by kernel_rfl)) k4 bel lt4) (trodAll_cons_mk (Below.trod laidOut (by kernel_rfl) (of_decide_eq_true (by kernel_rfl)) k5 bel lt5) trodAll_mk0)))))), rfl, Below.frame bel _, fun h => by cases h⟩

theorem alignOne_holds : Rows.AlignOneSaid :=
  OpenClaim.holds_of_wide 12 Try.f12 rfl rfl rfl rfl rfl rfl rfl ⟨rfl, rfl, rfl, rfl, rfl⟩ rfl rfl rfl rfl rfl (by kernel_rfl) Try.func12 (by kernel_rfl)
    (of_decide_eq_true (by kernel_rfl)) (by unfold Func.isWrapper; first | (rw [if_pos (by decide +kernel)]; kernel_rfl) | (rw [if_neg (by decide +kernel)]; exact ⟨rfl, rfl⟩))
    (fun os started H enc _ => alignOne_lifted os started H enc)
end Go.Proofs.Ythejomcibobieaa
