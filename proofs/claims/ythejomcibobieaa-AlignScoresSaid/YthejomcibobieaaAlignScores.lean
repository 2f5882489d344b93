/- Proved: for all prints, class, move, bend and block, the call of whorllaw02.AlignScores returns true and leaves its arguments as they were. No conditions. -/
import Derived.Test.YthejomcibobieaaArgs
import Derived.Test.YthejomcibobieaaTryErr
import Derived.Test.YthejomcibobieaaCopies
import Derived.Test.YthejomcibobieaaEquals
namespace Go.Proofs.Ythejomcibobieaa
open Go.Joins Go.ChangeShapes Go.WideShapes Go.RowKit Go.Deep Go.ChangeAt

theorem bk_of {ns : List Int} (hl : ns.length = [IntKind.i64, .i64, .i64, .i64, .i64].length) :
    ∃ k : Bk, Value.agg (List.zipWith Value.int [IntKind.i64, .i64, .i64, .i64, .i64] ns).toArray = k.val := by
  match ns, hl with
  | [n0, n1, n2, n3, n4], _ => exact ⟨⟨n0, n1, n2, n3, n4⟩, rfl⟩
theorem scoreT_two (c : Cl) (lp lq : List Mi) (v : Mv) (b : Nat → Int) : ∃ x e : Int, scoreT c lp lq v b = .tuple #[.int .i64 x, .int .i64 e] := by
  unfold scoreT
  split
  · split <;> exact ⟨_, _, rfl⟩
  · exact ⟨_, _, rfl⟩
theorem boundT_two (c : Cl) (lp lq : List Mi) (k : Bk) : ∃ x e : Int, boundT c lp lq k = .tuple #[.int .i64 x, .int .i64 e] := by
  unfold boundT
  split
  · split <;> exact ⟨_, _, rfl⟩
  · exact ⟨_, _, rfl⟩
set_option maxRecDepth 100000 in
set_option maxHeartbeats 4000000 in
theorem alignScores_walk (Ap Aq : Option Addr) (cp cq : Nat) (lp lq : List Mi) (c : Cl) (v : Mv) (b : Nat → Int) (kb : Bk) (w : World) (hP : Pts w Ap lp) (hQ : Pts w Aq lq) (hp : ∀ m ∈ lp, 0 ≤ m.dir) (hq : ∀ m ∈ lq, 0 ≤ m.dir) :
    Calls Try.prog 4 #[.slice Ap lp.length cp, .slice Aq lq.length cq, c.val, v.val, bendV b, kb.val] w fun e w' => e = .returned (.bool true) ∧ Ext w w' := by
  have HP := Lib.hid hP
  have HQ := Lib.hid hQ
  clear hP hQ
  by_cases hn : lp.length ≤ 100 ∧ lq.length ≤ 100
  · obtain ⟨hnp, hnq⟩ := hn
    obtain ⟨s1, s2, hs⟩ := scoreT_two c lp lq v b
    obtain ⟨u1, u2, hu⟩ := boundT_two c lp lq kb
    obtain ⟨at1, at2, ha⟩ : ∃ (x : At) (y : Int), tryT c lp lq v = .tuple #[x.val, .int .i64 y] := ⟨_, _, rfl⟩
    have C1 := Lib.hid (fun A A' n n' w h1 h2 => hs ▸ Score_any c lp lq v b hp hq hnp hnq A A' n n' w h1 h2)
    have C2 := Lib.hid (fun A A' n n' w h1 h2 => hs ▸ refScore_any c lp lq v b hp hq hnp hnq A A' n n' w h1 h2)
    have C3 := Lib.hid (fun A A' n n' w h1 h2 => ha ▸ Try_any c lp lq v hp hq hnp hnq A A' n n' w h1 h2)
    have C4 := Lib.hid (fun A A' n n' w h1 h2 => ha ▸ refTry_any c lp lq v hp hq hnp hnq A A' n n' w h1 h2)
    have C5 := Lib.hid (fun A A' n n' w h1 h2 => hu ▸ Bound_any c lp lq kb hp hq hnp hnq A A' n n' w h1 h2)
    have C6 := Lib.hid (fun A A' n n' w h1 h2 => hu ▸ refBound_any c lp lq kb hp hq hnp hnq A A' n n' w h1 h2)
    have S1 := Lib.hid (fun A B c d w ha hb => samePrint_any A B c d lp w ha hb hnp)
    have S2 := Lib.hid (fun A B c d w ha hb => samePrint_any A B c d lq w ha hb hnq)
    clear hs hu ha hp hq
    have hq28 : ∀ w, (Op.equalIn 9999 28 (.agg #[.int .i64 at1.bd.a, .int .i64 at1.bd.b, .int .i64 at1.bd.c, .int .i64 at1.bd.d]) (.agg #[.int .i64 at1.bd.a, .int .i64 at1.bd.b, .int .i64 at1.bd.c, .int .i64 at1.bd.d])).run Try.prog w = .ok true w := fun w => by have := eq28 at1.bd at1.bd w; rwa [decide_eq_true rfl] at this
    have hnp' : ((lp.length : Nat) : Int) ≤ 100 := by omega
    have hnq' : ((lq.length : Nat) : Int) ≤ 100 := by omega
    have HSp := Lib.hid (HP.out.sl.slc mi_len)
    have HSq := Lib.hid (HQ.out.sl.slc mi_len)
    go_enter Try.func4, Try.ntmps4
    go_wp2_with (first | (at_builtin; refine wpList_append_ext rfl ((((w.alloc (.cells #[.int .i64 c.turns, .int .i64 c.shift, .int .i64 c.elastic, .int .i64 c.reach, .int .i64 c.spread] 38)).alloc (.cells #[.int .i64 v.turn, .int .i64 v.dx, .int .i64 v.dy] 26)).alloc (.cells #[.int .i64 (b 0), .int .i64 (b 1), .int .i64 (b 2), .int .i64 (b 3)] 28)).alloc (.cells #[.int .i64 kb.turn, .int .i64 kb.x0, .int .i64 kb.y0, .int .i64 kb.x1, .int .i64 kb.y1] 40)) (by exact (Ext.refl _).alloc _) infoM (.tmp 29) (.tmp 30) rfl _ 0 [] rfl (by exact own_empty 4 (by simp) (Blk.new' _ 24 #[] _ (by simp))) Ap lp.length cp (flatG Mi.cellsL lp) rfl (by exact HSp.out.grow ((((((Ext.refl w).alloc (.cells #[.int .i64 c.turns, .int .i64 c.shift, .int .i64 c.elastic, .int .i64 c.reach, .int .i64 c.spread] 38)).alloc (.cells #[.int .i64 v.turn, .int .i64 v.dx, .int .i64 v.dy] 26)).alloc (.cells #[.int .i64 (b 0), .int .i64 (b 1), .int .i64 (b 2), .int .i64 (b 3)] 28)).alloc (.cells #[.int .i64 kb.turn, .int .i64 kb.x0, .int .i64 kb.y0, .int .i64 kb.x1, .int .i64 kb.y1] 40)).alloc _)) (flatG_one mi_one lp) (by omega) (by omega) ?_; intro A1 n1 z1 hown1; replace hown1 := Lib.hid hown1) | (at_builtin; refine wpList_append_ext rfl (ext ((((w.alloc (.cells #[.int .i64 c.turns, .int .i64 c.shift, .int .i64 c.elastic, .int .i64 c.reach, .int .i64 c.spread] 38)).alloc (.cells #[.int .i64 v.turn, .int .i64 v.dx, .int .i64 v.dy] 26)).alloc (.cells #[.int .i64 (b 0), .int .i64 (b 1), .int .i64 (b 2), .int .i64 (b 3)] 28)).alloc (.cells #[.int .i64 kb.turn, .int .i64 kb.x0, .int .i64 kb.y0, .int .i64 kb.x1, .int .i64 kb.y1] 40)) z1) (by exact (Ext.refl _).alloc _) infoM (.tmp 32) (.tmp 33) rfl _ 0 [] rfl (by exact own_empty 4 (Nat.le_refl _) (Blk.new _ 24 #[])) Aq lq.length cq (flatG Mi.cellsL lq) rfl (by exact HSq.out.grow (((((((Ext.refl w).alloc (.cells #[.int .i64 c.turns, .int .i64 c.shift, .int .i64 c.elastic, .int .i64 c.reach, .int .i64 c.spread] 38)).alloc (.cells #[.int .i64 v.turn, .int .i64 v.dx, .int .i64 v.dy] 26)).alloc (.cells #[.int .i64 (b 0), .int .i64 (b 1), .int .i64 (b 2), .int .i64 (b 3)] 28)).alloc (.cells #[.int .i64 kb.turn, .int .i64 kb.x0, .int .i64 kb.y0, .int .i64 kb.x1, .int .i64 kb.y1] 40)).ext z1).alloc _)) (flatG_one mi_one lq) (by omega) (by omega) ?_; intro A2 n2 z2 hown2; replace hown2 := Lib.hid hown2))
    have k1 := hown1.out
    have k2 := hown2.out
    simp only [Nat.zero_add, List.nil_append] at k1 k2
    have HP1 := Lib.hid (pts_own (own_grow k1 (Ext.ext_self (ext ((((w.alloc (.cells #[.int .i64 c.turns, .int .i64 c.shift, .int .i64 c.elastic, .int .i64 c.reach, .int .i64 c.spread] 38)).alloc (.cells #[.int .i64 v.turn, .int .i64 v.dx, .int .i64 v.dy] 26)).alloc (.cells #[.int .i64 (b 0), .int .i64 (b 1), .int .i64 (b 2), .int .i64 (b 3)] 28)).alloc (.cells #[.int .i64 kb.turn, .int .i64 kb.x0, .int .i64 kb.y0, .int .i64 kb.x1, .int .i64 kb.y1] 40)) z1) z2)))
    have HQ1 := Lib.hid (pts_own k2)
    try simp only [Nat.zero_add]
    have H0 := Lib.hid ((((((Blk.new' w 38 #[.int .i64 c.turns, .int .i64 c.shift, .int .i64 c.elastic, .int .i64 c.reach, .int .i64 c.spread] (w.heap.size) (by simp)).alloc (.cells #[.int .i64 v.turn, .int .i64 v.dx, .int .i64 v.dy] 26)).alloc (.cells #[.int .i64 (b 0), .int .i64 (b 1), .int .i64 (b 2), .int .i64 (b 3)] 28)).alloc (.cells #[.int .i64 kb.turn, .int .i64 kb.x0, .int .i64 kb.y0, .int .i64 kb.x1, .int .i64 kb.y1] 40)).ext z1).ext z2)
    have H1 := Lib.hid (((((Blk.new' (w.alloc (.cells #[.int .i64 c.turns, .int .i64 c.shift, .int .i64 c.elastic, .int .i64 c.reach, .int .i64 c.spread] 38)) 26 #[.int .i64 v.turn, .int .i64 v.dx, .int .i64 v.dy] (w.heap.size + 1) (by simp)).alloc (.cells #[.int .i64 (b 0), .int .i64 (b 1), .int .i64 (b 2), .int .i64 (b 3)] 28)).alloc (.cells #[.int .i64 kb.turn, .int .i64 kb.x0, .int .i64 kb.y0, .int .i64 kb.x1, .int .i64 kb.y1] 40)).ext z1).ext z2)
    have H2 := Lib.hid ((((Blk.new' ((w.alloc (.cells #[.int .i64 c.turns, .int .i64 c.shift, .int .i64 c.elastic, .int .i64 c.reach, .int .i64 c.spread] 38)).alloc (.cells #[.int .i64 v.turn, .int .i64 v.dx, .int .i64 v.dy] 26)) 28 #[.int .i64 (b 0), .int .i64 (b 1), .int .i64 (b 2), .int .i64 (b 3)] (w.heap.size + 1 + 1) (by simp)).alloc (.cells #[.int .i64 kb.turn, .int .i64 kb.x0, .int .i64 kb.y0, .int .i64 kb.x1, .int .i64 kb.y1] 40)).ext z1).ext z2)
    have H3 := Lib.hid (((Blk.new' (((w.alloc (.cells #[.int .i64 c.turns, .int .i64 c.shift, .int .i64 c.elastic, .int .i64 c.reach, .int .i64 c.spread] 38)).alloc (.cells #[.int .i64 v.turn, .int .i64 v.dx, .int .i64 v.dy] 26)).alloc (.cells #[.int .i64 (b 0), .int .i64 (b 1), .int .i64 (b 2), .int .i64 (b 3)] 28)) 40 #[.int .i64 kb.turn, .int .i64 kb.x0, .int .i64 kb.y0, .int .i64 kb.x1, .int .i64 kb.y1] (w.heap.size + 1 + 1 + 1) (by simp)).ext z1).ext z2)
    have HE := Lib.hid (((((((Ext.refl w).alloc (.cells #[.int .i64 c.turns, .int .i64 c.shift, .int .i64 c.elastic, .int .i64 c.reach, .int .i64 c.spread] 38)).alloc (.cells #[.int .i64 v.turn, .int .i64 v.dx, .int .i64 v.dy] 26)).alloc (.cells #[.int .i64 (b 0), .int .i64 (b 1), .int .i64 (b 2), .int .i64 (b 3)] 28)).alloc (.cells #[.int .i64 kb.turn, .int .i64 kb.x0, .int .i64 kb.y0, .int .i64 kb.x1, .int .i64 kb.y1] 40)).ext z1).ext z2)
    clear k1 k2 hown1 hown2 HSp HSq
    generalize (ext (ext ((((w.alloc (.cells #[.int .i64 c.turns, .int .i64 c.shift, .int .i64 c.elastic, .int .i64 c.reach, .int .i64 c.spread] 38)).alloc (.cells #[.int .i64 v.turn, .int .i64 v.dx, .int .i64 v.dy] 26)).alloc (.cells #[.int .i64 (b 0), .int .i64 (b 1), .int .i64 (b 2), .int .i64 (b 3)] 28)).alloc (.cells #[.int .i64 kb.turn, .int .i64 kb.x0, .int .i64 kb.y0, .int .i64 kb.x1, .int .i64 kb.y1] 40)) z1) z2) = V2 at *
    have c0 : V2.cell? ⟨w.heap.size, 0, none⟩ = some (.int .i64 c.turns) := H0.out.cell 0
    have c1 : V2.cell? ⟨w.heap.size, 1, none⟩ = some (.int .i64 c.shift) := H0.out.cell 1
    have c2 : V2.cell? ⟨w.heap.size, 2, none⟩ = some (.int .i64 c.elastic) := H0.out.cell 2
    have c3 : V2.cell? ⟨w.heap.size, 3, none⟩ = some (.int .i64 c.reach) := H0.out.cell 3
    have c4 : V2.cell? ⟨w.heap.size, 4, none⟩ = some (.int .i64 c.spread) := H0.out.cell 4
    have o0 := Old.mk H0.out.lt
    have v0 : V2.cell? ⟨w.heap.size + 1, 0, none⟩ = some (.int .i64 v.turn) := H1.out.cell 0
    have v1 : V2.cell? ⟨w.heap.size + 1, 1, none⟩ = some (.int .i64 v.dx) := H1.out.cell 1
    have v2 : V2.cell? ⟨w.heap.size + 1, 2, none⟩ = some (.int .i64 v.dy) := H1.out.cell 2
    have o1 := Old.mk H1.out.lt
    have b0 : V2.cell? ⟨w.heap.size + 1 + 1, 0, none⟩ = some (.int .i64 (b 0)) := H2.out.cell 0
    have b1 : V2.cell? ⟨w.heap.size + 1 + 1, 1, none⟩ = some (.int .i64 (b 1)) := H2.out.cell 1
    have b2 : V2.cell? ⟨w.heap.size + 1 + 1, 2, none⟩ = some (.int .i64 (b 2)) := H2.out.cell 2
    have b3 : V2.cell? ⟨w.heap.size + 1 + 1, 3, none⟩ = some (.int .i64 (b 3)) := H2.out.cell 3
    have o2 := Old.mk H2.out.lt
    have k0 : V2.cell? ⟨w.heap.size + 1 + 1 + 1, 0, none⟩ = some (.int .i64 kb.turn) := H3.out.cell 0
    have k1 : V2.cell? ⟨w.heap.size + 1 + 1 + 1, 1, none⟩ = some (.int .i64 kb.x0) := H3.out.cell 1
    have k2 : V2.cell? ⟨w.heap.size + 1 + 1 + 1, 2, none⟩ = some (.int .i64 kb.y0) := H3.out.cell 2
    have k3 : V2.cell? ⟨w.heap.size + 1 + 1 + 1, 3, none⟩ = some (.int .i64 kb.x1) := H3.out.cell 3
    have k4 : V2.cell? ⟨w.heap.size + 1 + 1 + 1, 4, none⟩ = some (.int .i64 kb.y1) := H3.out.cell 4
    have o3 := Old.mk H3.out.lt
    have hEE := HE.out
    have hEr := Ext.refl V2
    have fP : ∀ W', Ext V2 W' → Pts W' Ap lp := fun _ h => HP.out.grow (HE.out.trans h)
    have fQ : ∀ W', Ext V2 W' → Pts W' Aq lq := fun _ h => HQ.out.grow (HE.out.trans h)
    have gP : ∀ W', Ext V2 W' → Pts W' A1 lp := fun _ h => HP1.out.grow h
    have gQ : ∀ W', Ext V2 W' → Pts W' A2 lq := fun _ h => HQ1.out.grow h
    replace fP := Lib.hid fP
    replace fQ := Lib.hid fQ
    replace gP := Lib.hid gP
    replace gQ := Lib.hid gQ
    have HEr := Lib.hid hEr
    clear hEE hEr
    refine Calls.ext (C1.out A1 A2 n1 n2 _ (gP.out _ HEr.out) (gQ.out _ HEr.out)) fun z3 => ?_
    go_wp2_with fail
    have E3 := Lib.hid (HEr.out.ext z3)
    refine Calls.ext (C2.out Ap Aq cp cq _ (fP.out _ E3.out) (fQ.out _ E3.out)) fun z4 => ?_
    go_wp2_with fail
    have E4 := Lib.hid (E3.out.ext z4)
    refine Calls.ext (C3.out A1 A2 n1 n2 _ (gP.out _ E4.out) (gQ.out _ E4.out)) fun z5 => ?_
    go_wp2_with fail
    have E5 := Lib.hid ((E4.out.ext z5).alloc (.cells #[.int .i64 at1.mv.turn, .int .i64 at1.mv.dx, .int .i64 at1.mv.dy, .int .i64 at1.bd.a, .int .i64 at1.bd.b, .int .i64 at1.bd.c, .int .i64 at1.bd.d, .int .i64 at1.score] 46))
    refine Calls.ext (C4.out Ap Aq cp cq _ (fP.out _ E5.out) (fQ.out _ E5.out)) fun z6 => ?_
    go_wp2_with fail
    have E6 := Lib.hid ((E5.out.ext z6).alloc (.cells #[.int .i64 at1.mv.turn, .int .i64 at1.mv.dx, .int .i64 at1.mv.dy, .int .i64 at1.bd.a, .int .i64 at1.bd.b, .int .i64 at1.bd.c, .int .i64 at1.bd.d, .int .i64 at1.score] 46))
    refine Calls.ext (C5.out A1 A2 n1 n2 _ (gP.out _ E6.out) (gQ.out _ E6.out)) fun z7 => ?_
    go_wp2_with fail
    have E7 := Lib.hid (E6.out.ext z7)
    refine Calls.ext (C6.out Ap Aq cp cq _ (fP.out _ E7.out) (fQ.out _ E7.out)) fun z8 => ?_
    go_wp2_with fail
    have E8 := Lib.hid (E7.out.ext z8)
    refine Calls.ext (S1.out A1 Ap n1 cp _ (gP.out _ E8.out) (fP.out _ E8.out)) fun z9 => ?_
    go_wp2_with fail
    have E9 := Lib.hid (E8.out.ext z9)
    refine Calls.ext (S2.out A2 Aq n2 cq _ (gQ.out _ E9.out) (fQ.out _ E9.out)) fun z10 => ?_
    go_wp2_with fail
    go_ret
    exact ⟨rfl, HE.out.trans (E9.out.ext z10)⟩
  · have hE := (((((Ext.refl w).alloc (.cells #[.int .i64 c.turns, .int .i64 c.shift, .int .i64 c.elastic, .int .i64 c.reach, .int .i64 c.spread] 38)).alloc (.cells #[.int .i64 v.turn, .int .i64 v.dx, .int .i64 v.dy] 26)).alloc (.cells #[.int .i64 (b 0), .int .i64 (b 1), .int .i64 (b 2), .int .i64 (b 3)] 28)).alloc (.cells #[.int .i64 kb.turn, .int .i64 kb.x0, .int .i64 kb.y0, .int .i64 kb.x1, .int .i64 kb.y1] 40))
    by_cases hnp : lp.length ≤ 100
    · have hnp' : ((lp.length : Nat) : Int) ≤ 100 := by omega
      have hnq' : (100 : Int) < ((lq.length : Nat) : Int) := by omega
      clear hn
      go_enter Try.func4, Try.ntmps4
      go_wp2_with fail
      go_ret
      exact ⟨rfl, hE⟩
    · have hnp' : (100 : Int) < ((lp.length : Nat) : Int) := by omega
      clear hn
      go_enter Try.func4, Try.ntmps4
      go_wp2_with fail
      go_ret
      exact ⟨rfl, hE⟩
set_option maxRecDepth 100000 in
theorem alignScores_lifted (os : Os) (started : os.Started) (H : Type) (enc : TypeId × Value → H) :
    ReturnsInHanded {} Try.checked os 4 .any (Rows.alignScoresSpec.pre6 enc Try.prog Try.f4 Rows.alignScoresRow.domain false) (Rows.alignScoresSpec.post enc Try.prog Try.f4 false true false false) := by
  refine returnsInHanded_of_change (C := Try.checked) own started (by kernel_rfl) Try.func4
    (ChangeSpec.witness6 (enc := enc) (C := Try.checked) false ⟨#[], #[.slice none 0 0, .slice none 0 0, .agg #[.int .i64 0, .int .i64 0, .int .i64 0, .int .i64 0, .int .i64 0], .agg #[.int .i64 0, .int .i64 0, .int .i64 0], .agg (Array.replicate 4 (.int .i64 0)), .agg #[.int .i64 0, .int .i64 0, .int .i64 0, .int .i64 0, .int .i64 0]], []⟩ 8 (by kernel_rfl) (by kernel_rfl) (by kernel_rfl) (by kernel_rfl)) ?_
  intro W base args ds gs before hval0 hW hcnd _
  have hval : ∀ (j : Nat) t v, Try.f4.params[j]? = some t → args[j]? = some v → Value.okWide Try.prog W .any base t v := hval0
  have hW' := hW
  obtain ⟨p, q, hA0, hV, rfl, hfz, hnd⟩ := hW
  have hA : DataW.TrodAll enc Try.prog W 0 (fun _ => true) true Try.f4.params.toList args.toList ds p := hA0
  rw [Try.params4] at hA hval
  obtain ⟨v0, vs0, d0, ds0, p0, q0, hargs, rfl, rfl, h0, r0⟩ := trodAll_cons hA
  obtain ⟨v1, vs1, d1, ds1, p1, q1, rfl, rfl, rfl, h1, r1⟩ := trodAll_cons r0
  obtain ⟨v2, vs2, d2, ds2, p2, q2, rfl, rfl, rfl, h2, r2⟩ := trodAll_cons r1
  obtain ⟨v3, vs3, d3, ds3, p3, q3, rfl, rfl, rfl, h3, r3⟩ := trodAll_cons r2
  obtain ⟨v4, vs4, d4, ds4, p4, q4, rfl, rfl, rfl, h4, r4⟩ := trodAll_cons r3
  obtain ⟨v5, vs5, d5, ds5, p5, q5, rfl, rfl, rfl, h5, r5⟩ := trodAll_cons r4
  obtain ⟨rfl, rfl, rfl⟩ := trodAll_nil r5
  obtain rfl : args = #[v0, v1, v2, v3, v4, v5] := by cases args; simp_all
  obtain ⟨rfl, rfl⟩ := trodVars_none hV
  have k0 := h0
  have lt0 : ∀ x ∈ p0, x.block < W.heap.size := by obtain ⟨m, hm⟩ := k0; exact DataW.trod_lt m _ _ _ hm
  obtain ⟨A0, rows0, cap0, rfl, hlc0, hcm0, hwf0, hrow0⟩ := open_rows (ks := [.i64, .i64, .u8, .u8]) Try.underlying22 Try.underlying24 (by kernel_rfl) (by kernel_rfl) (kindsOf_of (by kernel_rfl)) (by decide) (hval 0 22 v0 rfl rfl) h0
  have k1 := h1
  have lt1 : ∀ x ∈ p1, x.block < W.heap.size := by obtain ⟨m, hm⟩ := k1; exact DataW.trod_lt m _ _ _ hm
  obtain ⟨A1, rows1, cap1, rfl, hlc1, hcm1, hwf1, hrow1⟩ := open_rows (ks := [.i64, .i64, .u8, .u8]) Try.underlying22 Try.underlying24 (by kernel_rfl) (by kernel_rfl) (kindsOf_of (by kernel_rfl)) (by decide) (hval 1 22 v1 rfl rfl) h1
  have k2 := h2
  have lt2 : ∀ x ∈ p2, x.block < W.heap.size := by obtain ⟨m, hm⟩ := k2; exact DataW.trod_lt m _ _ _ hm
  obtain ⟨ns2, hl2, hv2, wf2⟩ := open_nums (ks := [.i64, .i64, .i64, .i64, .i64]) Try.underlying38 (by kernel_rfl) (by kernel_rfl) (kindsOf_of (by kernel_rfl)) (hval 2 38 v2 rfl rfl) h2
  have k3 := h3
  have lt3 : ∀ x ∈ p3, x.block < W.heap.size := by obtain ⟨m, hm⟩ := k3; exact DataW.trod_lt m _ _ _ hm
  obtain ⟨ns3, hl3, hv3, wf3⟩ := open_nums (ks := [.i64, .i64, .i64]) Try.underlying26 (by kernel_rfl) (by kernel_rfl) (kindsOf_of (by kernel_rfl)) (hval 3 26 v3 rfl rfl) h3
  have k4 := h4
  have lt4 : ∀ x ∈ p4, x.block < W.heap.size := by obtain ⟨m, hm⟩ := k4; exact DataW.trod_lt m _ _ _ hm
  obtain ⟨ns4, hl4, hv4, wf4⟩ := open_flat (ks := (List.replicate 4 .i64)) (by kernel_rfl) (hval 4 28 v4 rfl rfl)
  have k5 := h5
  have lt5 : ∀ x ∈ p5, x.block < W.heap.size := by obtain ⟨m, hm⟩ := k5; exact DataW.trod_lt m _ _ _ hm
  obtain ⟨ns5, hl5, hv5, wf5⟩ := open_nums (ks := [.i64, .i64, .i64, .i64, .i64]) Try.underlying40 (by kernel_rfl) (by kernel_rfl) (kindsOf_of (by kernel_rfl)) (hval 5 40 v5 rfl rfl) h5
  clear hA0 hval0
  obtain ⟨l0, hr0, hp0, hk0, hc0⟩ := pts_of_rows hwf0 hrow0 hlc0
  obtain ⟨l1, hr1, hp1, hk1, hc1⟩ := pts_of_rows hwf1 hrow1 hlc1
  obtain ⟨c2, hcl2⟩ := cl_of hl2
  rw [hcl2] at hv2
  subst hv2
  obtain ⟨mv3, hmv3⟩ := mv_of hl3
  rw [hmv3] at hv3
  subst hv3
  obtain ⟨bd4, hbd4⟩ := bend_of hl4
  rw [hbd4] at hv4
  subst hv4
  obtain ⟨kb5, hkb5⟩ := bk_of hl5
  rw [hkb5] at hv5
  subst hv5
  refine (hr0 ▸ hr1 ▸ alignScores_walk A0 A1 cap0 cap1 l0 l1 c2 mv3 bd4 kb5 W hp0 hp1 hk0 hk1).mono fun e W' ⟨he, bel⟩ => ?_
  subst he
  exact ⟨_, rfl, _, _, _, [], _, [], hW', trodAll_mk1 (shut_bool Try.underlying4 _), (trodAll_cons_mk (Below.trod laidOut (by kernel_rfl) (of_decide_eq_true (by kernel_rfl)) k0 bel lt0) (trodAll_cons_mk (Below.trod laidOut (by kernel_rfl) (of_decide_eq_true (by kernel_rfl)) k1 bel lt1) (trodAll_cons_mk (Below.trod laidOut (by kernel_rfl) (of_decide_eq_true (by kernel_rfl)) k2 bel lt2) (trodAll_cons_mk (Below.trod laidOut (by kernel_rfl) (of_decide_eq_true (by kernel_rfl)) k3 bel lt3) (trodAll_cons_mk (Below.trod laidOut (by kernel_rfl) (of_decide_eq_true (by kernel_rfl)) k4 bel lt4) (trodAll_cons_mk (Below.trod laidOut (by kernel_rfl) (of_decide_eq_true (by kernel_rfl)) k5 bel lt5) trodAll_mk0)))))), rfl, Below.frame bel _, fun h => by cases h⟩

theorem alignScores_holds : Rows.AlignScoresSaid :=
  OpenClaim.holds_of_wide 4 Try.f4 rfl rfl rfl rfl rfl rfl rfl ⟨rfl, rfl, rfl, rfl, rfl⟩ rfl rfl rfl rfl rfl (by kernel_rfl) Try.func4 (by kernel_rfl)
    (of_decide_eq_true (by kernel_rfl)) (by unfold Func.isWrapper; first | (rw [if_pos (by decide +kernel)]; kernel_rfl) | (rw [if_neg (by decide +kernel)]; exact ⟨rfl, rfl⟩))
    (fun os started H enc _ => alignScores_lifted os started H enc)
end Go.Proofs.Ythejomcibobieaa
