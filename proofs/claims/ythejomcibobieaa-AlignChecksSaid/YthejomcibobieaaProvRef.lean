/- Which results are proved: the reference's Proved (63). -/
import Derived.Test.YthejomcibobieaaCheckRef
namespace Go.Proofs.Ythejomcibobieaa
open Go.RowKit

theorem pos_movesC (T S : Nat) : 0 < (movesM T S (2 * T + 1)).length := by
  rw [movesM_len]
  exact Nat.mul_pos (by omega) (Nat.mul_pos (by omega) (by omega))
theorem movesR_len (c : Cl) (hc : c.ok) {T S : Nat} (hT : c.turns = T) (hS : c.shift = S) : (movesM T S (2 * T + 1)).length ≤ 1000 := by
  rw [movesM_len]
  have := hc.turns
  have := hc.shift
  have h1 : (2 * S + 1) * (2 * S + 1) ≤ 9 * 9 := Nat.mul_le_mul (by omega) (by omega)
  have h2 : (2 * T + 1) * ((2 * S + 1) * (2 * S + 1)) ≤ 7 * 81 := Nat.mul_le_mul (by omega) (by omega)
  omega
theorem mvCells_atC {L : List Mv} {k : Nat} {x : Mv} (h : L[k]? = some x) : (flatG Mv.cellsL L)[k * 3]? = some (.int .i64 x.turn) ∧ (flatG Mv.cellsL L)[k * 3 + 1]? = some (.int .i64 x.dx) ∧ (flatG Mv.cellsL L)[k * 3 + 2]? = some (.int .i64 x.dy) :=
  ⟨flatG_at mv_len L k x h 0 (by omega), flatG_at mv_len L k x h 1 (by omega), flatG_at mv_len L k x h 2 (by omega)⟩
set_option maxRecDepth 100000 in
set_option maxHeartbeats 16000000 in
theorem refProved_any (c : Cl) (hc : c.ok) (lp lq : List Mi) (hp : ∀ m ∈ lp, m.ok) (hq : ∀ m ∈ lq, m.ok) (hnp : lp.length ≤ 100) (hnq : lq.length ≤ 100) (Ap Aq : Option Addr) (cp cq : Nat) (att : List At) (left : List Rs) (sc bd : Int) (A1 A2 : Option Addr) (c1 c2 : Nat)
    (hna : att.length ≤ 2000) (hnl : left.length ≤ 2000) (hwf : ∀ x ∈ att, x.wf) (w : World) (hP : Pts w Ap lp) (hQ : Pts w Aq lq) (hA : Ats w A1 att) (hL : Rss w A2 left) :
    Calls Try.prog 63 #[.slice Ap lp.length cp, .slice Aq lq.length cq, c.val, resV att left sc bd A1 A2 c1 c2] w fun e w' => e = .returned (.bool (provB c (bndK c lp lq) (trK c lp lq) ⟨att, left⟩ sc bd)) ∧ Ext w w' := by
  have CT := Lib.hid (fun (v : Mv) (h : isMove c v = true) (W : World) (hE : Ext w W) => show Calls Try.prog 57 #[.slice Ap lp.length cp, .slice Aq lq.length cq, c.val, v.val] W fun e w' => e = .returned (.agg (trK c lp lq v).cells) ∧ Ext W w' from tried_any c hc lp lq v hp hq (move_in hc h).1 (move_in hc h).2.1 (move_in hc h).2.2 hnp hnq Ap Aq cp cq W (hP.grow hE) (hQ.grow hE))
  have CM := Lib.hid (fun (v : Mv) (W : World) => isMove_any c v hc W)
  have CB := Lib.hid (fun (k : Bk) (h : isBlk c k = true) (W : World) (hE : Ext w W) => bounded_any c hc lp lq k h hp hq hnp hnq Ap Aq cp cq W (hP.grow hE) (hQ.grow hE))
  have CK := Lib.hid (fun (k : Bk) (W : World) => isBlock_any c k hc W)
  obtain ⟨T, hT⟩ : ∃ T : Nat, c.turns = T := ⟨c.turns.toNat, by have := hc.turns; omega⟩
  obtain ⟨S, hS⟩ : ∃ S : Nat, c.shift = S := ⟨c.shift.toNat, by have := hc.shift; omega⟩
  have HMV := Lib.hid (fun w => moves_any c T S (by have := hc.turns; omega) (by have := hc.shift; omega) hT hS w)
  have hlm := pos_movesC T S
  have hml := movesR_len c hc hT hS
  have hmm : ∀ v : Mv, v ∈ movesM T S (2 * T + 1) ↔ isMove c v = true := fun v => by rw [mem_moves, isMove_iff, hT, hS]
  obtain ⟨L, hL0⟩ : ∃ L, movesM T S (2 * T + 1) = L := ⟨_, rfl⟩
  rw [hL0] at HMV hlm hml hmm
  have CV := Lib.hid (show ∀ v ∈ L, ∀ W, Ext w W → Calls Try.prog 79 #[resV att left sc bd A1 A2 c1 c2, v.val] W fun e w' => e = .returned (.int .i64 (cov ⟨att, left⟩ v : Nat)) ∧ Ext W w' from fun v hv W hE => by
    have h1 := move_in hc ((hmm v).1 hv)
    exact covers_any att left sc bd A1 A2 c1 c2 v hna hnl hwf ⟨wf_i (by omega), wf_i (by omega), wf_i (by omega)⟩ W (hA.grow hE) (hL.grow hE))
  have HTW := Lib.hid (fun (v : Mv) (h : isMove c v = true) => trK_wf (lp := lp) (lq := lq) hc hnp h)
  obtain ⟨bnd, hbnd⟩ : ∃ bnd, bnd = bndK c lp lq := ⟨_, rfl⟩
  obtain ⟨tr, htr⟩ : ∃ tr, tr = trK c lp lq := ⟨_, rfl⟩
  rw [← hbnd] at CB
  rw [← htr] at CT HTW
  rw [← hbnd, ← htr]
  have HNA : Hid (∀ x ∈ att, okA c tr x = false → provB c bnd tr ⟨att, left⟩ sc bd = false) := Lib.hid fun x hx h => by
    rw [Bool.eq_false_iff]
    intro h2
    have := (provB_iff.1 h2).1 x hx
    rw [h] at this
    cases this
  have HNL : Hid (∀ x ∈ left, okR c bnd x = false → provB c bnd tr ⟨att, left⟩ sc bd = false) := Lib.hid fun x hx h => by
    rw [Bool.eq_false_iff]
    intro h2
    have := (provB_iff.1 h2).2.1 x hx
    rw [h] at this
    cases this
  have HNM : Hid (∀ v ∈ L, (cov ⟨att, left⟩ v != 1) = true → provB c bnd tr ⟨att, left⟩ sc bd = false) := Lib.hid fun v hv h => by
    rw [Bool.eq_false_iff]
    intro h2
    have := (provB_iff.1 h2).2.2.1 v ((hmm v).1 hv)
    rw [this] at h
    simp at h
  have HFIN : Hid ((∀ x ∈ att, okA c tr x = true) → (∀ x ∈ left, okR c bnd x = true) → (∀ v ∈ L, cov ⟨att, left⟩ v = 1) → provB c bnd tr ⟨att, left⟩ sc bd = (decide (sc = topA att) && decide (bd = topR (topA att) left))) := Lib.hid fun h1 h2 h3 => by
    rw [Bool.eq_iff_iff, provB_iff, Bool.and_eq_true, decide_eq_true_eq, decide_eq_true_eq]
    exact ⟨fun h => h.2.2.2, fun h => ⟨h1, h2, fun v hv => h3 v ((hmm v).2 hv), h⟩⟩
  generalize provB c bnd tr ⟨att, left⟩ sc bd = res at *
  have HWf := Lib.hid hwf
  have HAt := Lib.hid hA
  have HLe := Lib.hid hL
  clear hbnd htr hmm hT hS hL0 hwf hA hL hP hQ hc hp hq
  go_enter Try.func63, Try.ntmps63
  go_wp2_with fail
  have HE0 := Lib.hid (((Ext.refl w).alloc (.cells #[.int .i64 c.turns, .int .i64 c.shift, .int .i64 c.elastic, .int .i64 c.reach, .int .i64 c.spread] 38)).alloc (.cells #[.int .i64 sc, .int .i64 bd, .slice A1 att.length c1, .slice A2 left.length c2] 58))
  have HC := Lib.hid ((Blk.new w 38 #[.int .i64 c.turns, .int .i64 c.shift, .int .i64 c.elastic, .int .i64 c.reach, .int .i64 c.spread]).alloc (.cells #[.int .i64 sc, .int .i64 bd, .slice A1 att.length c1, .slice A2 left.length c2] 58))
  have HR := Lib.hid (Blk.new' (w.alloc (.cells #[.int .i64 c.turns, .int .i64 c.shift, .int .i64 c.elastic, .int .i64 c.reach, .int .i64 c.spread] 38)) 58 #[.int .i64 sc, .int .i64 bd, .slice A1 att.length c1, .slice A2 left.length c2] (w.heap.size + 1) (by simp))
  generalize (w.alloc (.cells #[.int .i64 c.turns, .int .i64 c.shift, .int .i64 c.elastic, .int .i64 c.reach, .int .i64 c.spread] 38)).alloc (.cells #[.int .i64 sc, .int .i64 bd, .slice A1 att.length c1, .slice A2 left.length c2] 58) = V at *
  have HA1 := Lib.hid (HAt.out.grow HE0.out)
  have HL1 := Lib.hid (HLe.out.grow HE0.out)
  clear HAt HLe
  go_loopw [9] (fun t wr => ∃ k : Nat, k ≤ att.length ∧ t = .int .i64 k ∧ (∀ x ∈ att.take k, okA c tr x = true) ∧ Ext V wr) (fun t _ => att.length - (intOf t).toNat)
  case atStart => exact ⟨0, Nat.zero_le _, rfl, by simp, Ext.refl _⟩
  case round =>
    obtain ⟨k, hk, rfl, hok, hE⟩ := hrel
    have HOK := Lib.hid hok
    have HE := Lib.hid hE
    have d0 : wr.cell? ⟨w.heap.size, 0, none⟩ = some (.int .i64 c.turns) := (HC.out.grow hE).cell 0
    have d1 : wr.cell? ⟨w.heap.size, 1, none⟩ = some (.int .i64 c.shift) := (HC.out.grow hE).cell 1
    have d2 : wr.cell? ⟨w.heap.size, 2, none⟩ = some (.int .i64 c.elastic) := (HC.out.grow hE).cell 2
    have d3 : wr.cell? ⟨w.heap.size, 3, none⟩ = some (.int .i64 c.reach) := (HC.out.grow hE).cell 3
    have d4 : wr.cell? ⟨w.heap.size, 4, none⟩ = some (.int .i64 c.spread) := (HC.out.grow hE).cell 4
    have r0 : wr.cell? ⟨w.heap.size + 1, 0, none⟩ = some (.int .i64 sc) := (HR.out.grow hE).cell 0
    have r1 : wr.cell? ⟨w.heap.size + 1, 1, none⟩ = some (.int .i64 bd) := (HR.out.grow hE).cell 1
    have r2 : wr.cell? ⟨w.heap.size + 1, 2, none⟩ = some (.slice A1 att.length c1) := (HR.out.grow hE).cell 2
    have r3 : wr.cell? ⟨w.heap.size + 1, 3, none⟩ = some (.slice A2 left.length c2) := (HR.out.grow hE).cell 3
    have oC := Old.mk (HC.out.grow hE).lt
    have oR := Old.mk (HR.out.grow hE).lt
    clear hE hok
    by_cases hlt : k < att.length
    · have hki : (k : Int) < att.length := by omega
      obtain ⟨x, hx⟩ : ∃ x, att[k]? = some x := ⟨_, List.getElem?_eq_getElem hlt⟩
      rcases HA1.out with hn | ⟨ga, oa, rfl, ha2, hac⟩
      · rw [hn] at hlt; simp at hlt
      have og : Nonempty (Old ga wr) := ⟨Nat.lt_of_lt_of_le ha2 HE.out.size⟩
      have hcl1 : ∀ j u, x.cellsL[j]? = some u → wr.cell? ⟨ga, oa + k * 8 + j, none⟩ = some u := fun j u hu => by rw [HE.out.cell (by exact ha2)]; exact hac k x hx j u hu
      have x0 : wr.cell? ⟨ga, oa + k * 8, none⟩ = some (.int .i64 x.mv.turn) := hcl1 0 _ rfl
      have x1 : wr.cell? ⟨ga, oa + k * 8 + 1, none⟩ = some (.int .i64 x.mv.dx) := hcl1 1 _ rfl
      have x2 : wr.cell? ⟨ga, oa + k * 8 + 2, none⟩ = some (.int .i64 x.mv.dy) := hcl1 2 _ rfl
      have x3 : wr.cell? ⟨ga, oa + k * 8 + 3, none⟩ = some (.int .i64 x.bd.a) := hcl1 3 _ rfl
      have x4 : wr.cell? ⟨ga, oa + k * 8 + 4, none⟩ = some (.int .i64 x.bd.b) := hcl1 4 _ rfl
      have x5 : wr.cell? ⟨ga, oa + k * 8 + 5, none⟩ = some (.int .i64 x.bd.c) := hcl1 5 _ rfl
      have x6 : wr.cell? ⟨ga, oa + k * 8 + 6, none⟩ = some (.int .i64 x.bd.d) := hcl1 6 _ rfl
      have x7 : wr.cell? ⟨ga, oa + k * 8 + 7, none⟩ = some (.int .i64 x.score) := hcl1 7 _ rfl
      have hmem := List.mem_of_getElem? hx
      have HTK := Lib.hid (fun (h : okA c tr x = true) => show ∀ y ∈ att.take (k + 1), okA c tr y = true from fun y hy => by
        rw [List.take_succ_eq_append_getElem hlt] at hy
        rw [List.getElem?_eq_getElem hlt] at hx
        injection hx with hx
        rw [hx] at hy
        rcases List.mem_append.1 hy with hy | hy
        · exact HOK.out y hy
        · rw [List.mem_singleton.1 hy]; exact h)
      have HXW := Lib.hid (HWf.out x hmem)
      have HNx := Lib.hid (HNA.out x hmem)
      clear hcl1 hac hx hmem HOK
      go_wp2_with fail
      have HE1 := Lib.hid (HE.out.alloc (.cells #[.int .i64 x.mv.turn, .int .i64 x.mv.dx, .int .i64 x.mv.dy, .int .i64 x.bd.a, .int .i64 x.bd.b, .int .i64 x.bd.c, .int .i64 x.bd.d, .int .i64 x.score] 46))
      have HX := Lib.hid (Blk.new wr 46 #[.int .i64 x.mv.turn, .int .i64 x.mv.dx, .int .i64 x.mv.dy, .int .i64 x.bd.a, .int .i64 x.bd.b, .int .i64 x.bd.c, .int .i64 x.bd.d, .int .i64 x.score])
      clear x0 x1 x2 x3 x4 x5 x6 x7 og HE d0 d1 d2 d3 d4 r0 r1 r2 r3 oC oR
      generalize wr.alloc (.cells #[.int .i64 x.mv.turn, .int .i64 x.mv.dx, .int .i64 x.mv.dy, .int .i64 x.bd.a, .int .i64 x.bd.b, .int .i64 x.bd.c, .int .i64 x.bd.d, .int .i64 x.score] 46) = W1 at *
      generalize wr.heap.size = X at *
      have hE := HE1.out
      have d0 : W1.cell? ⟨w.heap.size, 0, none⟩ = some (.int .i64 c.turns) := (HC.out.grow hE).cell 0
      have d1 : W1.cell? ⟨w.heap.size, 1, none⟩ = some (.int .i64 c.shift) := (HC.out.grow hE).cell 1
      have d2 : W1.cell? ⟨w.heap.size, 2, none⟩ = some (.int .i64 c.elastic) := (HC.out.grow hE).cell 2
      have d3 : W1.cell? ⟨w.heap.size, 3, none⟩ = some (.int .i64 c.reach) := (HC.out.grow hE).cell 3
      have d4 : W1.cell? ⟨w.heap.size, 4, none⟩ = some (.int .i64 c.spread) := (HC.out.grow hE).cell 4
      have r0 : W1.cell? ⟨w.heap.size + 1, 0, none⟩ = some (.int .i64 sc) := (HR.out.grow hE).cell 0
      have r1 : W1.cell? ⟨w.heap.size + 1, 1, none⟩ = some (.int .i64 bd) := (HR.out.grow hE).cell 1
      have r2 : W1.cell? ⟨w.heap.size + 1, 2, none⟩ = some (.slice _ att.length c1) := (HR.out.grow hE).cell 2
      have r3 : W1.cell? ⟨w.heap.size + 1, 3, none⟩ = some (.slice _ left.length c2) := (HR.out.grow hE).cell 3
      have oC := Old.mk (HC.out.grow hE).lt
      have oR := Old.mk (HR.out.grow hE).lt
      have x0 : W1.cell? ⟨X, 0, none⟩ = some (.int .i64 x.mv.turn) := HX.out.cell 0
      have x1 : W1.cell? ⟨X, 1, none⟩ = some (.int .i64 x.mv.dx) := HX.out.cell 1
      have x2 : W1.cell? ⟨X, 2, none⟩ = some (.int .i64 x.mv.dy) := HX.out.cell 2
      have x3 : W1.cell? ⟨X, 3, none⟩ = some (.int .i64 x.bd.a) := HX.out.cell 3
      have x4 : W1.cell? ⟨X, 4, none⟩ = some (.int .i64 x.bd.b) := HX.out.cell 4
      have x5 : W1.cell? ⟨X, 5, none⟩ = some (.int .i64 x.bd.c) := HX.out.cell 5
      have x6 : W1.cell? ⟨X, 6, none⟩ = some (.int .i64 x.bd.d) := HX.out.cell 6
      have x7 : W1.cell? ⟨X, 7, none⟩ = some (.int .i64 x.score) := HX.out.cell 7
      have oX := Old.mk HX.out.lt
      clear hE
      have HO := Lib.hid (show okA c tr x = (isMove c x.mv && decide (x = tr x.mv)) from rfl)
      cases hm : isMove c x.mv
      · have CM1 := Lib.hid (fun z => show Calls Try.prog 44 #[c.val, x.mv.val] (ext W1 z) fun e w' => e = .returned (.bool false) ∧ Ext (ext W1 z) w' from hm ▸ CM.out x.mv (ext W1 z))
        have HRS := Lib.hid (HNx.out (by rw [HO.out, hm]; rfl))
        refine wp_region_ext (by kernel_rfl) (by kernel_rfl) ?_
        repeat (go_big_quiet_step ((go_at_call 44; exact Calls.quiet_ext (CM1.out _))))
        refine wpQuiet_nil ?_
        rintro _ ⟨z2, rfl⟩
        go_wp2_with fail
        go_ret
        exact ⟨ret_of (by rw [HRS.out]; rfl), (HE0.out.trans HE1.out).ext z2⟩
      · obtain ⟨u, hu⟩ : ∃ u, u = tr x.mv := ⟨_, rfl⟩
        have CM1 := Lib.hid (fun z => show Calls Try.prog 44 #[c.val, x.mv.val] (ext W1 z) fun e w' => e = .returned (.bool true) ∧ Ext (ext W1 z) w' from hm ▸ CM.out x.mv (ext W1 z))
        have CT1 := Lib.hid (fun z => show Calls Try.prog 57 #[.slice Ap lp.length cp, .slice Aq lq.length cq, c.val, x.mv.val] (ext W1 z) fun e w' => e = .returned (.agg #[.int .i64 u.mv.turn, .int .i64 u.mv.dx, .int .i64 u.mv.dy, .int .i64 u.bd.a, .int .i64 u.bd.b, .int .i64 u.bd.c, .int .i64 u.bd.d, .int .i64 u.score]) ∧ Ext (ext W1 z) w' from by
          have := CT.out x.mv hm (ext W1 z) ((HE0.out.trans HE1.out).ext z)
          rw [← hu] at this
          exact this)
        have hq46 : ∀ w, (Op.equalIn 10000 46 (.agg #[.int .i64 x.mv.turn, .int .i64 x.mv.dx, .int .i64 x.mv.dy, .int .i64 x.bd.a, .int .i64 x.bd.b, .int .i64 x.bd.c, .int .i64 x.bd.d, .int .i64 x.score]) (.agg #[.int .i64 u.mv.turn, .int .i64 u.mv.dx, .int .i64 u.mv.dy, .int .i64 u.bd.a, .int .i64 u.bd.b, .int .i64 u.bd.c, .int .i64 u.bd.d, .int .i64 u.score])).run Try.prog w = .ok (decide (x = u)) w := eq46 HXW.out (by rw [hu]; exact HTW.out x.mv hm)
        have HO2 := Lib.hid (show okA c tr x = decide (x = u) by rw [HO.out, hm, ← hu, Bool.true_and])
        clear HO hu
        cases hb : decide (x = u)
        · rw [hb] at hq46 HO2
          have HRS := Lib.hid (HNx.out HO2.out)
          clear hb
          refine wp_region_ext (by kernel_rfl) (by kernel_rfl) ?_
          repeat (go_big_quiet_step ((first | (go_at_call 44; exact Calls.quiet_ext (CM1.out _)) | (go_at_call 57; exact Calls.quiet_ext (CT1.out _)))))
          refine wpQuiet_nil ?_
          rintro _ ⟨z2, rfl⟩
          go_wp2_with fail
          go_ret
          exact ⟨ret_of (by rw [HRS.out]; rfl), (HE0.out.trans HE1.out).ext z2⟩
        · rw [hb] at hq46 HO2
          clear hb
          refine wp_region_ext (by kernel_rfl) (by kernel_rfl) ?_
          repeat (go_big_quiet_step ((first | (go_at_call 44; exact Calls.quiet_ext (CM1.out _)) | (go_at_call 57; exact Calls.quiet_ext (CT1.out _)))))
          refine wpQuiet_nil ?_
          rintro _ ⟨z2, rfl⟩
          go_wp2_with fail
          exact ⟨⟨k + 1, by omega, by go_num, HTK.out HO2.out, HE1.out.ext z2⟩, by simp [intOf]; omega⟩
    · obtain rfl : k = att.length := by omega
      rw [List.take_length] at HOK
      have HAw := Lib.hid (HA1.out.grow HE.out)
      have hna1 : att.length ≤ 100000 := by omega
      go_wp2_with fail
      refine Calls.ext (top_any A1 c1 att _ HAw.out hna1) fun z1 => ?_
      have HEa := Lib.hid (HE.out.ext z1)
      clear HE d0 d1 d2 d3 d4 r0 r1 r2 r3 oC oR HAw
      generalize ext wr z1 = W0 at *
      obtain ⟨tp, htp⟩ : ∃ tp, tp = topA att := ⟨_, rfl⟩
      rw [← htp] at HFIN
      rw [← htp]
      have HTP := Lib.hid htp
      clear htp
      go_wp2_with fail
      go_loopw [11, 12] (fun s t wr => ∃ k : Nat, k ≤ left.length ∧ t = .int .i64 k ∧ s = .int .i64 (topRN tp left k) ∧ (∀ x ∈ left.take k, okR c bnd x = true) ∧ Ext V wr) (fun _ t _ => left.length - (intOf t).toNat)
      case atStart => exact ⟨0, Nat.zero_le _, rfl, by simp [topRN, topR], by simp, HEa.out⟩
      case round =>
        clear HEa
        obtain ⟨k, hk, rfl, rfl, hok, hE⟩ := hrel
        have HOL := Lib.hid hok
        have HE := Lib.hid hE
        have d0 : wr.cell? ⟨w.heap.size, 0, none⟩ = some (.int .i64 c.turns) := (HC.out.grow hE).cell 0
        have d1 : wr.cell? ⟨w.heap.size, 1, none⟩ = some (.int .i64 c.shift) := (HC.out.grow hE).cell 1
        have d2 : wr.cell? ⟨w.heap.size, 2, none⟩ = some (.int .i64 c.elastic) := (HC.out.grow hE).cell 2
        have d3 : wr.cell? ⟨w.heap.size, 3, none⟩ = some (.int .i64 c.reach) := (HC.out.grow hE).cell 3
        have d4 : wr.cell? ⟨w.heap.size, 4, none⟩ = some (.int .i64 c.spread) := (HC.out.grow hE).cell 4
        have r0 : wr.cell? ⟨w.heap.size + 1, 0, none⟩ = some (.int .i64 sc) := (HR.out.grow hE).cell 0
        have r1 : wr.cell? ⟨w.heap.size + 1, 1, none⟩ = some (.int .i64 bd) := (HR.out.grow hE).cell 1
        have r2 : wr.cell? ⟨w.heap.size + 1, 2, none⟩ = some (.slice A1 att.length c1) := (HR.out.grow hE).cell 2
        have r3 : wr.cell? ⟨w.heap.size + 1, 3, none⟩ = some (.slice A2 left.length c2) := (HR.out.grow hE).cell 3
        have oC := Old.mk (HC.out.grow hE).lt
        have oR := Old.mk (HR.out.grow hE).lt
        clear hE hok
        by_cases hlt : k < left.length
        · have hki : (k : Int) < left.length := by omega
          obtain ⟨x, hx⟩ : ∃ x, left[k]? = some x := ⟨_, List.getElem?_eq_getElem hlt⟩
          rcases HL1.out with hn | ⟨ga, oa, rfl, ha2, hac⟩
          · rw [hn] at hlt; simp at hlt
          have og : Nonempty (Old ga wr) := ⟨Nat.lt_of_lt_of_le ha2 HE.out.size⟩
          have hcl1 : ∀ j u, x.cellsL[j]? = some u → wr.cell? ⟨ga, oa + k * 6 + j, none⟩ = some u := fun j u hu => by rw [HE.out.cell (by exact ha2)]; exact hac k x hx j u hu
          have x0 : wr.cell? ⟨ga, oa + k * 6, none⟩ = some (.int .i64 x.bk.turn) := hcl1 0 _ rfl
          have x1 : wr.cell? ⟨ga, oa + k * 6 + 1, none⟩ = some (.int .i64 x.bk.x0) := hcl1 1 _ rfl
          have x2 : wr.cell? ⟨ga, oa + k * 6 + 2, none⟩ = some (.int .i64 x.bk.y0) := hcl1 2 _ rfl
          have x3 : wr.cell? ⟨ga, oa + k * 6 + 3, none⟩ = some (.int .i64 x.bk.x1) := hcl1 3 _ rfl
          have x4 : wr.cell? ⟨ga, oa + k * 6 + 4, none⟩ = some (.int .i64 x.bk.y1) := hcl1 4 _ rfl
          have x5 : wr.cell? ⟨ga, oa + k * 6 + 5, none⟩ = some (.int .i64 x.bound) := hcl1 5 _ rfl
          have hmem := List.mem_of_getElem? hx
          have HTS := Lib.hid (show topRN tp left (k + 1) = if topRN tp left k < x.bound then x.bound else topRN tp left k by rw [topRN_succ hx]; split <;> omega)
          have HTK := Lib.hid (fun (h : okR c bnd x = true) => show ∀ y ∈ left.take (k + 1), okR c bnd y = true from fun y hy => by
            rw [List.take_succ_eq_append_getElem hlt] at hy
            rw [List.getElem?_eq_getElem hlt] at hx
            injection hx with hx
            rw [hx] at hy
            rcases List.mem_append.1 hy with hy | hy
            · exact HOL.out y hy
            · rw [List.mem_singleton.1 hy]; exact h)
          have HNx := Lib.hid (HNL.out x hmem)
          clear hcl1 hac hx hmem HOL
          go_wp2_with fail
          have HE1 := Lib.hid (HE.out.alloc (.cells #[.int .i64 x.bk.turn, .int .i64 x.bk.x0, .int .i64 x.bk.y0, .int .i64 x.bk.x1, .int .i64 x.bk.y1, .int .i64 x.bound] 105))
          have HX := Lib.hid (Blk.new wr 105 #[.int .i64 x.bk.turn, .int .i64 x.bk.x0, .int .i64 x.bk.y0, .int .i64 x.bk.x1, .int .i64 x.bk.y1, .int .i64 x.bound])
          clear x0 x1 x2 x3 x4 x5 og HE d0 d1 d2 d3 d4 r0 r1 r2 r3 oC oR
          generalize wr.alloc (.cells #[.int .i64 x.bk.turn, .int .i64 x.bk.x0, .int .i64 x.bk.y0, .int .i64 x.bk.x1, .int .i64 x.bk.y1, .int .i64 x.bound] 105) = W1 at *
          generalize wr.heap.size = X at *
          have hE := HE1.out
          have d0 : W1.cell? ⟨w.heap.size, 0, none⟩ = some (.int .i64 c.turns) := (HC.out.grow hE).cell 0
          have d1 : W1.cell? ⟨w.heap.size, 1, none⟩ = some (.int .i64 c.shift) := (HC.out.grow hE).cell 1
          have d2 : W1.cell? ⟨w.heap.size, 2, none⟩ = some (.int .i64 c.elastic) := (HC.out.grow hE).cell 2
          have d3 : W1.cell? ⟨w.heap.size, 3, none⟩ = some (.int .i64 c.reach) := (HC.out.grow hE).cell 3
          have d4 : W1.cell? ⟨w.heap.size, 4, none⟩ = some (.int .i64 c.spread) := (HC.out.grow hE).cell 4
          have r0 : W1.cell? ⟨w.heap.size + 1, 0, none⟩ = some (.int .i64 sc) := (HR.out.grow hE).cell 0
          have r1 : W1.cell? ⟨w.heap.size + 1, 1, none⟩ = some (.int .i64 bd) := (HR.out.grow hE).cell 1
          have r2 : W1.cell? ⟨w.heap.size + 1, 2, none⟩ = some (.slice _ att.length c1) := (HR.out.grow hE).cell 2
          have r3 : W1.cell? ⟨w.heap.size + 1, 3, none⟩ = some (.slice _ left.length c2) := (HR.out.grow hE).cell 3
          have oC := Old.mk (HC.out.grow hE).lt
          have oR := Old.mk (HR.out.grow hE).lt
          have x0 : W1.cell? ⟨X, 0, none⟩ = some (.int .i64 x.bk.turn) := HX.out.cell 0
          have x1 : W1.cell? ⟨X, 1, none⟩ = some (.int .i64 x.bk.x0) := HX.out.cell 1
          have x2 : W1.cell? ⟨X, 2, none⟩ = some (.int .i64 x.bk.y0) := HX.out.cell 2
          have x3 : W1.cell? ⟨X, 3, none⟩ = some (.int .i64 x.bk.x1) := HX.out.cell 3
          have x4 : W1.cell? ⟨X, 4, none⟩ = some (.int .i64 x.bk.y1) := HX.out.cell 4
          have x5 : W1.cell? ⟨X, 5, none⟩ = some (.int .i64 x.bound) := HX.out.cell 5
          have oX := Old.mk HX.out.lt
          clear hE
          have HO := Lib.hid (show okR c bnd x = (isBlk c x.bk && decide (x.bound = bnd x.bk)) from rfl)
          cases hm : isBlk c x.bk
          · have CK1 := Lib.hid (fun z => show Calls Try.prog 60 #[c.val, x.bk.val] (ext W1 z) fun e w' => e = .returned (.bool false) ∧ Ext (ext W1 z) w' from hm ▸ CK.out x.bk (ext W1 z))
            have HRS := Lib.hid (HNx.out (by rw [HO.out, hm]; rfl))
            refine wp_region_ext (by kernel_rfl) (by kernel_rfl) ?_
            repeat (go_big_quiet_step ((go_at_call 60; exact Calls.quiet_ext (CK1.out _))))
            refine wpQuiet_nil ?_
            rintro _ ⟨z2, rfl⟩
            go_wp2_with fail
            go_ret
            exact ⟨ret_of (by rw [HRS.out]; rfl), (HE0.out.trans HE1.out).ext z2⟩
          · obtain ⟨u, hu⟩ : ∃ u, u = bnd x.bk := ⟨_, rfl⟩
            have CK1 := Lib.hid (fun z => show Calls Try.prog 60 #[c.val, x.bk.val] (ext W1 z) fun e w' => e = .returned (.bool true) ∧ Ext (ext W1 z) w' from hm ▸ CK.out x.bk (ext W1 z))
            have CB1 := Lib.hid (fun z => show Calls Try.prog 61 #[.slice Ap lp.length cp, .slice Aq lq.length cq, c.val, x.bk.val] (ext W1 z) fun e w' => e = .returned (.int .i64 u) ∧ Ext (ext W1 z) w' from by
              have := CB.out x.bk hm (ext W1 z) ((HE0.out.trans HE1.out).ext z)
              rw [← hu] at this
              exact this)
            have HO2 := Lib.hid (show okR c bnd x = decide (x.bound = u) by rw [HO.out, hm, ← hu, Bool.true_and])
            clear HO hu
            cases hs : decide (x.bound = u)
            · have hs2 : (x.bound != u) = true := by simpa using hs
              rw [hs] at HO2
              have HRS := Lib.hid (HNx.out HO2.out)
              clear hs
              refine wp_region_ext (by kernel_rfl) (by kernel_rfl) ?_
              repeat (go_big_quiet_step ((first | (go_at_call 60; exact Calls.quiet_ext (CK1.out _)) | (go_at_call 61; exact Calls.quiet_ext (CB1.out _)))))
              refine wpQuiet_nil ?_
              rintro _ ⟨z2, rfl⟩
              go_wp2_with fail
              go_ret
              exact ⟨ret_of (by rw [HRS.out]; rfl), (HE0.out.trans HE1.out).ext z2⟩
            · have hs2 : (x.bound != u) = false := by simpa using hs
              rw [hs] at HO2
              clear hs
              refine wp_region_ext (by kernel_rfl) (by kernel_rfl) ?_
              repeat (go_big_quiet_step ((first | (go_at_call 60; exact Calls.quiet_ext (CK1.out _)) | (go_at_call 61; exact Calls.quiet_ext (CB1.out _)))))
              refine wpQuiet_nil ?_
              rintro _ ⟨z2, rfl⟩
              have HX2 := Lib.hid (HX.out.ext z2)
              have HE2 := Lib.hid (HE1.out.ext z2)
              clear x0 x1 x2 x3 x4 x5 oX HE1 HX d0 d1 d2 d3 d4 r0 r1 r2 r3 oC oR
              generalize ext W1 z2 = W2 at *
              have x5 : W2.cell? ⟨X, 5, none⟩ = some (.int .i64 x.bound) := HX2.out.cell 5
              have oX := Old.mk HX2.out.lt
              generalize topRN tp left k = tk at *
              go_wp2_with fail
              exact ⟨⟨k + 1, by omega, by go_num, by rw [HTS.out], HTK.out HO2.out, HE2.out⟩, by simp [intOf]; omega⟩
        · obtain rfl : k = left.length := by omega
          rw [List.take_length] at HOL
          have HTL := Lib.hid (show topRN tp left left.length = topR tp left by unfold topRN; rw [List.take_length])
          generalize topRN tp left left.length = bt at *
          go_wp2_with fail
          refine calls_slice (HMV.out _) fun A n z hown => ?_
          obtain ⟨gl, cap, hv, hgb, hgl⟩ := hown.form (by omega)
          injection hv with hA _ hcap
          subst hA hcap
          have HML := Lib.hid (fun j uu hu => by
            have := hown.cells (g := gl) rfl j uu hu
            rwa [addr_add, Nat.zero_add] at this : ∀ j uu, (flatG Mv.cellsL L)[j]? = some uu → (ext wr z).cell? ⟨gl, j, none⟩ = some uu)
          have HGL := Lib.hid hgl
          have HEb := Lib.hid (HE.out.ext z)
          clear hown hgl hgb HE d0 d1 d2 d3 d4 r0 r1 r2 r3 oC oR
          generalize ext wr z = Vb at *
          go_wp2_with fail
          go_loopw [15] (fun t wr => ∃ k : Nat, k ≤ L.length ∧ t = .int .i64 k ∧ (∀ v ∈ L.take k, cov ⟨att, left⟩ v = 1) ∧ Ext Vb wr) (fun t _ => L.length - (intOf t).toNat)
          case atStart => exact ⟨0, Nat.zero_le _, rfl, by simp, Ext.refl _⟩
          case round =>
            obtain ⟨k, hk, rfl, hok, hE0⟩ := hrel
            have HOV := Lib.hid hok
            have HE := Lib.hid hE0
            have hE := HEb.out.trans hE0
            have d0 : wr.cell? ⟨w.heap.size, 0, none⟩ = some (.int .i64 c.turns) := (HC.out.grow hE).cell 0
            have d1 : wr.cell? ⟨w.heap.size, 1, none⟩ = some (.int .i64 c.shift) := (HC.out.grow hE).cell 1
            have d2 : wr.cell? ⟨w.heap.size, 2, none⟩ = some (.int .i64 c.elastic) := (HC.out.grow hE).cell 2
            have d3 : wr.cell? ⟨w.heap.size, 3, none⟩ = some (.int .i64 c.reach) := (HC.out.grow hE).cell 3
            have d4 : wr.cell? ⟨w.heap.size, 4, none⟩ = some (.int .i64 c.spread) := (HC.out.grow hE).cell 4
            have r0 : wr.cell? ⟨w.heap.size + 1, 0, none⟩ = some (.int .i64 sc) := (HR.out.grow hE).cell 0
            have r1 : wr.cell? ⟨w.heap.size + 1, 1, none⟩ = some (.int .i64 bd) := (HR.out.grow hE).cell 1
            have r2 : wr.cell? ⟨w.heap.size + 1, 2, none⟩ = some (.slice A1 att.length c1) := (HR.out.grow hE).cell 2
            have r3 : wr.cell? ⟨w.heap.size + 1, 3, none⟩ = some (.slice A2 left.length c2) := (HR.out.grow hE).cell 3
            have oC := Old.mk (HC.out.grow hE).lt
            have oR := Old.mk (HR.out.grow hE).lt
            clear hE hok
            by_cases hlt : k < L.length
            · have hki : (k : Int) < L.length := by omega
              obtain ⟨v, hx⟩ : ∃ v, L[k]? = some v := ⟨_, List.getElem?_eq_getElem hlt⟩
              obtain ⟨u0, u1, u2⟩ := mvCells_atC hx
              have y0 : wr.cell? ⟨gl, k * 3, none⟩ = some (.int .i64 v.turn) := (hE0.cell (by exact HGL.out)).trans (HML.out _ _ u0)
              have y1 : wr.cell? ⟨gl, k * 3 + 1, none⟩ = some (.int .i64 v.dx) := (hE0.cell (by exact HGL.out)).trans (HML.out _ _ u1)
              have y2 : wr.cell? ⟨gl, k * 3 + 2, none⟩ = some (.int .i64 v.dy) := (hE0.cell (by exact HGL.out)).trans (HML.out _ _ u2)
              have oG : Nonempty (Old gl wr) := ⟨Nat.lt_of_lt_of_le HGL.out hE0.size⟩
              have hmem := List.mem_of_getElem? hx
              have CV1 := Lib.hid (fun z => CV.out v hmem (ext wr z) ((HE0.out.trans (HEb.out.trans hE0)).ext z))
              have HNv := Lib.hid (HNM.out v hmem)
              have HTK := Lib.hid (fun (h : cov ⟨att, left⟩ v = 1) => show ∀ y ∈ L.take (k + 1), cov ⟨att, left⟩ y = 1 from fun y hy => by
                rw [List.take_succ_eq_append_getElem hlt] at hy
                rw [List.getElem?_eq_getElem hlt] at hx
                injection hx with hx
                rw [hx] at hy
                rcases List.mem_append.1 hy with hy | hy
                · exact HOV.out y hy
                · rw [List.mem_singleton.1 hy]; exact h)
              clear u0 u1 u2 hx hE0 hmem HOV
              generalize cov ⟨att, left⟩ v = cv at *
              by_cases h1 : cv = 1
              · subst h1
                have hb : (((1 : Nat) : Int) != 1) = false := rfl
                have HT1 := Lib.hid (HTK.out rfl)
                clear HTK HNv
                go_wp2_with fail
                refine wp_region_ext (by kernel_rfl) (by kernel_rfl) ?_
                repeat (go_big_quiet_step ((go_at_call 79; exact Calls.quiet_ext (CV1.out _))))
                refine wpQuiet_nil ?_
                rintro _ ⟨z2, rfl⟩
                go_wp2_with fail
                exact ⟨⟨k + 1, by omega, by go_num, HT1.out, HE.out.ext z2⟩, by simp [intOf]; omega⟩
              · have hb : (((cv : Nat) : Int) != 1) = true := by simp; omega
                have HRS := Lib.hid (HNv.out (by simpa using h1))
                clear h1 HTK HNv
                go_wp2_with fail
                refine wp_region_ext (by kernel_rfl) (by kernel_rfl) ?_
                repeat (go_big_quiet_step ((go_at_call 79; exact Calls.quiet_ext (CV1.out _))))
                refine wpQuiet_nil ?_
                rintro _ ⟨z2, rfl⟩
                go_wp2_with fail
                go_ret
                exact ⟨ret_of (by rw [HRS.out]; rfl), ((HE0.out.trans HEb.out).trans HE.out).ext z2⟩
            · obtain rfl : k = L.length := by omega
              rw [List.take_length] at HOV
              have HF := Lib.hid (HFIN.out HOK.out HOL.out HOV.out)
              have CT1 := Lib.hid (fun z => top_any A1 c1 att (ext wr z) ((HA1.out.grow (HEb.out.trans hE0)).grow (Ext.ext_self wr z)) hna1)
              rw [← HTP.out] at CT1
              rw [← HTL.out] at HF
              clear hE0
              cases h1 : decide (sc = tp)
              · have b1 : (sc == tp) = false := h1
                rw [h1] at HF
                clear h1
                go_wp2_with fail
                refine wp_region_ext (by kernel_rfl) (by kernel_rfl) ?_
                repeat (go_big_quiet_step ((go_at_call 78; exact Calls.quiet_ext (CT1.out _))))
                refine wpQuiet_nil ?_
                rintro _ ⟨z2, rfl⟩
                go_wp2_with fail
                go_ret
                exact ⟨ret_of (by rw [HF.out]; rfl), ((HE0.out.trans HEb.out).trans HE.out).ext z2⟩
              · have b1 : (sc == tp) = true := h1
                rw [h1] at HF
                clear h1
                cases h2 : decide (bd = bt)
                · have b2 : (bd == bt) = false := h2
                  rw [h2] at HF
                  clear h2
                  go_wp2_with fail
                  refine wp_region_ext (by kernel_rfl) (by kernel_rfl) ?_
                  repeat (go_big_quiet_step ((go_at_call 78; exact Calls.quiet_ext (CT1.out _))))
                  refine wpQuiet_nil ?_
                  rintro _ ⟨z2, rfl⟩
                  go_wp2_with fail
                  go_ret
                  exact ⟨ret_of (by rw [HF.out]; rfl), ((HE0.out.trans HEb.out).trans HE.out).ext z2⟩
                · have b2 : (bd == bt) = true := h2
                  rw [h2] at HF
                  clear h2
                  go_wp2_with fail
                  refine wp_region_ext (by kernel_rfl) (by kernel_rfl) ?_
                  repeat (go_big_quiet_step ((go_at_call 78; exact Calls.quiet_ext (CT1.out _))))
                  refine wpQuiet_nil ?_
                  rintro _ ⟨z2, rfl⟩
                  go_wp2_with fail
                  go_ret
                  exact ⟨ret_of (by rw [HF.out]; rfl), ((HE0.out.trans HEb.out).trans HE.out).ext z2⟩
end Go.Proofs.Ythejomcibobieaa
