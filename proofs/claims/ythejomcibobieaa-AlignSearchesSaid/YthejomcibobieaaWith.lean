/- The reference: a block with its bound (with, 81); the turns of a class (turns, 80). -/
import Derived.Test.YthejomcibobieaaTops
import Derived.Test.YthejomcibobieaaSearch
import Derived.Test.YthejomcibobieaaPairs
import Derived.Laws.Rows
namespace Go.Proofs.Ythejomcibobieaa
open Go.RowKit

theorem store_rs {W : World} {g : Nat} {z0 z1 z2 z3 z4 z5 : Value} (h : Blk W g 105 #[z0, z1, z2, z3, z4, z5]) (x : Rs) : Blk ((((((W.setCell ⟨g, 0, none⟩ (.int .i64 x.bk.turn)).setCell ⟨g, 1, none⟩ (.int .i64 x.bk.x0)).setCell ⟨g, 2, none⟩ (.int .i64 x.bk.y0)).setCell ⟨g, 3, none⟩ (.int .i64 x.bk.x1)).setCell ⟨g, 4, none⟩ (.int .i64 x.bk.y1)).setCell ⟨g, 5, none⟩ (.int .i64 x.bound)) g 105 x.cellsL.toArray := by
  have h8 := ((((((h.set_ 0 (.int .i64 x.bk.turn)).set_ 1 (.int .i64 x.bk.x0)).set_ 2 (.int .i64 x.bk.y0)).set_ 3 (.int .i64 x.bk.x1)).set_ 4 (.int .i64 x.bk.y1)).set_ 5 (.int .i64 x.bound))
  simp only [List.setIfInBounds_toArray, List.set_cons_zero, List.set_cons_succ] at h8
  exact h8
set_option maxRecDepth 100000 in
set_option maxHeartbeats 4000000 in
theorem with_any (c : Cl) (hc : c.ok) (lp lq : List Mi) (k : Bk) (hk : isBlk c k = true) (hp : ∀ m ∈ lp, m.ok) (hq : ∀ m ∈ lq, m.ok) (hnp : lp.length ≤ 100) (hnq : lq.length ≤ 100) (Ap Aq : Option Addr) (cp cq : Nat) (w : World) (hP : Pts w Ap lp) (hQ : Pts w Aq lq) :
    Calls Try.prog 81 #[.slice Ap lp.length cp, .slice Aq lq.length cq, c.val, k.val] w fun e w' => e = .returned (.agg #[.int .i64 k.turn, .int .i64 k.x0, .int .i64 k.y0, .int .i64 k.x1, .int .i64 k.y1, .int .i64 (bndK c lp lq k)]) ∧ Ext w w' := by
  obtain ⟨bd, hbd⟩ : ∃ bd, bd = bndK c lp lq k := ⟨_, rfl⟩
  rw [← hbd]
  have CB := Lib.hid (fun w' (h : Ext w w') => show Calls Try.prog 61 #[.slice Ap lp.length cp, .slice Aq lq.length cq, c.val, k.val] w' fun e w'' => e = .returned (.int .i64 bd) ∧ Ext w' w'' from by rw [hbd]; exact bounded_any c hc lp lq k hk hp hq hnp hnq Ap Aq cp cq w' (hP.grow h) (hQ.grow h))
  clear hbd hc hk hp hq hP hQ hnp hnq
  go_enter Try.func81, Try.ntmps81
  go_wp2_with fail
  have HC := Lib.hid (((Blk.new w 38 #[.int .i64 c.turns, .int .i64 c.shift, .int .i64 c.elastic, .int .i64 c.reach, .int .i64 c.spread]).alloc (.cells #[.int .i64 k.turn, .int .i64 k.x0, .int .i64 k.y0, .int .i64 k.x1, .int .i64 k.y1] 40)).alloc (.cells #[.int .i64 0, .int .i64 0, .int .i64 0, .int .i64 0, .int .i64 0, .int .i64 0] 105))
  have HK := Lib.hid ((Blk.new' (w.alloc (.cells #[.int .i64 c.turns, .int .i64 c.shift, .int .i64 c.elastic, .int .i64 c.reach, .int .i64 c.spread] 38)) 40 #[.int .i64 k.turn, .int .i64 k.x0, .int .i64 k.y0, .int .i64 k.x1, .int .i64 k.y1] (w.heap.size + 1) (by simp)).alloc (.cells #[.int .i64 0, .int .i64 0, .int .i64 0, .int .i64 0, .int .i64 0, .int .i64 0] 105))
  have HR := Lib.hid (Blk.new' ((w.alloc (.cells #[.int .i64 c.turns, .int .i64 c.shift, .int .i64 c.elastic, .int .i64 c.reach, .int .i64 c.spread] 38)).alloc (.cells #[.int .i64 k.turn, .int .i64 k.x0, .int .i64 k.y0, .int .i64 k.x1, .int .i64 k.y1] 40)) 105 #[.int .i64 0, .int .i64 0, .int .i64 0, .int .i64 0, .int .i64 0, .int .i64 0] (w.heap.size + 1 + 1) (by simp))
  have HE := Lib.hid ((((Ext.refl w).alloc (.cells #[.int .i64 c.turns, .int .i64 c.shift, .int .i64 c.elastic, .int .i64 c.reach, .int .i64 c.spread] 38)).alloc (.cells #[.int .i64 k.turn, .int .i64 k.x0, .int .i64 k.y0, .int .i64 k.x1, .int .i64 k.y1] 40)).alloc (.cells #[.int .i64 0, .int .i64 0, .int .i64 0, .int .i64 0, .int .i64 0, .int .i64 0] 105))
  generalize ((w.alloc (.cells #[.int .i64 c.turns, .int .i64 c.shift, .int .i64 c.elastic, .int .i64 c.reach, .int .i64 c.spread] 38)).alloc (.cells #[.int .i64 k.turn, .int .i64 k.x0, .int .i64 k.y0, .int .i64 k.x1, .int .i64 k.y1] 40)).alloc (.cells #[.int .i64 0, .int .i64 0, .int .i64 0, .int .i64 0, .int .i64 0, .int .i64 0] 105) = V at *
  refine wp_region_rel' 7 _ rfl (Vof [isV k.val, isV (.slice Ap lp.length cp), isV (.slice Aq lq.length cq), isV c.val, isV k.val, isV (.int .i64 bd), isV (.agg #[.int .i64 k.turn, .int .i64 k.x0, .int .i64 k.y0, .int .i64 k.x1, .int .i64 k.y1, .int .i64 bd])]) (by kernel_rfl) (by kernel_rfl) (Vof_mono (by simp [isV_mono])) ?op ?last
  case op =>
    intro i o ho a V2 _ _ hfrm hE0 hdep
    have hE : Ext V V2 := Ext.trans ((Ext.refl V).drew) hE0
    match i, ho with
    | 0, ho =>
      injection ho with ho
      subst ho
      have e1 : a.tmps[7]?.getD undef = .pointer (some ⟨w.heap.size + 1, 0, none⟩) := slot_of (hfrm 7 (frm_of 7 (by kernel_rfl)))
      have c0 : V2.cell? ⟨w.heap.size + 1, 0, none⟩ = some (.int .i64 k.turn) := (HK.out.grow hE).cell 0
      have c1 : V2.cell? ⟨w.heap.size + 1, 1, none⟩ = some (.int .i64 k.x0) := (HK.out.grow hE).cell 1
      have c2 : V2.cell? ⟨w.heap.size + 1, 2, none⟩ = some (.int .i64 k.y0) := (HK.out.grow hE).cell 2
      have c3 : V2.cell? ⟨w.heap.size + 1, 3, none⟩ = some (.int .i64 k.x1) := (HK.out.grow hE).cell 3
      have c4 : V2.cell? ⟨w.heap.size + 1, 4, none⟩ = some (.int .i64 k.y1) := (HK.out.grow hE).cell 4
      exact rel_val (by simp [execOp, go_sem, e1, c0, c1, c2, c3, c4]) rfl
    | 1, ho =>
      injection ho with ho
      subst ho
      have e1 : a.tmps[0]?.getD undef = .slice Ap lp.length cp := slot_of (hfrm 0 (frm_of 0 (by kernel_rfl)))
      exact rel_val (by simp [execOp, go_sem, e1]) rfl
    | 2, ho =>
      injection ho with ho
      subst ho
      have e1 : a.tmps[1]?.getD undef = .slice Aq lq.length cq := slot_of (hfrm 1 (frm_of 1 (by kernel_rfl)))
      exact rel_val (by simp [execOp, go_sem, e1]) rfl
    | 3, ho =>
      injection ho with ho
      subst ho
      have e1 : a.tmps[6]?.getD undef = .pointer (some ⟨w.heap.size, 0, none⟩) := slot_of (hfrm 6 (frm_of 6 (by kernel_rfl)))
      have c0 : V2.cell? ⟨w.heap.size, 0, none⟩ = some (.int .i64 c.turns) := (HC.out.grow hE).cell 0
      have c1 : V2.cell? ⟨w.heap.size, 1, none⟩ = some (.int .i64 c.shift) := (HC.out.grow hE).cell 1
      have c2 : V2.cell? ⟨w.heap.size, 2, none⟩ = some (.int .i64 c.elastic) := (HC.out.grow hE).cell 2
      have c3 : V2.cell? ⟨w.heap.size, 3, none⟩ = some (.int .i64 c.reach) := (HC.out.grow hE).cell 3
      have c4 : V2.cell? ⟨w.heap.size, 4, none⟩ = some (.int .i64 c.spread) := (HC.out.grow hE).cell 4
      exact rel_val (by simp [execOp, go_sem, e1, c0, c1, c2, c3, c4]) rfl
    | 4, ho =>
      injection ho with ho
      subst ho
      have e1 : a.tmps[7]?.getD undef = .pointer (some ⟨w.heap.size + 1, 0, none⟩) := slot_of (hfrm 7 (frm_of 7 (by kernel_rfl)))
      have c0 : V2.cell? ⟨w.heap.size + 1, 0, none⟩ = some (.int .i64 k.turn) := (HK.out.grow hE).cell 0
      have c1 : V2.cell? ⟨w.heap.size + 1, 1, none⟩ = some (.int .i64 k.x0) := (HK.out.grow hE).cell 1
      have c2 : V2.cell? ⟨w.heap.size + 1, 2, none⟩ = some (.int .i64 k.y0) := (HK.out.grow hE).cell 2
      have c3 : V2.cell? ⟨w.heap.size + 1, 3, none⟩ = some (.int .i64 k.x1) := (HK.out.grow hE).cell 3
      have c4 : V2.cell? ⟨w.heap.size + 1, 4, none⟩ = some (.int .i64 k.y1) := (HK.out.grow hE).cell 4
      exact rel_val (by simp [execOp, go_sem, e1, c0, c1, c2, c3, c4]) rfl
    | 5, ho =>
      injection ho with ho
      subst ho
      have e1 : a.tmps[10]?.getD undef = .slice Ap lp.length cp := slot_of (hdep ⟨1, .data⟩ (by simp) (by kernel_rfl) 10 (by kernel_rfl))
      have e2 : a.tmps[11]?.getD undef = .slice Aq lq.length cq := slot_of (hdep ⟨2, .data⟩ (by simp) (by kernel_rfl) 11 (by kernel_rfl))
      have e3 : a.tmps[12]?.getD undef = c.val := slot_of (hdep ⟨3, .data⟩ (by simp) (by kernel_rfl) 12 (by kernel_rfl))
      have e4 : a.tmps[13]?.getD undef = k.val := slot_of (hdep ⟨4, .data⟩ (by simp) (by kernel_rfl) 13 (by kernel_rfl))
      exact rel_call 61 [.tmp 10, .tmp 11, .tmp 12, .tmp 13] #[22, 22, 38, 40] rfl (by kernel_rfl) [.slice Ap lp.length cp, .slice Aq lq.length cq, c.val, k.val] (by simp [Act.eval, e1, e2, e3, e4]) (ret_val (CB.out _ (HE.out.trans hE)))
    | 6, ho =>
      injection ho with ho
      subst ho
      have e1 : a.tmps[9]?.getD undef = k.val := slot_of (hdep ⟨0, .data⟩ (by simp) (by kernel_rfl) 9 (by kernel_rfl))
      have e2 : a.tmps[14]?.getD undef = .int .i64 bd := slot_of (hdep ⟨5, .data⟩ (by simp) (by kernel_rfl) 14 (by kernel_rfl))
      exact rel_val (by simp [execOp, go_sem, e1, e2]) rfl
    | k + 7, ho => exact absurd (List.getElem?_eq_some_iff.1 ho).1 (by simp)
  case last =>
    intro a V2 _ hdf hfrm hE0 hval
    have hE : Ext V V2 := Ext.trans ((Ext.refl V).drew) hE0
    have e1 : a.tmps[8]?.getD undef = .pointer (some ⟨w.heap.size + 1 + 1, 0, none⟩) := slot_of (hfrm 8 (frm_of 8 (by kernel_rfl)))
    have e2 : a.tmps[15]?.getD undef = .agg #[.int .i64 k.turn, .int .i64 k.x0, .int .i64 k.y0, .int .i64 k.x1, .int .i64 k.y1, .int .i64 bd] := slot_of (hval 6 15 (by simp) (by kernel_rfl))
    have hR := HR.out.grow hE
    have r0 : V2.cell? ⟨w.heap.size + 1 + 1, 0, none⟩ = some (.int .i64 0) := hR.cell 0
    have r1 : V2.cell? ⟨w.heap.size + 1 + 1, 1, none⟩ = some (.int .i64 0) := hR.cell 1
    have r2 : V2.cell? ⟨w.heap.size + 1 + 1, 2, none⟩ = some (.int .i64 0) := hR.cell 2
    have r3 : V2.cell? ⟨w.heap.size + 1 + 1, 3, none⟩ = some (.int .i64 0) := hR.cell 3
    have r4 : V2.cell? ⟨w.heap.size + 1 + 1, 4, none⟩ = some (.int .i64 0) := hR.cell 4
    have r5 : V2.cell? ⟨w.heap.size + 1 + 1, 5, none⟩ = some (.int .i64 0) := hR.cell 5
    have hf := hR.frozen
    simp [Oper.wp, execOp, e1, e2, go_sem, r0, r1, r2, r3, r4, r5, hf]
    clear hfrm hval
    go_wp2_with fail
    have HS := store_rs hR ⟨k, bd⟩
    refine bodyPost_ret (results_cell_row rfl _ _ (w.heap.size + 1 + 1) 105 #[.int .i64 k.turn, .int .i64 k.x0, .int .i64 k.y0, .int .i64 k.x1, .int .i64 k.y1, .int .i64 bd] (0, 0) _ (by simpa using e1) HS Try.underlying105 rfl (by kernel_rfl)) hdf ⟨rfl, ?_⟩
    have hle : w.heap.size ≤ w.heap.size + 1 + 1 := by omega
    exact (((((Ext.trans HE.out hE).setCell hle _).setCell hle _).setCell hle _).setCell hle _).setCell hle _ |>.setCell hle _
def intsL (l : List Int) : List Value := l.map fun (x : Int) => Value.int .i64 x
set_option maxRecDepth 100000 in
set_option maxHeartbeats 4000000 in
theorem turns_any (c : Cl) (n : Nat) (hn : n ≤ 3) (hc : c.turns = n) (w : World) : Calls Try.prog 80 #[c.val] w (RetS 3 1 (turnsL n).length (intsL (turnsL n)) w) := by
  have hl := Lib.hid (fun k => turnsL_len k)
  have HCt := Lib.hid hc
  clear hc
  go_enter Try.func80, Try.ntmps80
  go_wp2_with fail
  have HC := Lib.hid ((Blk.new w 38 #[.int .i64 c.turns, .int .i64 c.shift, .int .i64 c.elastic, .int .i64 c.reach, .int .i64 c.spread]).alloc (.cells #[.int .i64 0] 3))
  have HE := Lib.hid (((Ext.refl w).alloc (.cells #[.int .i64 c.turns, .int .i64 c.shift, .int .i64 c.elastic, .int .i64 c.reach, .int .i64 c.spread] 38)).alloc (.cells #[.int .i64 0] 3))
  have HO : Hid (((w.alloc (.cells #[.int .i64 c.turns, .int .i64 c.shift, .int .i64 c.elastic, .int .i64 c.reach, .int .i64 c.spread] 38)).alloc (.cells #[.int .i64 0] 3)).ownsRow (w.alloc (.cells #[.int .i64 c.turns, .int .i64 c.shift, .int .i64 c.elastic, .int .i64 c.reach, .int .i64 c.spread] 38)).heap.size 3 1 (.slice (some ⟨w.heap.size + 1, 0, none⟩) 1 1) 1 [.int .i64 0]) := Lib.hid ⟨rfl, .inr ⟨w.heap.size + 1, 1, #[.int .i64 0], rfl, by simp, Blk.new' _ _ _ _ (by simp), Nat.le_refl _, by simp [maxLen], rfl, rfl⟩⟩
  have HE1 : Hid (Ext (w.alloc (.cells #[.int .i64 c.turns, .int .i64 c.shift, .int .i64 c.elastic, .int .i64 c.reach, .int .i64 c.spread] 38)) ((w.alloc (.cells #[.int .i64 c.turns, .int .i64 c.shift, .int .i64 c.elastic, .int .i64 c.reach, .int .i64 c.spread] 38)).alloc (.cells #[.int .i64 0] 3))) := Lib.hid ((Ext.refl _).alloc _)
  have HS := Lib.hid (show (w.alloc (.cells #[.int .i64 c.turns, .int .i64 c.shift, .int .i64 c.elastic, .int .i64 c.reach, .int .i64 c.spread] 38)).heap.size = w.heap.size + 1 by simp)
  generalize (w.alloc (.cells #[.int .i64 c.turns, .int .i64 c.shift, .int .i64 c.elastic, .int .i64 c.reach, .int .i64 c.spread] 38)).alloc (.cells #[.int .i64 0] 3) = V at *
  have HE0 : Hid (Ext w (w.alloc (.cells #[.int .i64 c.turns, .int .i64 c.shift, .int .i64 c.elastic, .int .i64 c.reach, .int .i64 c.spread] 38))) := Lib.hid ((Ext.refl _).alloc _)
  have HB0 := Lib.hid (Blk.new w 38 #[.int .i64 c.turns, .int .i64 c.shift, .int .i64 c.elastic, .int .i64 c.reach, .int .i64 c.spread])
  generalize w.alloc (.cells #[.int .i64 c.turns, .int .i64 c.shift, .int .i64 c.elastic, .int .i64 c.reach, .int .i64 c.spread] 38) = V0 at *
  go_loopw [3, 4] (fun s t wr => ∃ (k : Nat) (uv : Value), uv = s ∧ k ≤ n ∧ t = .int .i64 ((k : Int) + 1) ∧ wr.ownsRow V0.heap.size 3 1 s (turnsL k).length (intsL (turnsL k)) ∧ Ext V0 wr ∧ Blk wr w.heap.size 38 #[.int .i64 c.turns, .int .i64 c.shift, .int .i64 c.elastic, .int .i64 c.reach, .int .i64 c.spread]) (fun _ t _ => n + 1 - (intOf t).toNat)
  case atStart => exact ⟨0, _, rfl, Nat.zero_le _, rfl, HO.out, HE1.out, HC.out⟩
  case round =>
    obtain ⟨k, uv, rfl, hk, rfl, hown, hE2, hB⟩ := hrel
    have HOwn := Lib.hid hown
    have HE2 := Lib.hid hE2
    have HB2 := Lib.hid hB
    have c0 : wr.cell? ⟨w.heap.size, 0, none⟩ = some (.int .i64 n) := by rw [← HCt.out]; exact hB.cell 0
    have HLk := Lib.hid (hl.out k)
    have hsz := HS.out
    clear hown hE2 hB
    by_cases hkn : k < n
    · have hb1 : decide ((k : Int) + 1 ≤ n) = true := by simp; omega
      go_wp2_with (at_builtin; refine wpList_append_ext rfl V0 (by exact HE2.out.alloc _) infoN (.tmp 12) (.tmp 16) rfl _ (turnsL k).length (intsL (turnsL k)) rfl (by exact own_grow HOwn.out ((Ext.refl _).alloc _)) _ 2 2 [.int .i64 ((k : Int) + 1), .int .i64 (-((k : Int) + 1))] rfl (Slc.of_blk (cs := #[.int .i64 ((k : Int) + 1), .int .i64 (-((k : Int) + 1))]) (t := 3) (Blk.new wr 3 #[.int .i64 ((k : Int) + 1), .int .i64 (-((k : Int) + 1))]) rfl) (by simp [Value.oneCell']) (by have := HLk.out; omega) (by omega) ?_; intro A2 c2 z3 hown2)
      have el : (turnsL (k + 1)).length = (turnsL k).length + 2 := by simp [turnsL]
      have ec : intsL (turnsL (k + 1)) = intsL (turnsL k) ++ [.int .i64 ((k : Int) + 1), .int .i64 (-((k : Int) + 1))] := by simp [turnsL, intsL]
      refine ⟨⟨k + 1, _, rfl, by omega, by go_num, ?_, Ext.ext_self V0 z3, HB0.out.ext z3⟩, by simp [intOf]; omega⟩
      rw [el, ec]
      exact hown2
    · have hb1 : decide ((k : Int) + 1 ≤ n) = false := by simp; omega
      obtain rfl : k = n := by omega
      obtain ⟨A3, c3, rfl⟩ := own_slice HOwn.out
      go_wp2_with fail
      go_ret
      exact ⟨A3, c3, rfl, own_mono HOwn.out HE0.out.size, HE0.out.trans HE2.out⟩
end Go.Proofs.Ythejomcibobieaa
