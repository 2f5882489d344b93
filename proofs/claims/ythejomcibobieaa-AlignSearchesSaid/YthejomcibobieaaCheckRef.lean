/- Which results are proved: the reference (89, 79, 31). -/
import Derived.Test.YthejomcibobieaaAlive
import Derived.Test.YthejomcibobieaaMoves
import Derived.Test.YthejomcibobieaaEqAt
namespace Go.Proofs.Ythejomcibobieaa
open Go.RowKit

theorem kt26 : Try.prog.keyTypeAt 10 26 = true := by kernel_rfl
structure Mv.wf (m : Mv) : Prop where
  t : wfI m.turn
  x : wfI m.dx
  y : wfI m.dy
theorem form26 (x : Mv) : x.val.formed Try.prog 26 = true := by kernel_rfl
theorem eq26v {x y : Mv} (hx : x.wf) (hy : y.wf) (w : World) : (Op.equalIn 10000 26 (.agg #[.int .i64 x.turn, .int .i64 x.dx, .int .i64 x.dy]) (.agg #[.int .i64 y.turn, .int .i64 y.dx, .int .i64 y.dy])).run Try.prog w = .ok (decide (x = y)) w := by
  obtain ⟨r, hr, hi⟩ := run_equalIn_deep 9990 10 26 kt26 w 10 10 x.val y.val [.int .i64 x.turn, .int .i64 x.dx, .int .i64 x.dy] [.int .i64 y.turn, .int .i64 y.dx, .int .i64 y.dy] (form26 x) (form26 y) (key_26 8 hx.t hx.x hx.y) (key_26 8 hy.t hy.x hy.y)
  have e : r = decide (x = y) := by
    rw [Bool.eq_iff_iff, hi, decide_eq_true_eq]
    constructor
    · intro h
      simp only [List.cons.injEq, Lit.int.injEq, true_and, and_true] at h
      exact Mv.ext_ h.1 h.2.1 h.2.2
    · rintro rfl; rfl
  rw [← e]
  exact hr
set_option maxRecDepth 100000 in
set_option maxHeartbeats 2000000 in
theorem has_any (k : Bk) (v : Mv) (w : World) : Calls Try.prog 89 #[k.val, v.val] w fun e w' => e = .returned (.bool (hasB k v)) ∧ Ext w w' := by
  have HV := Lib.hid (show hasB k v = (decide (k.turn = v.turn) && inB v.dx k.x0 k.x1 && inB v.dy k.y0 k.y1) from rfl)
  have HX := Lib.hid (fun w => within_any v.dx k.x0 k.x1 w)
  have HY := Lib.hid (fun w => within_any v.dy k.y0 k.y1 w)
  have hE := ((Ext.refl w).alloc (.cells #[.int .i64 k.turn, .int .i64 k.x0, .int .i64 k.y0, .int .i64 k.x1, .int .i64 k.y1] 40)).alloc (.cells #[.int .i64 v.turn, .int .i64 v.dx, .int .i64 v.dy] 26)
  by_cases h1 : k.turn = v.turn
  · have b1 : (k.turn == v.turn) = true := by simpa using h1
    have d1 : decide (k.turn = v.turn) = true := by simpa using h1
    rw [d1] at HV
    clear h1 d1
    cases h2 : inB v.dx k.x0 k.x1
    · rw [h2] at HX HV
      go_enter Try.func89, Try.ntmps89
      go_wp2_with fail
      refine Calls.same (HX.out _) ?_
      go_wp2_with fail
      go_ret
      exact ⟨ret_of (by rw [HV.out]; rfl), hE⟩
    · rw [h2] at HX HV
      go_enter Try.func89, Try.ntmps89
      go_wp2_with fail
      refine Calls.same (HX.out _) ?_
      go_wp2_with fail
      refine Calls.same (HY.out _) ?_
      go_wp2_with fail
      go_ret
      exact ⟨ret_of (by rw [HV.out]; rfl), hE⟩
  · have b1 : (k.turn == v.turn) = false := by simpa using h1
    have d1 : decide (k.turn = v.turn) = false := by simpa using h1
    rw [d1] at HV
    clear h1 d1
    go_enter Try.func89, Try.ntmps89
    go_wp2_with fail
    go_ret
    exact ⟨ret_of (by rw [HV.out]; rfl), hE⟩
theorem cntP_succ {α : Type} {l : List α} {k : Nat} {x : α} (p : α → Bool) (h : l[k]? = some x) : (l.take (k + 1)).countP p = (l.take k).countP p + if p x then 1 else 0 := by
  obtain ⟨hk, hx⟩ := List.getElem?_eq_some_iff.1 h
  rw [List.take_succ_eq_append_getElem hk, hx, List.countP_append]
  simp [List.countP_cons]
theorem cntP_le {α : Type} (l : List α) (k : Nat) (p : α → Bool) : (l.take k).countP p ≤ l.length := by
  have h1 := List.countP_le_length (p := p) (l := l.take k)
  rw [List.length_take] at h1
  omega
set_option maxRecDepth 100000 in
set_option maxHeartbeats 8000000 in
theorem covers_any (att : List At) (left : List Rs) (sc bd : Int) (A1 A2 : Option Addr) (c1 c2 : Nat) (v : Mv) (hna : att.length ≤ 2000) (hnl : left.length ≤ 2000) (hwf : ∀ x ∈ att, x.wf) (hv : v.wf) (w : World) (hA : Ats w A1 att) (hL : Rss w A2 left) :
    Calls Try.prog 79 #[resV att left sc bd A1 A2 c1 c2, v.val] w fun e w' => e = .returned (.int .i64 (cov ⟨att, left⟩ v : Nat)) ∧ Ext w w' := by
  obtain ⟨p, hp⟩ : ∃ p : At → Bool, p = fun a => decide (a.mv = v) := ⟨_, rfl⟩
  obtain ⟨q, hq⟩ : ∃ q : Rs → Bool, q = fun r => hasB r.bk v := ⟨_, rfl⟩
  have HV := Lib.hid (show cov ⟨att, left⟩ v = att.countP p + left.countP q from by rw [hp, hq]; rfl)
  have HEQ := Lib.hid (show ∀ x ∈ att, ∀ w, (Op.equalIn 10000 26 (.agg #[.int .i64 x.mv.turn, .int .i64 x.mv.dx, .int .i64 x.mv.dy]) (.agg #[.int .i64 v.turn, .int .i64 v.dx, .int .i64 v.dy])).run Try.prog w = .ok (p x) w from fun x hx w => by
    rw [hp]
    exact eq26v ⟨(hwf x hx).wt, (hwf x hx).wx, (hwf x hx).wy⟩ hv w)
  have CH := Lib.hid (show ∀ (r : Rs) w, Calls Try.prog 89 #[r.bk.val, v.val] w fun e w' => e = .returned (.bool (q r)) ∧ Ext w w' from fun r w => by rw [hq]; exact has_any r.bk v w)
  have HA := Lib.hid hA
  have HL := Lib.hid hL
  clear hp hq hwf hv hA hL
  go_enter Try.func79, Try.ntmps79
  go_wp2_with fail
  have HE0 := Lib.hid (((Ext.refl w).alloc (.cells #[.int .i64 sc, .int .i64 bd, .slice A1 att.length c1, .slice A2 left.length c2] 58)).alloc (.cells #[.int .i64 v.turn, .int .i64 v.dx, .int .i64 v.dy] 26))
  have HR := Lib.hid ((Blk.new w 58 #[.int .i64 sc, .int .i64 bd, .slice A1 att.length c1, .slice A2 left.length c2]).alloc (.cells #[.int .i64 v.turn, .int .i64 v.dx, .int .i64 v.dy] 26))
  have HM := Lib.hid (Blk.new' (w.alloc (.cells #[.int .i64 sc, .int .i64 bd, .slice A1 att.length c1, .slice A2 left.length c2] 58)) 26 #[.int .i64 v.turn, .int .i64 v.dx, .int .i64 v.dy] (w.heap.size + 1) (by simp))
  have HA1 := Lib.hid (HA.out.grow HE0.out)
  have HL1 := Lib.hid (HL.out.grow HE0.out)
  clear HA HL
  generalize (w.alloc (.cells #[.int .i64 sc, .int .i64 bd, .slice A1 att.length c1, .slice A2 left.length c2] 58)).alloc (.cells #[.int .i64 v.turn, .int .i64 v.dx, .int .i64 v.dy] 26) = V at *
  go_loopw [5, 6] (fun s t wr => ∃ k : Nat, k ≤ att.length ∧ t = .int .i64 k ∧ s = .int .i64 ((att.take k).countP p : Nat) ∧ Ext V wr) (fun _ t _ => att.length - (intOf t).toNat)
  case atStart => exact ⟨0, Nat.zero_le _, rfl, by simp, Ext.refl _⟩
  case round =>
    obtain ⟨k, hk, rfl, rfl, hE⟩ := hrel
    have HE := Lib.hid hE
    have r2 : wr.cell? ⟨w.heap.size, 2, none⟩ = some (.slice A1 att.length c1) := (HR.out.grow hE).cell 2
    have r3 : wr.cell? ⟨w.heap.size, 3, none⟩ = some (.slice A2 left.length c2) := (HR.out.grow hE).cell 3
    have v0 : wr.cell? ⟨w.heap.size + 1, 0, none⟩ = some (.int .i64 v.turn) := (HM.out.grow hE).cell 0
    have v1 : wr.cell? ⟨w.heap.size + 1, 1, none⟩ = some (.int .i64 v.dx) := (HM.out.grow hE).cell 1
    have v2 : wr.cell? ⟨w.heap.size + 1, 2, none⟩ = some (.int .i64 v.dy) := (HM.out.grow hE).cell 2
    have oR := Old.mk (HR.out.grow hE).lt
    have oM := Old.mk (HM.out.grow hE).lt
    clear hE
    by_cases hlt : k < att.length
    · have hki : (k : Int) < att.length := by omega
      obtain ⟨x, hx⟩ : ∃ x, att[k]? = some x := ⟨_, List.getElem?_eq_getElem hlt⟩
      rcases HA1.out with hn | ⟨ga, oa, rfl, ha2, hac⟩
      · rw [hn] at hlt; simp at hlt
      have og : Nonempty (Old ga wr) := ⟨Nat.lt_of_lt_of_le ha2 HE.out.size⟩
      have hcl1 : ∀ j u, x.cellsL[j]? = some u → wr.cell? ⟨ga, oa + k * 8 + j, none⟩ = some u := fun j u hu => by rw [HE.out.cell (by exact ha2)]; exact hac k x hx j u hu
      have x0 : wr.cell? ⟨ga, oa + k * 8, none⟩ = some (.int .i64 x.mv.turn) := hcl1 0 _ rfl
      have x1 : wr.cell? ⟨ga, oa + k * 8 + 1, none⟩ = some (.int .i64 x.mv.dx) := hcl1 1 _ rfl
      have x2 : wr.cell? ⟨ga, oa + k * 8 + 2, none⟩ = some (.int .i64 x.mv.dy) := hcl1 2 _ rfl
      have hq26 := HEQ.out x (List.mem_of_getElem? hx)
      have HC := Lib.hid (cntP_succ p hx)
      have hcn := cntP_le att k p
      have hwr : IntKind.i64.wrap (((att.take k).countP p : Nat) + 1 : Int) = (((att.take k).countP p + 1 : Nat) : Int) := (IntWalk.i64_in _ (by omega)).trans (by omega)
      clear hcl1 hac hx
      generalize (att.take k).countP p = n at *
      cases hpx : p x
      · rw [hpx] at hq26 HC
        go_wp2_with fail
        refine wp_region_ext (by kernel_rfl) (by kernel_rfl) ?_
        repeat (go_big_quiet_step (fail))
        refine wpQuiet_nil ?_
        rintro _ ⟨z2, rfl⟩
        go_wp2_with fail
        exact ⟨⟨k + 1, by omega, by go_num, by rw [HC.out]; simp, HE.out.ext z2⟩, by simp [intOf]; omega⟩
      · rw [hpx] at hq26 HC
        go_wp2_with fail
        refine wp_region_ext (by kernel_rfl) (by kernel_rfl) ?_
        repeat (go_big_quiet_step (fail))
        refine wpQuiet_nil ?_
        rintro _ ⟨z2, rfl⟩
        go_wp2_with fail
        exact ⟨⟨k + 1, by omega, by go_num, by rw [HC.out]; simp, HE.out.ext z2⟩, by simp [intOf]; omega⟩
    · obtain rfl : k = att.length := by omega
      have hna' := cntP_le att att.length p
      have HN := Lib.hid (show (att.take att.length).countP p = att.countP p by rw [List.take_length])
      generalize (att.take att.length).countP p = n at *
      go_wp2_with fail
      clear r2 r3 v0 v1 v2 oR oM
      have HEo := HE
      go_loopw [5, 7] (fun s t wr => ∃ k : Nat, k ≤ left.length ∧ t = .int .i64 k ∧ s = .int .i64 ((n + (left.take k).countP q : Nat)) ∧ Ext V wr) (fun _ t _ => left.length - (intOf t).toNat)
      case atStart => exact ⟨0, Nat.zero_le _, rfl, by simp, HEo.out⟩
      case round =>
        clear HEo HE
        obtain ⟨k, hk, rfl, rfl, hE⟩ := hrel
        have HE := Lib.hid hE
        have r3 : wr.cell? ⟨w.heap.size, 3, none⟩ = some (.slice A2 left.length c2) := (HR.out.grow hE).cell 3
        have v0 : wr.cell? ⟨w.heap.size + 1, 0, none⟩ = some (.int .i64 v.turn) := (HM.out.grow hE).cell 0
        have v1 : wr.cell? ⟨w.heap.size + 1, 1, none⟩ = some (.int .i64 v.dx) := (HM.out.grow hE).cell 1
        have v2 : wr.cell? ⟨w.heap.size + 1, 2, none⟩ = some (.int .i64 v.dy) := (HM.out.grow hE).cell 2
        have oR := Old.mk (HR.out.grow hE).lt
        have oM := Old.mk (HM.out.grow hE).lt
        clear hE
        by_cases hlt : k < left.length
        · have hki : (k : Int) < left.length := by omega
          obtain ⟨x, hx⟩ : ∃ x, left[k]? = some x := ⟨_, List.getElem?_eq_getElem hlt⟩
          rcases HL1.out with hn | ⟨ga, oa, rfl, ha2, hac⟩
          · rw [hn] at hlt; simp at hlt
          have og : Nonempty (Old ga wr) := ⟨Nat.lt_of_lt_of_le ha2 HE.out.size⟩
          have hcl1 : ∀ j u, x.cellsL[j]? = some u → wr.cell? ⟨ga, oa + k * 6 + j, none⟩ = some u := fun j u hu => by rw [HE.out.cell (by exact ha2)]; exact hac k x hx j u hu
          have x0 : wr.cell? ⟨ga, oa + k * 6, none⟩ = some (.int .i64 x.bk.turn) := hcl1 0 _ rfl
          have x1 : wr.cell? ⟨ga, oa + k * 6 + 1, none⟩ = some (.int .i64 x.bk.x0) := hcl1 1 _ rfl
          have x2 : wr.cell? ⟨ga, oa + k * 6 + 2, none⟩ = some (.int .i64 x.bk.y0) := hcl1 2 _ rfl
          have x3 : wr.cell? ⟨ga, oa + k * 6 + 3, none⟩ = some (.int .i64 x.bk.x1) := hcl1 3 _ rfl
          have x4 : wr.cell? ⟨ga, oa + k * 6 + 4, none⟩ = some (.int .i64 x.bk.y1) := hcl1 4 _ rfl
          have CHx := Lib.hid (fun z => CH.out x (ext wr z))
          have HC := Lib.hid (cntP_succ q hx)
          have hcn := cntP_le left k q
          clear hcl1 hac hx
          generalize (left.take k).countP q = m at *
          have hwr : IntKind.i64.wrap (((n + m : Nat) : Int) + 1) = ((n + (m + 1) : Nat) : Int) := (IntWalk.i64_in _ (by omega)).trans (by omega)
          have hwr2 : IntKind.i64.wrap ((n : Int) + (m : Int) + 1) = ((n + (m + 1) : Nat) : Int) := (IntWalk.i64_in _ (by omega)).trans (by omega)
          cases hpx : q x
          · rw [hpx] at CHx HC
            go_wp2_with fail
            refine wp_region_ext (by kernel_rfl) (by kernel_rfl) ?_
            repeat (go_big_quiet_step ((go_at_call 89; exact Calls.quiet_ext (CHx.out _))))
            refine wpQuiet_nil ?_
            rintro _ ⟨z2, rfl⟩
            go_wp2_with fail
            exact ⟨⟨k + 1, by omega, by go_num, by rw [HC.out]; simp, HE.out.ext z2⟩, by simp [intOf]; omega⟩
          · rw [hpx] at CHx HC
            go_wp2_with fail
            refine wp_region_ext (by kernel_rfl) (by kernel_rfl) ?_
            repeat (go_big_quiet_step ((go_at_call 89; exact Calls.quiet_ext (CHx.out _))))
            refine wpQuiet_nil ?_
            rintro _ ⟨z2, rfl⟩
            go_wp2_with fail
            exact ⟨⟨k + 1, by omega, by go_num, by rw [HC.out]; simp, HE.out.ext z2⟩, by simp [intOf]; omega⟩
        · obtain rfl : k = left.length := by omega
          have HN2 := Lib.hid (show (left.take left.length).countP q = left.countP q by rw [List.take_length])
          go_wp2_with fail
          go_ret
          exact ⟨ret_of (by rw [HV.out, ← HN.out, ← HN2.out]; rfl), HE0.out.trans HE.out⟩
set_option maxRecDepth 100000 in
set_option maxHeartbeats 8000000 in
theorem same_any (att : List At) (left : List Rs) (sc bd : Int) (A1 A2 B1 B2 : Option Addr) (c1 c2 e1 e2 : Nat) (hwa : ∀ x ∈ att, x.wf) (hwl : ∀ x ∈ left, x.wf) (hna : att.length ≤ 10000) (hnl : left.length ≤ 10000) (w : World) (hA : Ats w A1 att) (hL : Rss w A2 left) (hB : Ats w B1 att) (hM : Rss w B2 left) :
    Calls Try.prog 31 #[resV att left sc bd A1 A2 c1 c2, resV att left sc bd B1 B2 e1 e2] w fun e w' => e = .returned (.bool true) ∧ Ext w w' := by
  have WA := Lib.hid hwa
  have WL := Lib.hid hwl
  have HA := Lib.hid hA
  have HL := Lib.hid hL
  have HB := Lib.hid hB
  have HM := Lib.hid hM
  have b1 : (sc != sc) = false := by simp
  have b2 : (bd != bd) = false := by simp
  have b3 : (((att.length : Nat) : Int) != ((att.length : Nat) : Int)) = false := by simp
  have b4 : (((left.length : Nat) : Int) != ((left.length : Nat) : Int)) = false := by simp
  clear hwa hwl hA hL hB hM
  go_enter Try.func31, Try.ntmps31
  go_wp2_with fail
  have HE0 := Lib.hid (((Ext.refl w).alloc (.cells #[.int .i64 sc, .int .i64 bd, .slice A1 att.length c1, .slice A2 left.length c2] 58)).alloc (.cells #[.int .i64 sc, .int .i64 bd, .slice B1 att.length e1, .slice B2 left.length e2] 58))
  have HR := Lib.hid ((Blk.new w 58 #[.int .i64 sc, .int .i64 bd, .slice A1 att.length c1, .slice A2 left.length c2]).alloc (.cells #[.int .i64 sc, .int .i64 bd, .slice B1 att.length e1, .slice B2 left.length e2] 58))
  have HT := Lib.hid (Blk.new' (w.alloc (.cells #[.int .i64 sc, .int .i64 bd, .slice A1 att.length c1, .slice A2 left.length c2] 58)) 58 #[.int .i64 sc, .int .i64 bd, .slice B1 att.length e1, .slice B2 left.length e2] (w.heap.size + 1) (by simp))
  have HA1 := Lib.hid (HA.out.grow HE0.out)
  have HL1 := Lib.hid (HL.out.grow HE0.out)
  have HB1 := Lib.hid (HB.out.grow HE0.out)
  have HM1 := Lib.hid (HM.out.grow HE0.out)
  clear HA HL HB HM b1 b2 b3 b4
  generalize (w.alloc (.cells #[.int .i64 sc, .int .i64 bd, .slice A1 att.length c1, .slice A2 left.length c2] 58)).alloc (.cells #[.int .i64 sc, .int .i64 bd, .slice B1 att.length e1, .slice B2 left.length e2] 58) = V at *
  go_loopw [5] (fun t wr => ∃ k : Nat, k ≤ att.length ∧ t = .int .i64 k ∧ Ext V wr) (fun t _ => att.length - (intOf t).toNat)
  case atStart => exact ⟨0, Nat.zero_le _, rfl, Ext.refl _⟩
  case round =>
    obtain ⟨k, hk, rfl, hE⟩ := hrel
    have HE := Lib.hid hE
    have r2 : wr.cell? ⟨w.heap.size, 2, none⟩ = some (.slice A1 att.length c1) := (HR.out.grow hE).cell 2
    have r3 : wr.cell? ⟨w.heap.size, 3, none⟩ = some (.slice A2 left.length c2) := (HR.out.grow hE).cell 3
    have t2 : wr.cell? ⟨w.heap.size + 1, 2, none⟩ = some (.slice B1 att.length e1) := (HT.out.grow hE).cell 2
    have t3 : wr.cell? ⟨w.heap.size + 1, 3, none⟩ = some (.slice B2 left.length e2) := (HT.out.grow hE).cell 3
    have oR := Old.mk (HR.out.grow hE).lt
    have oT := Old.mk (HT.out.grow hE).lt
    clear hE
    by_cases hlt : k < att.length
    · have hki : (k : Int) < att.length := by omega
      obtain ⟨x, hx⟩ : ∃ x, att[k]? = some x := ⟨_, List.getElem?_eq_getElem hlt⟩
      have hq := fun w => eq46 (WA.out x (List.mem_of_getElem? hx)) (WA.out x (List.mem_of_getElem? hx)) w
      simp only [decide_true] at hq
      rcases HA1.out with hn | ⟨ga, oa, rfl, ha2, hac⟩
      · rw [hn] at hlt; simp at hlt
      rcases HB1.out with hn | ⟨gb, ob, rfl, hb2, hbc⟩
      · rw [hn] at hlt; simp at hlt
      have og : Nonempty (Old ga wr) := ⟨Nat.lt_of_lt_of_le ha2 HE.out.size⟩
      have oh : Nonempty (Old gb wr) := ⟨Nat.lt_of_lt_of_le hb2 HE.out.size⟩
      have hcl1 : ∀ j u, x.cellsL[j]? = some u → wr.cell? ⟨ga, oa + k * 8 + j, none⟩ = some u := fun j u hu => by rw [HE.out.cell (by exact ha2)]; exact hac k x hx j u hu
      have hcl2 : ∀ j u, x.cellsL[j]? = some u → wr.cell? ⟨gb, ob + k * 8 + j, none⟩ = some u := fun j u hu => by rw [HE.out.cell (by exact hb2)]; exact hbc k x hx j u hu
      have x0 : wr.cell? ⟨ga, oa + k * 8, none⟩ = some (.int .i64 x.mv.turn) := hcl1 0 _ rfl
      have x1 : wr.cell? ⟨ga, oa + k * 8 + 1, none⟩ = some (.int .i64 x.mv.dx) := hcl1 1 _ rfl
      have x2 : wr.cell? ⟨ga, oa + k * 8 + 2, none⟩ = some (.int .i64 x.mv.dy) := hcl1 2 _ rfl
      have x3 : wr.cell? ⟨ga, oa + k * 8 + 3, none⟩ = some (.int .i64 x.bd.a) := hcl1 3 _ rfl
      have x4 : wr.cell? ⟨ga, oa + k * 8 + 4, none⟩ = some (.int .i64 x.bd.b) := hcl1 4 _ rfl
      have x5 : wr.cell? ⟨ga, oa + k * 8 + 5, none⟩ = some (.int .i64 x.bd.c) := hcl1 5 _ rfl
      have x6 : wr.cell? ⟨ga, oa + k * 8 + 6, none⟩ = some (.int .i64 x.bd.d) := hcl1 6 _ rfl
      have x7 : wr.cell? ⟨ga, oa + k * 8 + 7, none⟩ = some (.int .i64 x.score) := hcl1 7 _ rfl
      have y0 : wr.cell? ⟨gb, ob + k * 8, none⟩ = some (.int .i64 x.mv.turn) := hcl2 0 _ rfl
      have y1 : wr.cell? ⟨gb, ob + k * 8 + 1, none⟩ = some (.int .i64 x.mv.dx) := hcl2 1 _ rfl
      have y2 : wr.cell? ⟨gb, ob + k * 8 + 2, none⟩ = some (.int .i64 x.mv.dy) := hcl2 2 _ rfl
      have y3 : wr.cell? ⟨gb, ob + k * 8 + 3, none⟩ = some (.int .i64 x.bd.a) := hcl2 3 _ rfl
      have y4 : wr.cell? ⟨gb, ob + k * 8 + 4, none⟩ = some (.int .i64 x.bd.b) := hcl2 4 _ rfl
      have y5 : wr.cell? ⟨gb, ob + k * 8 + 5, none⟩ = some (.int .i64 x.bd.c) := hcl2 5 _ rfl
      have y6 : wr.cell? ⟨gb, ob + k * 8 + 6, none⟩ = some (.int .i64 x.bd.d) := hcl2 6 _ rfl
      have y7 : wr.cell? ⟨gb, ob + k * 8 + 7, none⟩ = some (.int .i64 x.score) := hcl2 7 _ rfl
      clear hcl1 hcl2 hac hbc hx
      go_wp2_with fail
      refine wp_region_ext (by kernel_rfl) (by kernel_rfl) ?_
      repeat (go_big_quiet_step (fail))
      refine wpQuiet_nil ?_
      rintro _ ⟨z2, rfl⟩
      go_wp2_with fail
      exact ⟨⟨k + 1, by omega, by go_num, HE.out.ext z2⟩, by simp [intOf]; omega⟩
    · obtain rfl : k = att.length := by omega
      go_wp2_with fail
      have HEp := HE
      clear r2 r3 t2 t3 oR oT
      go_loopw [6] (fun t wr => ∃ k : Nat, k ≤ left.length ∧ t = .int .i64 k ∧ Ext V wr) (fun t _ => left.length - (intOf t).toNat)
      case atStart => exact ⟨0, Nat.zero_le _, rfl, HEp.out⟩
      case round =>
        clear HEp HE
        obtain ⟨k, hk, rfl, hE⟩ := hrel
        have HE := Lib.hid hE
        have r2 : wr.cell? ⟨w.heap.size, 2, none⟩ = some (.slice A1 att.length c1) := (HR.out.grow hE).cell 2
        have r3 : wr.cell? ⟨w.heap.size, 3, none⟩ = some (.slice A2 left.length c2) := (HR.out.grow hE).cell 3
        have t2 : wr.cell? ⟨w.heap.size + 1, 2, none⟩ = some (.slice B1 att.length e1) := (HT.out.grow hE).cell 2
        have t3 : wr.cell? ⟨w.heap.size + 1, 3, none⟩ = some (.slice B2 left.length e2) := (HT.out.grow hE).cell 3
        have oR := Old.mk (HR.out.grow hE).lt
        have oT := Old.mk (HT.out.grow hE).lt
        clear hE
        by_cases hlt : k < left.length
        · have hki : (k : Int) < left.length := by omega
          obtain ⟨x, hx⟩ : ∃ x, left[k]? = some x := ⟨_, List.getElem?_eq_getElem hlt⟩
          have hq := fun w => eq105 (WL.out x (List.mem_of_getElem? hx)) (WL.out x (List.mem_of_getElem? hx)) w
          simp only [decide_true] at hq
          rcases HL1.out with hn | ⟨ga, oa, rfl, ha2, hac⟩
          · rw [hn] at hlt; simp at hlt
          rcases HM1.out with hn | ⟨gb, ob, rfl, hb2, hbc⟩
          · rw [hn] at hlt; simp at hlt
          have og : Nonempty (Old ga wr) := ⟨Nat.lt_of_lt_of_le ha2 HE.out.size⟩
          have oh : Nonempty (Old gb wr) := ⟨Nat.lt_of_lt_of_le hb2 HE.out.size⟩
          have hcl1 : ∀ j u, x.cellsL[j]? = some u → wr.cell? ⟨ga, oa + k * 6 + j, none⟩ = some u := fun j u hu => by rw [HE.out.cell (by exact ha2)]; exact hac k x hx j u hu
          have hcl2 : ∀ j u, x.cellsL[j]? = some u → wr.cell? ⟨gb, ob + k * 6 + j, none⟩ = some u := fun j u hu => by rw [HE.out.cell (by exact hb2)]; exact hbc k x hx j u hu
          have x0 : wr.cell? ⟨ga, oa + k * 6, none⟩ = some (.int .i64 x.bk.turn) := hcl1 0 _ rfl
          have x1 : wr.cell? ⟨ga, oa + k * 6 + 1, none⟩ = some (.int .i64 x.bk.x0) := hcl1 1 _ rfl
          have x2 : wr.cell? ⟨ga, oa + k * 6 + 2, none⟩ = some (.int .i64 x.bk.y0) := hcl1 2 _ rfl
          have x3 : wr.cell? ⟨ga, oa + k * 6 + 3, none⟩ = some (.int .i64 x.bk.x1) := hcl1 3 _ rfl
          have x4 : wr.cell? ⟨ga, oa + k * 6 + 4, none⟩ = some (.int .i64 x.bk.y1) := hcl1 4 _ rfl
          have x5 : wr.cell? ⟨ga, oa + k * 6 + 5, none⟩ = some (.int .i64 x.bound) := hcl1 5 _ rfl
          have y0 : wr.cell? ⟨gb, ob + k * 6, none⟩ = some (.int .i64 x.bk.turn) := hcl2 0 _ rfl
          have y1 : wr.cell? ⟨gb, ob + k * 6 + 1, none⟩ = some (.int .i64 x.bk.x0) := hcl2 1 _ rfl
          have y2 : wr.cell? ⟨gb, ob + k * 6 + 2, none⟩ = some (.int .i64 x.bk.y0) := hcl2 2 _ rfl
          have y3 : wr.cell? ⟨gb, ob + k * 6 + 3, none⟩ = some (.int .i64 x.bk.x1) := hcl2 3 _ rfl
          have y4 : wr.cell? ⟨gb, ob + k * 6 + 4, none⟩ = some (.int .i64 x.bk.y1) := hcl2 4 _ rfl
          have y5 : wr.cell? ⟨gb, ob + k * 6 + 5, none⟩ = some (.int .i64 x.bound) := hcl2 5 _ rfl
          clear hcl1 hcl2 hac hbc hx
          go_wp2_with fail
          refine wp_region_ext (by kernel_rfl) (by kernel_rfl) ?_
          repeat (go_big_quiet_step (fail))
          refine wpQuiet_nil ?_
          rintro _ ⟨z2, rfl⟩
          go_wp2_with fail
          exact ⟨⟨k + 1, by omega, by go_num, HE.out.ext z2⟩, by simp [intOf]; omega⟩
        · obtain rfl : k = left.length := by omega
          go_wp2_with fail
          go_ret
          exact ⟨rfl, HE0.out.trans HE.out⟩
end Go.Proofs.Ythejomcibobieaa
