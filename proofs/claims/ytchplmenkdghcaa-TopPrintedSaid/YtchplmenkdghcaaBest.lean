/- The program's search (Best, 32). -/
import Derived.Test.YtchplmenkdghcaaBestS
import Derived.Test.YtchplmenkdghcaaDelete
import Derived.WalkMore
import Derived.Deep.CutRange
import Derived.Deep.CutBlock
namespace Go.Proofs.Ytchplmenkdghcaa
open Go.RowKit
/-- a result of a search -/
def RetB (s : St) (err : Int) (w : World) (e : Ending) (w' : World) : Prop := ∃ A1 c1 A2 c2, e = .returned (.tuple #[.agg #[.int .i64 (scoreS s), .int .i64 (boundS s), .slice A1 s.att.length c1, .slice A2 s.left.length c2], .int .i64 err]) ∧ Ats w' A1 s.att ∧ Rss w' A2 s.left ∧ Ext w w'
def bestE (c : Cl) (lp lq : List Mi) (n : Int) : Int := if askE c lp lq = 0 then (if inB n 0 2000 then 0 else 2) else askE c lp lq
def bestS (c : Cl) (lp lq : List Mi) (n : Int) : St := if bestE c lp lq n = 0 then runS (bndK c lp lq) (trK c lp lq) n.toNat (startS (bndK c lp lq) c) else ⟨[], []⟩
theorem run_stop {bnd : Bk → Int} {tr : Mv → At} {s : St} (h : stopS s = true) (n : Nat) : runS bnd tr n s = s := by
  cases n with
  | zero => rfl
  | succ n => unfold runS; rw [if_pos h]
/-- the first k turns' rounds -/
def preT : Nat → List Int
  | 0 => []
  | k + 1 => turnsL k
theorem preT_len (k : Nat) : (preT k).length ≤ 2 * k := by
  cases k with
  | zero => simp [preT]
  | succ k => simp only [preT, turnsL_len]; omega
theorem BsI.grown {w0 : World} {b gA : Nat} {PS QS : Value} {c : Cl} {s : St} {sc bd : Int} {vA vL : Value} {W W' : World} (h : BsI w0 b gA PS QS c s sc bd vA vL W) {g : Nat} (hG : W.grownBy W' (some g)) (h1 : gA < g) (h2 : vA.ownBlock ≠ some g) (h3 : vL.ownBlock ≠ some g) : BsI w0 b gA PS QS c s sc bd vA vL W' := by
  refine h.turn (v := .slice (some ⟨g, 0, none⟩) 0 0) ⟨hG.os, hG.tape, hG.output, hG.size, fun x hx _ h2 => hG.block x hx (fun e => h2 e.symm)⟩ (fun g' e => by injection e with e; subst e; exact h1) ⟨(hG.block gA h.al.blk.lt (fun e => by injection e with e; omega)).trans h.al.blk, own_at h.al.att fun g' e => hG.block g' (h.ownA e).2 (fun e2 => h2 (e.trans e2)), own_at h.al.left fun g' e => hG.block g' (h.ownL e).2 (fun e2 => h3 (e.trans e2)), h.al.ga, h.al.ne⟩
theorem meas_len {c : Cl} : ∀ {l : List Rs}, (∀ r ∈ l, isBlk c r.bk = true) → l.length ≤ meas l
  | [], _ => Nat.zero_le _
  | x :: r, h => by
    have h1 := cells_pos (h x List.mem_cons_self)
    have h2 := meas_len fun y hy => h y (List.mem_cons_of_mem _ hy)
    unfold meas at h2 ⊢
    simp only [List.map_cons, List.sum_cons, List.length_cons]
    omega
theorem BsI.done {w0 : World} {b gA : Nat} {PS QS : Value} {c : Cl} {s : St} {sc bd : Int} {A1 A2 : Option Addr} {c1 c2 : Nat} {W : World} (h : BsI w0 b gA PS QS c s sc bd (.slice A1 s.att.length c1) (.slice A2 s.left.length c2) W) (hE : w0.heap.size ≤ b + 1 + 1 + 1) (u0 u1 u2 u3 : Value) :
    Ats ((((W.setCell ⟨b + 1 + 1 + 1, 0, none⟩ u0).setCell ⟨b + 1 + 1 + 1, 1, none⟩ u1).setCell ⟨b + 1 + 1 + 1, 2, none⟩ u2).setCell ⟨b + 1 + 1 + 1, 3, none⟩ u3) A1 s.att ∧ Rss ((((W.setCell ⟨b + 1 + 1 + 1, 0, none⟩ u0).setCell ⟨b + 1 + 1 + 1, 1, none⟩ u1).setCell ⟨b + 1 + 1 + 1, 2, none⟩ u2).setCell ⟨b + 1 + 1 + 1, 3, none⟩ u3) A2 s.left ∧
      Ext w0 ((((W.setCell ⟨b + 1 + 1 + 1, 0, none⟩ u0).setCell ⟨b + 1 + 1 + 1, 1, none⟩ u1).setCell ⟨b + 1 + 1 + 1, 2, none⟩ u2).setCell ⟨b + 1 + 1 + 1, 3, none⟩ u3) ∧ Blk ((((W.setCell ⟨b + 1 + 1 + 1, 0, none⟩ u0).setCell ⟨b + 1 + 1 + 1, 1, none⟩ u1).setCell ⟨b + 1 + 1 + 1, 2, none⟩ u2).setCell ⟨b + 1 + 1 + 1, 3, none⟩ u3) (b + 1 + 1 + 1) 45 #[u0, u1, u2, u3] := by
  have hg := h.hg
  have h3 : b + 1 + 1 + 1 < gA + 1 := by omega
  exact ⟨Ats.own (ownsRow_setCell_below (ownsRow_setCell_below (ownsRow_setCell_below (ownsRow_setCell_below h.al.att (by exact h3) _) (by exact h3) _) (by exact h3) _) (by exact h3) _), Rss.own (ownsRow_setCell_below (ownsRow_setCell_below (ownsRow_setCell_below (ownsRow_setCell_below h.al.left (by exact h3) _) (by exact h3) _) (by exact h3) _) (by exact h3) _), (((h.ext.setCell (by exact hE) _).setCell (by exact hE) _).setCell (by exact hE) _).setCell (by exact hE) _, (((h.r.set_ 0 u0).set_ 1 u1).set_ 2 u2).set_ 3 u3⟩
set_option maxRecDepth 100000 in
set_option maxHeartbeats 16000000 in
theorem best_good (c : Cl) (hc : c.ok) (lp lq : List Mi) (n : Int) (hn0 : 0 ≤ n ∧ n ≤ 2000) (hp : ∀ m ∈ lp, m.ok) (hq : ∀ m ∈ lq, m.ok) (h0 : askE c lp lq = 0) (hnp : lp.length ≤ 100) (hnq : lq.length ≤ 100) (Ap Aq : Option Addr) (cp cq : Nat) (w : World) (hP : Pts w Ap lp) (hQ : Pts w Aq lq) :
    Calls Try.prog 9 #[.slice Ap lp.length cp, .slice Aq lq.length cq, c.val, .int .i64 n] w (RetB (runS (bndK c lp lq) (trK c lp lq) n.toNat (startS (bndK c lp lq) c)) 0 w) := by
  obtain ⟨N, rfl⟩ : ∃ N : Nat, n = N := ⟨n.toNat, by omega⟩
  have hN2 : N ≤ 2000 := by omega
  have CA := Lib.hid (fun w h1 h2 => check2_any c lp lq hnp hnq Ap Aq cp cq w h1 h2)
  rw [h0] at CA
  have CW := Lib.hid (fun (b : Nat) (w : World) (h : w.cell? ⟨b, 0, none⟩ = some (.int .i64 (N : Int))) => one_any 0 2000 (N : Int) b 1 w h)
  rw [show inB (N : Int) 0 2000 = true from inB_iff.2 hn0] at CW
  have CL := Lib.hid (fun (b gA : Nat) (s : St) (sc bd : Int) (vA vL : Value) (W : World) (h : BsI w b gA (.slice Ap lp.length cp) (.slice Aq lq.length cq) c s sc bd vA vL W) => h.leave hc hp hq hnp hnq hP hQ)
  have CT := Lib.hid (fun (v : Mv) (h : isMove c v = true) (W : World) (hE : Ext w W) => show Calls Try.prog 24 #[.slice Ap lp.length cp, .slice Aq lq.length cq, c.val, v.val] W fun e w' => e = .returned (.agg (trK c lp lq v).cells) ∧ Ext W w' from try_any c hc lp lq v hp hq (move_in hc h).1 (move_in hc h).2.1 (move_in hc h).2.2 hnp hnq Ap Aq cp cq W (hP.grow hE) (hQ.grow hE))
  have HPr := Lib.hid (prom hc lp lq hp)
  have HI := Lib.hid (inv_start (bnd := bndK c lp lq) (tr := trK c lp lq) hc)
  have HM := Lib.hid (meas_start (bnd := bndK c lp lq) hc)
  have HP := Lib.hid hP
  have HQ := Lib.hid hQ
  obtain ⟨T, hT⟩ : ∃ T : Nat, c.turns = T := ⟨c.turns.toNat, by have := hc.turns; omega⟩
  have hT3 : T ≤ 3 := by have := hc.turns; omega
  have hsh := hc.shift
  have HWk := Lib.hid (fun (t : Int) (h : -(T : Int) ≤ t ∧ t ≤ T) => whole_ok (c := c) hc (t := t) (by rw [hT, Int.toNat_natCast, turnsL_mem]; exact h))
  have hS0 : startS (bndK c lp lq) c = ⟨[], (turnsL T).map fun t => withB (bndK c lp lq) (wholeK c t)⟩ := by unfold startS; rw [hT, Int.toNat_natCast]
  rw [Int.toNat_natCast]
  rw [hS0] at HI HM ⊢
  have HT := Lib.hid hT
  clear hP hQ h0 hc hp hq hnp hnq hS0 hT hn0
  have HB : Hid (∀ k, isBlk c k = true → True) := Lib.hid fun _ _ => trivial
  clear HB
  generalize bndK c lp lq = bnd at *
  generalize trK c lp lq = tr at *
  obtain ⟨Fin, hFin⟩ : ∃ Fin, Fin = runS bnd tr N ⟨[], (turnsL T).map fun t => withB bnd (wholeK c t)⟩ := ⟨_, rfl⟩
  rw [← hFin]
  have HFin := Lib.hid hFin
  clear hFin
  go_enter Try.func9, Try.ntmps9
  go_wp2_with fail
  go_step3
  have BP := Lib.hid ((((Blk.new w 38 #[.slice Ap lp.length cp]).alloc (.cells #[.slice Aq lq.length cq] 38)).alloc (.cells #[.int .i64 c.turns, .int .i64 c.shift, .int .i64 c.elastic, .int .i64 c.reach, .int .i64 c.spread] 26)).alloc (.cells #[.int .i64 0, .int .i64 0, .slice none 0 0, .slice none 0 0] 45))
  have BQ := Lib.hid (((Blk.new' (w.alloc (.cells #[.slice Ap lp.length cp] 38)) 38 #[.slice Aq lq.length cq] (w.heap.size + 1) (by simp)).alloc (.cells #[.int .i64 c.turns, .int .i64 c.shift, .int .i64 c.elastic, .int .i64 c.reach, .int .i64 c.spread] 26)).alloc (.cells #[.int .i64 0, .int .i64 0, .slice none 0 0, .slice none 0 0] 45))
  have BC := Lib.hid ((Blk.new' ((w.alloc (.cells #[.slice Ap lp.length cp] 38)).alloc (.cells #[.slice Aq lq.length cq] 38)) 26 #[.int .i64 c.turns, .int .i64 c.shift, .int .i64 c.elastic, .int .i64 c.reach, .int .i64 c.spread] (w.heap.size + 1 + 1) (by simp)).alloc (.cells #[.int .i64 0, .int .i64 0, .slice none 0 0, .slice none 0 0] 45))
  have BR := Lib.hid (Blk.new' (((w.alloc (.cells #[.slice Ap lp.length cp] 38)).alloc (.cells #[.slice Aq lq.length cq] 38)).alloc (.cells #[.int .i64 c.turns, .int .i64 c.shift, .int .i64 c.elastic, .int .i64 c.reach, .int .i64 c.spread] 26)) 45 #[.int .i64 0, .int .i64 0, .slice none 0 0, .slice none 0 0] (w.heap.size + 1 + 1 + 1) (by simp))
  have HE0 := Lib.hid (((((Ext.refl w).alloc (.cells #[.slice Ap lp.length cp] 38)).alloc (.cells #[.slice Aq lq.length cq] 38)).alloc (.cells #[.int .i64 c.turns, .int .i64 c.shift, .int .i64 c.elastic, .int .i64 c.reach, .int .i64 c.spread] 26)).alloc (.cells #[.int .i64 0, .int .i64 0, .slice none 0 0, .slice none 0 0] 45))
  have HS0 := Lib.hid (show ((((w.alloc (.cells #[.slice Ap lp.length cp] 38)).alloc (.cells #[.slice Aq lq.length cq] 38)).alloc (.cells #[.int .i64 c.turns, .int .i64 c.shift, .int .i64 c.elastic, .int .i64 c.reach, .int .i64 c.spread] 26)).alloc (.cells #[.int .i64 0, .int .i64 0, .slice none 0 0, .slice none 0 0] 45)).heap.size = w.heap.size + 4 by simp)
  generalize (((w.alloc (.cells #[.slice Ap lp.length cp] 38)).alloc (.cells #[.slice Aq lq.length cq] 38)).alloc (.cells #[.int .i64 c.turns, .int .i64 c.shift, .int .i64 c.elastic, .int .i64 c.reach, .int .i64 c.spread] 26)).alloc (.cells #[.int .i64 0, .int .i64 0, .slice none 0 0, .slice none 0 0] 45) = V at *
  have oP := Old.mk BP.out.lt
  have oQ := Old.mk BQ.out.lt
  have oC := Old.mk BC.out.lt
  have oR := Old.mk BR.out.lt
  have p0 : V.cell? ⟨w.heap.size, 0, none⟩ = some (.slice Ap lp.length cp) := BP.out.cell 0
  have q0 : V.cell? ⟨w.heap.size + 1, 0, none⟩ = some (.slice Aq lq.length cq) := BQ.out.cell 0
  have c0 : V.cell? ⟨w.heap.size + 1 + 1, 0, none⟩ = some (.int .i64 T) := by rw [← HT.out]; exact BC.out.cell 0
  have c0' : V.cell? ⟨w.heap.size + 1 + 1, 0, none⟩ = some (.int .i64 c.turns) := BC.out.cell 0
  have c1 : V.cell? ⟨w.heap.size + 1 + 1, 1, none⟩ = some (.int .i64 c.shift) := BC.out.cell 1
  have c2 : V.cell? ⟨w.heap.size + 1 + 1, 2, none⟩ = some (.int .i64 c.elastic) := BC.out.cell 2
  have c3 : V.cell? ⟨w.heap.size + 1 + 1, 3, none⟩ = some (.int .i64 c.reach) := BC.out.cell 3
  have c4 : V.cell? ⟨w.heap.size + 1 + 1, 4, none⟩ = some (.int .i64 c.spread) := BC.out.cell 4
  clear c0
  go_wp2_with fail
  refine Calls.ext (CA.out _ (HP.out.grow HE0.out) (HQ.out.grow HE0.out)) fun z1 => ?_
  go_wp2_with fail
  refine Calls.same (CW.out _ _ ((Blk.new (ext V z1) 3 #[.int .i64 (N : Int)]).cell 0)) ?_
  have c0 : V.cell? ⟨w.heap.size + 1 + 1, 0, none⟩ = some (.int .i64 T) := by rw [← HT.out]; exact BC.out.cell 0
  clear c0'
  go_wp2_with fail
  have hsz := ext_size V z1
  have hs4 := HS0.out
  have HB0 : Hid (BsI w w.heap.size ((ext V z1).heap.size + 1) (.slice Ap lp.length cp) (.slice Aq lq.length cq) c ⟨[], []⟩ 0 0 (.slice none 0 0) (.slice none 0 0) (((ext V z1).alloc (.cells #[.int .i64 (N : Int)] 3)).alloc (.cells #[.int .i64 0, .int .i64 0, .slice none 0 0, .slice none 0 0] 45))) := Lib.hid
    ⟨((BP.out.ext z1).alloc _).alloc _, ((BQ.out.ext z1).alloc _).alloc _, ((BC.out.ext z1).alloc _).alloc _, ((BR.out.ext z1).alloc _).alloc _, ⟨Blk.new' _ _ _ _ (by simp), own_nil _ _ _ _, own_nil _ _ _ _, by omega, fun g e => by cases e⟩, ((HE0.out.ext z1).alloc _).alloc _, by omega, Nat.le_refl _⟩
  generalize ((ext V z1).alloc (.cells #[.int .i64 (N : Int)] 3)).alloc (.cells #[.int .i64 0, .int .i64 0, .slice none 0 0, .slice none 0 0] 45) = V2 at *
  generalize (ext V z1).heap.size + 1 = gA at *
  clear p0 q0 c0 c1 c2 c3 c4 oP oQ oC oR BP BQ BC BR HE0 HS0 hsz hs4 CA CW
  go_loopw [41] (fun t wr => ∃ (k : Nat) (vL : Value), k ≤ T + 1 ∧ t = .int .i64 k ∧ BsI w w.heap.size gA (.slice Ap lp.length cp) (.slice Aq lq.length cq) c ⟨[], (preT k).map fun t => withB bnd (wholeK c t)⟩ 0 0 (.slice none 0 0) vL wr) (fun t _ => T + 1 - (intOf t).toNat)
  case atStart => exact ⟨0, _, Nat.zero_le _, rfl, HB0.out⟩
  case round =>
    clear HB0
    obtain ⟨k, vL, hk, rfl, hB⟩ := hrel
    have HB := Lib.hid hB
    clear hB
    by_cases hlt : k < T + 1
    · have hki : (k : Int) < (T : Int) + 1 := by omega
      have c1 : wr.cell? ⟨w.heap.size + 1 + 1, 1, none⟩ = some (.int .i64 c.shift) := HB.out.c.cell 1
      have oC := Old.mk HB.out.c.lt
      have lp1 := HB.out.lt
      have HNL : Hid (∀ l : List Int, l.length ≤ 100 → (l.map fun t => withB bnd (wholeK c t)).length ≤ 60000) := Lib.hid fun l h => by rw [List.length_map]; omega
      have HL0 := Lib.hid (preT_len k)
      rcases Nat.eq_zero_or_pos k with rfl | hk0
      · go_wp2_with fail
        refine (compact_one wr.heap.size (wr.alloc (.cells #[.int .i64 0, .int .i64 0] 3)) (Blk.new _ _ _)).mono ?_
        rintro _ W1 ⟨rfl, hG, hGr⟩
        have HB1 := Lib.hid ((HB.out.grow ((Ext.refl wr).alloc (.cells #[.int .i64 0, .int .i64 0] 3))).grown hGr (by omega) (fun e => by cases e) (fun e => by have := (HB.out.ownL e).2; omega))
        have g0 : W1.cell? ⟨wr.heap.size, 0, none⟩ = some (.int .i64 0) := hG.cell 0
        have d1 : W1.cell? ⟨w.heap.size + 1 + 1, 1, none⟩ = some (.int .i64 c.shift) := HB1.out.c.cell 1
        clear hG hGr c1
        go_wp2_with fail
        refine wp_loop_rounds 2 ?_
        rw [rounds_succ]
        go_wp2_with fail
        refine (CL.out _ gA _ _ _ _ _ W1 HB1.out (wholeK c 0) (HWk.out 0 (by omega)) (HNL.out _ (by simp [preT]))).mono ?_
        rintro _ W2 ⟨⟨u, rfl⟩, vL2, hB2, -, -⟩
        go_wp2_with fail
        rw [rounds_succ]
        go_wp2_with fail
        exact ⟨⟨1, vL2, by omega, by go_num, hB2⟩, by simp [intOf]⟩
      · obtain ⟨j, rfl⟩ : ∃ j, k = j + 1 := ⟨k - 1, by omega⟩
        go_wp2_with fail
        refine (compact_two wr.heap.size ((j : Int) + 1) (-((j : Int) + 1)) (by omega) (wr.alloc (.cells #[.int .i64 ((j : Int) + 1), .int .i64 (-((j : Int) + 1))] 3)) (Blk.new _ _ _)).mono ?_
        rintro _ W1 ⟨rfl, hE1⟩
        have hG := (Blk.new wr 3 #[.int .i64 ((j : Int) + 1), .int .i64 (-((j : Int) + 1))]).grow hE1
        have HB1 := Lib.hid (HB.out.grow (((Ext.refl wr).alloc (.cells #[.int .i64 ((j : Int) + 1), .int .i64 (-((j : Int) + 1))] 3)).trans hE1))
        have g0 : W1.cell? ⟨wr.heap.size, 0, none⟩ = some (.int .i64 ((j : Int) + 1)) := hG.cell 0
        have HG := Lib.hid hG
        have d1 : W1.cell? ⟨w.heap.size + 1 + 1, 1, none⟩ = some (.int .i64 c.shift) := HB1.out.c.cell 1
        clear hG hE1 c1
        go_wp2_with fail
        refine wp_loop_rounds 3 ?_
        rw [rounds_succ]
        go_wp2_with fail
        refine (CL.out _ gA _ _ _ _ _ W1 HB1.out (wholeK c ((j : Int) + 1)) (HWk.out _ (by omega)) (HNL.out _ (by have := HL0.out; omega))).mono ?_
        rintro _ W2 ⟨⟨u, rfl⟩, vL2, hB2, hK2, -⟩
        have HB2 := Lib.hid hB2
        have g1 : W2.cell? ⟨wr.heap.size, 1, none⟩ = some (.int .i64 (-((j : Int) + 1))) := (hK2.blk HG.out (by omega) (fun e => by have := (HB.out.ownL e).2; omega)).cell 1
        have d2 : W2.cell? ⟨w.heap.size + 1 + 1, 1, none⟩ = some (.int .i64 c.shift) := hB2.c.cell 1
        clear hB2 hK2 d1 g0
        go_wp2_with fail
        rw [rounds_succ]
        go_wp2_with fail
        refine (CL.out _ gA _ _ _ _ _ W2 HB2.out (wholeK c (-((j : Int) + 1))) (HWk.out _ (by omega)) (by have := HL0.out; simp; omega)).mono ?_
        rintro _ W3 ⟨⟨u, rfl⟩, vL3, hB3, -, -⟩
        have HB3 := Lib.hid hB3
        clear hB3
        go_wp2_with fail
        rw [rounds_succ]
        go_wp2_with fail
        refine ⟨⟨j + 1 + 1, vL3, by omega, by go_num, ?_⟩, by simp [intOf]; omega⟩
        have := HB3.out
        rw [List.append_assoc] at this
        rw [show (preT (j + 1 + 1)).map (fun t => withB bnd (wholeK c t)) = (preT (j + 1)).map (fun t => withB bnd (wholeK c t)) ++ ([withB bnd (wholeK c ((j : Int) + 1))] ++ [withB bnd (wholeK c (-((j : Int) + 1)))]) from by simp [preT, turnsL]]
        exact this
    · obtain rfl : k = T + 1 := by omega
      have a0 := HB.out.al.blk
      clear a0
      go_wp2_with fail
      refine (HB.out.sum ⟨by simp, by have := turnsL_len T; simp [preT]; omega⟩).mono ?_
      rintro _ W1 ⟨⟨u, rfl⟩, hB1⟩
      have HB1 := Lib.hid hB1
      clear hB1 HB
      go_wp2_with fail
      go_step3
      go_wp2_with fail
      go_loopw [72] (fun t wr => ∃ (k : Nat) (s : St) (vA vL : Value), t = .int .i64 k ∧ k ≤ N ∧ Fin = runS bnd tr (N - k) s ∧ Inv c bnd tr s ∧ meas s.left ≤ 1127 ∧ s.att.length ≤ k ∧ BsI w w.heap.size gA (.slice Ap lp.length cp) (.slice Aq lq.length cq) c s (scoreS s) (boundS s) vA vL wr) (fun t _ => N - (intOf t).toNat)
      case atStart => exact ⟨0, _, _, _, rfl, Nat.zero_le _, HFin.out, HI.out, HM.out, Nat.le_refl _, HB1.out⟩
      case round =>
        clear HB1 HI HM HFin
        obtain ⟨k, s, vA, vL, rfl, hk, hrun, hinv, hm, hal, hB⟩ := hrel
        have HB := Lib.hid hB
        have HRun := Lib.hid hrun
        have HInv := Lib.hid hinv
        have HMe := Lib.hid hm
        have hnl : s.left.length ≤ 1127 := Nat.le_trans (meas_len fun r hr => (hinv.left r hr).1) hm
        clear hB hrun hinv hm
        obtain ⟨A1, c1, rfl⟩ := own_slice HB.out.al.att
        obtain ⟨A2, c2, rfl⟩ := own_slice HB.out.al.left
        have oA := Old.mk HB.out.al.blk.lt
        have a0 : wr.cell? ⟨gA, 0, none⟩ = some (.int .i64 (scoreS s)) := HB.out.al.blk.cell 0
        have a1 : wr.cell? ⟨gA, 1, none⟩ = some (.int .i64 (boundS s)) := HB.out.al.blk.cell 1
        have a2 : wr.cell? ⟨gA, 2, none⟩ = some (.slice A1 s.att.length c1) := HB.out.al.blk.cell 2
        have a3 : wr.cell? ⟨gA, 3, none⟩ = some (.slice A2 s.left.length c2) := HB.out.al.blk.cell 3
        have r0 : wr.cell? ⟨w.heap.size + 1 + 1 + 1, 0, none⟩ = some (.int .i64 0) := HB.out.r.cell 0
        have r1 : wr.cell? ⟨w.heap.size + 1 + 1 + 1, 1, none⟩ = some (.int .i64 0) := HB.out.r.cell 1
        have r2 : wr.cell? ⟨w.heap.size + 1 + 1 + 1, 2, none⟩ = some (.slice none 0 0) := HB.out.r.cell 2
        have r3 : wr.cell? ⟨w.heap.size + 1 + 1 + 1, 3, none⟩ = some (.slice none 0 0) := HB.out.r.cell 3
        have fR := HB.out.r.frozen
        by_cases hlt : k < N
        · have hki : (k : Int) < N := by omega
          go_upto_region 20 with fail
          go_cut [90] from 74 to 90 (fun s90 wx => s90 = .bool (stopS s) ∧ wx = wr)
          case first =>
            have HSt := Lib.hid (show stopS s = (s.left.isEmpty || (!s.att.isEmpty && decide (boundS s = scoreS s))) from rfl)
            by_cases l0 : s.left.length = 0
            · have hb1 : ((s.left.length : Int) == 0) = true := by simp [l0]
              have HS2 := Lib.hid (show stopS s = true by rw [HSt.out, List.eq_nil_of_length_eq_zero l0]; rfl)
              clear l0
              go_wp2_with fail
              go_meet
              exact ⟨by rw [HS2.out], rfl⟩
            · have hb1 : ((s.left.length : Int) == 0) = false := by simpa using l0
              have hl1 : s.left.isEmpty = false := by
                cases hl : s.left with
                | nil => rw [hl] at l0; exact absurd rfl l0
                | cons _ _ => rfl
              rw [hl1] at HSt
              clear l0 hl1
              by_cases t0 : s.att.length = 0
              · have hb2 : decide ((0 : Int) < s.att.length) = false := by simp [t0]
                have hb3 : decide (0 < s.att.length) = false := by simp [t0]
                have HS2 := Lib.hid (show stopS s = false by rw [HSt.out, List.eq_nil_of_length_eq_zero t0]; rfl)
                clear t0
                go_wp2_with fail
                go_meet
                exact ⟨by rw [HS2.out], rfl⟩
              · have hb2 : decide ((0 : Int) < s.att.length) = true := by simp; omega
                have hb3 : decide (0 < s.att.length) = true := by simp; omega
                have hl1 : s.att.isEmpty = false := by
                  cases hl : s.att with
                  | nil => rw [hl] at t0; exact absurd rfl t0
                  | cons _ _ => rfl
                rw [hl1] at HSt
                clear t0 hl1
                go_wp2_with fail
                go_meet
                exact ⟨by rw [HSt.out]; rfl, rfl⟩
          case rest =>
            obtain ⟨rfl, rfl⟩ := hcut
            cases hst : stopS s
            · have HNe := Lib.hid (stop_no hst)
              obtain ⟨A2', c2', hAe, hAc⟩ := own_sl rs_len HB.out.al.left
              injection hAe with hA2 hl2 hc2
              clear hl2
              subst hA2
              subst hc2
              have HAC := Lib.hid hAc
              clear hAc
              clear a0 a1 a2
              go_wp2_with fail
              go_loopw [16, 94] (fun a t wx => ∃ (i : Nat) (z : World), i ≤ s.left.length ∧ t = .int .i64 i ∧ a = .int .i64 (highN s.left i : Nat) ∧ wx = ext wc z) (fun _ t _ => s.left.length - (intOf t).toNat)
              case atStart => exact ⟨0, wc, Nat.zero_le _, rfl, rfl, (ext_of (Ext.refl wc)).symm⟩
              case round =>
                obtain ⟨i, z, hi, rfl, rfl, rfl⟩ := hrel
                by_cases hil : i < s.left.length
                · have hii : (i : Int) < s.left.length := by omega
                  have hh : highN s.left i < s.left.length := by
                    rcases Nat.eq_zero_or_pos i with rfl | h
                    · exact hil
                    · have := highN_lt s.left i h; omega
                  rcases HAC.out with hn | ⟨g, rfl, hg1, hg2, hcl⟩
                  · rw [hn] at hil; simp at hil
                  obtain ⟨x, hx⟩ : ∃ x, s.left[i]? = some x := ⟨_, List.getElem?_eq_getElem hil⟩
                  obtain ⟨y, hy⟩ : ∃ y, s.left[highN s.left i]? = some y := ⟨_, List.getElem?_eq_getElem hh⟩
                  have og := Old.mk hg2
                  have x0 : wc.cell? ⟨g, i * 6, none⟩ = some (.int .i64 x.bk.turn) := hcl i x hx 0 _ rfl
                  have x1 := hcl i x hx 1 _ rfl
                  have x2 := hcl i x hx 2 _ rfl
                  have x3 := hcl i x hx 3 _ rfl
                  have x4 := hcl i x hx 4 _ rfl
                  have x5 := hcl i x hx 5 _ rfl
                  have y5 := hcl (highN s.left i) y hy 5 _ rfl
                  have HS := Lib.hid (show highN s.left (i + 1) = if y.bound < x.bound then i else highN s.left i by
                    show (if boundAt s.left (highN s.left i) < boundAt s.left i then i else highN s.left i) = _
                    unfold boundAt
                    rw [hx, hy])
                  generalize highN s.left i = hj at *
                  have hhi : (hj : Int) < s.left.length := by omega
                  clear hcl hx hy HAC
                  cases hlt2 : decide (y.bound < x.bound)
                  · have HS2 := Lib.hid (show highN s.left (i + 1) = hj by rw [HS.out, if_neg (by simpa using hlt2)])
                    go_wp2_with fail
                    refine wp_region_ext (by kernel_rfl) (by kernel_rfl) ?_
                    repeat (go_big_quiet_step (fail))
                    refine wpQuiet_nil ?_
                    rintro _ ⟨z2, rfl⟩
                    go_wp2_with fail
                    exact ⟨⟨i + 1, _, by omega, by go_num, by rw [HS2.out], (ext_of ((((Ext.refl wc).ext z).alloc _).ext z2)).symm⟩, by simp [intOf]; omega⟩
                  · have HS2 := Lib.hid (show highN s.left (i + 1) = i by rw [HS.out, if_pos (by simpa using hlt2)])
                    go_wp2_with fail
                    refine wp_region_ext (by kernel_rfl) (by kernel_rfl) ?_
                    repeat (go_big_quiet_step (fail))
                    refine wpQuiet_nil ?_
                    rintro _ ⟨z2, rfl⟩
                    go_wp2_with fail
                    exact ⟨⟨i + 1, _, by omega, by go_num, by rw [HS2.out], (ext_of ((((Ext.refl wc).ext z).alloc _).ext z2)).symm⟩, by simp [intOf]; omega⟩
                · obtain rfl : i = s.left.length := by omega
                  obtain ⟨h, hhd⟩ : ∃ h, highN s.left s.left.length = h := ⟨_, rfl⟩
                  have hh : h < s.left.length := by rw [← hhd]; exact high_lt HNe.out
                  obtain ⟨x, hx⟩ : ∃ x, s.left[h]? = some x := ⟨_, List.getElem?_eq_getElem hh⟩
                  have hb := (HInv.out.left x (List.mem_of_getElem? hx)).1
                  have HBk := Lib.hid hb
                  have HStep := Lib.hid (show stepS bnd tr s = if oneK x.bk then ⟨s.att ++ [tr (mvK x.bk)], s.left.eraseIdx h⟩ else ⟨s.att, s.left.eraseIdx h ++ [withB bnd (loK x.bk), withB bnd (hiK x.bk)]⟩ by unfold stepS high; rw [hhd, hx])
                  have HI2 := Lib.hid (inv_step HPr.out HInv.out HNe.out)
                  have HR2 := Lib.hid (show Fin = runS bnd tr (N - (k + 1)) (stepS bnd tr s) by
                    rw [HRun.out, show N - k = N - (k + 1) + 1 by omega]
                    show (if stopS s then s else _) = _
                    rw [hst]
                    rfl)
                  rw [isBlk_iff] at hb
                  have hT4 := HT.out
                  have t1 : -3 ≤ x.bk.turn ∧ x.bk.turn ≤ 3 := by omega
                  have t2 : -4 ≤ x.bk.x0 ∧ x.bk.x0 ≤ x.bk.x1 ∧ x.bk.x1 ≤ 4 := by omega
                  have t3 : -4 ≤ x.bk.y0 ∧ x.bk.y0 ≤ x.bk.y1 ∧ x.bk.y1 ≤ 4 := by omega
                  clear hT4 hb
                  rcases HAC.out with hnn | ⟨g, rfl, hg1, hg2, hcl⟩
                  · exact absurd hnn HNe.out
                  have og := Old.mk hg2
                  have x0 : wc.cell? ⟨g, h * 6, none⟩ = some (.int .i64 x.bk.turn) := hcl h x hx 0 _ rfl
                  have x1 := hcl h x hx 1 _ rfl
                  have x2 := hcl h x hx 2 _ rfl
                  have x3 := hcl h x hx 3 _ rfl
                  have x4 := hcl h x hx 4 _ rfl
                  have hhi : (h : Int) < s.left.length := by omega
                  rw [hhd]
                  clear hcl hx HAC hhd hil HRun HInv HNe r0 r1 r2 r3 fR hst
                  go_wp2_with fail
                  have hzs := ext_size wc z
                  have HB1 := Lib.hid ((HB.out.grow (Ext.ext_self wc z)).grow ((Ext.refl (ext wc z)).alloc (.cells #[.int .i64 x.bk.turn, .int .i64 x.bk.x0, .int .i64 x.bk.y0, .int .i64 x.bk.x1, .int .i64 x.bk.y1] 67)))
                  have HK1 := Lib.hid (Blk.new (ext wc z) 67 #[.int .i64 x.bk.turn, .int .i64 x.bk.x0, .int .i64 x.bk.y0, .int .i64 x.bk.x1, .int .i64 x.bk.y1])
                  have HOwnA : Hid ((Value.slice A1 s.att.length c1).ownBlock ≠ some (ext wc z).heap.size) := Lib.hid fun e => by have := (HB.out.ownA e).2; omega
                  have HOwnL : Hid ((Value.slice (some ⟨g, 0, none⟩) s.left.length c2).ownBlock ≠ some (ext wc z).heap.size) := Lib.hid fun e => by have := (HB.out.ownL e).2; omega
                  have hgb : gA < (ext wc z).heap.size := by have := HB.out.lt; omega
                  generalize (ext wc z).alloc (.cells #[.int .i64 x.bk.turn, .int .i64 x.bk.x0, .int .i64 x.bk.y0, .int .i64 x.bk.x1, .int .i64 x.bk.y1] 67) = W0 at *
                  generalize (ext wc z).heap.size = gb at *
                  clear x0 x1 x2 x3 x4 a3 oA og HB hzs hg2
                  refine (HB1.out.del h hh (by omega)).mono ?_
                  rintro _ W1 ⟨vL', rfl, hBl, hB', hK', ho⟩
                  obtain ⟨A3, c3, rfl⟩ := own_slice hB'.al.left
                  have a3 := hBl.cell 3
                  replace a3 : W1.cell? ⟨gA, 3, none⟩ = some (.slice (some ⟨g, 0, none⟩) s.left.length c2) := a3
                  have fA := hBl.frozen
                  have HB2 := Lib.hid hB'
                  have HK2 := Lib.hid (hK'.blk HK1.out (by omega) HOwnL.out)
                  rw [← ho] at HOwnL
                  clear hBl hB' hK' ho HB1 HK1
                  go_wp2_with fail
                  generalize W1.setCell ⟨gA, 3, none⟩ (.slice A3 (s.left.eraseIdx h).length c3) = W2 at *
                  clear a3 fA
                  have og := Old.mk HK2.out.lt
                  have b0 : W2.cell? ⟨gb, 0, none⟩ = some (.int .i64 x.bk.turn) := HK2.out.cell 0
                  have b1 : W2.cell? ⟨gb, 1, none⟩ = some (.int .i64 x.bk.x0) := HK2.out.cell 1
                  have b2 : W2.cell? ⟨gb, 2, none⟩ = some (.int .i64 x.bk.y0) := HK2.out.cell 2
                  have b3 : W2.cell? ⟨gb, 3, none⟩ = some (.int .i64 x.bk.x1) := HK2.out.cell 3
                  have b4 : W2.cell? ⟨gb, 4, none⟩ = some (.int .i64 x.bk.y1) := HK2.out.cell 4
                  go_cut [20, 21] from 123 to 124 (fun s20 s21 wx => ∃ gl gr, s20 = .pointer (some ⟨gl, 0, none⟩) ∧ s21 = .pointer (some ⟨gr, 0, none⟩) ∧ TwoB W2 67 #[.int .i64 x.bk.turn, .int .i64 x.bk.x0, .int .i64 x.bk.y0, .int .i64 x.bk.x1, .int .i64 x.bk.y1] gl gr wx)
                  case first =>
                    have S1 := two_new W2 67 #[.int .i64 x.bk.turn, .int .i64 x.bk.x0, .int .i64 x.bk.y0, .int .i64 x.bk.x1, .int .i64 x.bk.y1]
                    have S2 := S1.swap
                    go_region_law fail
                    all_goals
                      go_wp2_with fail
                      go_meet
                      first | exact ⟨_, _, rfl, rfl, S1⟩ | exact ⟨_, _, rfl, rfl, S2⟩
                  case rest =>
                    obtain ⟨gl, gr, rfl, rfl, hS⟩ := hcut
                    have HB3 := Lib.hid (HB2.out.grow hS.ext)
                    have HK3 := Lib.hid (HK2.out.grow hS.ext)
                    have HS1 := Lib.hid hS.one
                    have HS2 := Lib.hid hS.two
                    obtain ⟨g1, g2, g3⟩ := hS.ge
                    have l2 := HK2.out.lt
                    have HOl : Hid (∀ g', W2.heap.size ≤ g' → (Value.slice A1 s.att.length c1).ownBlock ≠ some g' ∧ (Value.slice A3 (s.left.eraseIdx h).length c3).ownBlock ≠ some g') := Lib.hid fun g' hg' => ⟨fun e => by have := (HB2.out.ownA e).2; omega, fun e => by have := (HB2.out.ownL e).2; omega⟩
                    clear b0 b1 b2 b3 b4 og HK2 HB2 hS
                    have og := Old.mk HK3.out.lt
                    have b0 : wc.cell? ⟨gb, 0, none⟩ = some (.int .i64 x.bk.turn) := HK3.out.cell 0
                    have b1 : wc.cell? ⟨gb, 1, none⟩ = some (.int .i64 x.bk.x0) := HK3.out.cell 1
                    have b2 : wc.cell? ⟨gb, 2, none⟩ = some (.int .i64 x.bk.y0) := HK3.out.cell 2
                    have b3 : wc.cell? ⟨gb, 3, none⟩ = some (.int .i64 x.bk.x1) := HK3.out.cell 3
                    have b4 : wc.cell? ⟨gb, 4, none⟩ = some (.int .i64 x.bk.y1) := HK3.out.cell 4
                    go_wp2_with fail
                    refine wp_region_ext (by kernel_rfl) (by kernel_rfl) ?_
                    repeat (go_big_quiet_step (fail))
                    refine wpQuiet_nil ?_
                    rintro _ ⟨z3, rfl⟩
                    have HB4 := Lib.hid (HB3.out.grow (Ext.ext_self wc z3))
                    have HK4 := Lib.hid (HK3.out.ext z3)
                    have HS3 := Lib.hid (HS1.out.ext z3)
                    have HS4 := Lib.hid (HS2.out.ext z3)
                    have hzs := ext_size wc z3
                    have ls1 := HS1.out.lt
                    have ls2 := HS2.out.lt
                    have HOgl := Lib.hid (HOl.out gl g1)
                    have HOgr := Lib.hid (HOl.out gr g2)
                    have hle : (s.left.eraseIdx h).length ≤ 1127 := Nat.le_trans (List.length_eraseIdx_le ..) hnl
                    generalize ext wc z3 = W3 at *
                    clear b0 b1 b2 b3 b4 og HB3 HK3 HS1 HS2
                    go_upto_block 8 with fail
                    go_cut [] from 135 to 184 (fun wx => oneK x.bk = false ∧ BsI w w.heap.size gA (.slice Ap lp.length cp) (.slice Aq lq.length cq) c ⟨s.att, s.left.eraseIdx h⟩ (scoreS s) (boundS s) (.slice A1 s.att.length c1) (.slice A3 (s.left.eraseIdx h).length c3) wx ∧ Blk wx gl 67 #[.int .i64 (loK x.bk).turn, .int .i64 (loK x.bk).x0, .int .i64 (loK x.bk).y0, .int .i64 (loK x.bk).x1, .int .i64 (loK x.bk).y1] ∧ Blk wx gr 67 #[.int .i64 (hiK x.bk).turn, .int .i64 (hiK x.bk).x0, .int .i64 (hiK x.bk).y0, .int .i64 (hiK x.bk).x1, .int .i64 (hiK x.bk).y1] ∧ wx.heap.size = W3.heap.size)
                    case first =>
                      go_upto_region 34 with fail
                      go_cut [146] from 147 to 152 (fun s146 wx => s146 = .bool (oneK x.bk) ∧ wx = W3)
                      case first =>
                        by_cases hw : x.bk.x0 = x.bk.x1
                        · have hb1 : ((x.bk.x1 - x.bk.x0) == 0) = true := by simp; omega
                          by_cases hv : x.bk.y0 = x.bk.y1
                          · have hb2 : ((x.bk.y1 - x.bk.y0) == 0) = true := by simp; omega
                            have HO := Lib.hid (show oneK x.bk = true by unfold oneK; rw [decide_eq_true hw, decide_eq_true hv]; rfl)
                            clear hw hv
                            go_wp2_with fail
                            go_meet
                            exact ⟨by rw [HO.out], rfl⟩
                          · have hb2 : ((x.bk.y1 - x.bk.y0) == 0) = false := by simp; omega
                            have HO := Lib.hid (show oneK x.bk = false by unfold oneK; rw [decide_eq_false hv]; simp)
                            clear hw hv
                            go_wp2_with fail
                            go_meet
                            exact ⟨by rw [HO.out], rfl⟩
                        · have hb1 : ((x.bk.x1 - x.bk.x0) == 0) = false := by simp; omega
                          have HO := Lib.hid (show oneK x.bk = false by unfold oneK; rw [decide_eq_false hw]; rfl)
                          clear hw
                          go_wp2_with fail
                          go_meet
                          exact ⟨by rw [HO.out], rfl⟩
                      case rest =>
                        obtain ⟨rfl, rfl⟩ := hcut
                        have og := Old.mk HK4.out.lt
                        have b0 : wc.cell? ⟨gb, 0, none⟩ = some (.int .i64 x.bk.turn) := HK4.out.cell 0
                        have b1 : wc.cell? ⟨gb, 1, none⟩ = some (.int .i64 x.bk.x0) := HK4.out.cell 1
                        have b2 : wc.cell? ⟨gb, 2, none⟩ = some (.int .i64 x.bk.y0) := HK4.out.cell 2
                        have b3 : wc.cell? ⟨gb, 3, none⟩ = some (.int .i64 x.bk.x1) := HK4.out.cell 3
                        have b4 : wc.cell? ⟨gb, 4, none⟩ = some (.int .i64 x.bk.y1) := HK4.out.cell 4
                        cases h1 : oneK x.bk
                        · have ogl := Old.mk HS3.out.lt
                          have ogr := Old.mk HS4.out.lt
                          have l0 : wc.cell? ⟨gl, 3, none⟩ = some (.int .i64 x.bk.x1) := HS3.out.cell 3
                          have l1 : wc.cell? ⟨gl, 4, none⟩ = some (.int .i64 x.bk.y1) := HS3.out.cell 4
                          have r0 : wc.cell? ⟨gr, 1, none⟩ = some (.int .i64 x.bk.x0) := HS4.out.cell 1
                          have r1 : wc.cell? ⟨gr, 2, none⟩ = some (.int .i64 x.bk.y0) := HS4.out.cell 2
                          have fl := HS3.out.frozen
                          have fr := HS4.out.frozen
                          have d1 : Nonempty (Diff gl gr) := ⟨by unfold Diff; omega⟩
                          have d2 : Nonempty (Diff gr gl) := ⟨by unfold Diff; omega⟩
                          have d3 : Nonempty (Diff gb gl) := ⟨by unfold Diff; omega⟩
                          have d4 : Nonempty (Diff gb gr) := ⟨by unfold Diff; omega⟩
                          by_cases hc2 : x.bk.y1 - x.bk.y0 ≤ x.bk.x1 - x.bk.x0
                          · have hcb : decide (x.bk.y1 - x.bk.y0 ≤ x.bk.x1 - x.bk.x0) = true := by simpa using hc2
                            have HLo := Lib.hid (show loK x.bk = { x.bk with x1 := mid x.bk.x0 x.bk.x1 } from if_pos hc2)
                            have HHi := Lib.hid (show hiK x.bk = { x.bk with x0 := mid x.bk.x0 x.bk.x1 + 1 } from if_pos hc2)
                            clear hc2
                            go_wp2_with fail
                            go_meet
                            refine ⟨h1, (HB4.out.far (p := ⟨gl, 3, none⟩) (by show gA < gl; omega) HOgl.out.1 HOgl.out.2 _).far (p := ⟨gr, 1, none⟩) (by show gA < gr; omega) HOgr.out.1 HOgr.out.2 _, ?_, ?_, by simp [World.setCell]⟩
                            · rw [HLo.out]
                              exact (HS3.out.set_ 3 _).far (by exact g3) _
                            · rw [HHi.out]
                              exact (HS4.out.far (by exact fun e => g3 e.symm) _).set_ 1 _
                          · have hcb : decide (x.bk.y1 - x.bk.y0 ≤ x.bk.x1 - x.bk.x0) = false := by simpa using hc2
                            have HLo := Lib.hid (show loK x.bk = { x.bk with y1 := mid x.bk.y0 x.bk.y1 } from if_neg hc2)
                            have HHi := Lib.hid (show hiK x.bk = { x.bk with y0 := mid x.bk.y0 x.bk.y1 + 1 } from if_neg hc2)
                            clear hc2
                            go_wp2_with fail
                            go_meet
                            refine ⟨h1, (HB4.out.far (p := ⟨gl, 4, none⟩) (by show gA < gl; omega) HOgl.out.1 HOgl.out.2 _).far (p := ⟨gr, 2, none⟩) (by show gA < gr; omega) HOgr.out.1 HOgr.out.2 _, ?_, ?_, by simp [World.setCell]⟩
                            · rw [HLo.out]
                              exact (HS3.out.set_ 4 _).far (by exact g3) _
                            · rw [HHi.out]
                              exact (HS4.out.far (by exact fun e => g3 e.symm) _).set_ 2 _
                        · have HMv := Lib.hid (mv_of_one HBk.out)
                          have HSt2 := Lib.hid (show stepS bnd tr s = ⟨s.att ++ [tr (mvK x.bk)], s.left.eraseIdx h⟩ from HStep.out.trans (by rw [h1]; rfl))
                          clear HStep
                          have hwg : w.heap.size ≤ gA := by have := HB4.out.hg; omega
                          have HKeep : Hid (∀ w', (appT gA (.slice A1 s.att.length c1) s.att (tr (mvK x.bk)) #[.int .i64 (scoreS s), .int .i64 (boundS s), (.slice A1 s.att.length c1), (.slice A3 (s.left.eraseIdx h).length c3)] wc).T wc.drew w' → KeepX gA (.slice A1 s.att.length c1) wc w') := Lib.hid fun w' h => (KeepX.of_ext (Ext.refl wc).drew).trans h.keep
                          have HPb : Hid (∀ w', (appT gA (.slice A1 s.att.length c1) s.att (tr (mvK x.bk)) #[.int .i64 (scoreS s), .int .i64 (boundS s), (.slice A1 s.att.length c1), (.slice A3 (s.left.eraseIdx h).length c3)] wc).T wc.drew w' → Blk w' w.heap.size 38 #[.slice Ap lp.length cp]) := Lib.hid fun w' h => (HKeep.out w' h).blk HB4.out.p (by have := HB4.out.hg; omega) (fun e => by have := (HB4.out.ownA e).1; have := HB4.out.hg; omega)
                          have HQb : Hid (∀ w', (appT gA (.slice A1 s.att.length c1) s.att (tr (mvK x.bk)) #[.int .i64 (scoreS s), .int .i64 (boundS s), (.slice A1 s.att.length c1), (.slice A3 (s.left.eraseIdx h).length c3)] wc).T wc.drew w' → Blk w' (w.heap.size + 1) 38 #[.slice Aq lq.length cq]) := Lib.hid fun w' h => (HKeep.out w' h).blk HB4.out.q (by have := HB4.out.hg; omega) (fun e => by have := (HB4.out.ownA e).1; have := HB4.out.hg; omega)
                          have HCb : Hid (∀ w', (appT gA (.slice A1 s.att.length c1) s.att (tr (mvK x.bk)) #[.int .i64 (scoreS s), .int .i64 (boundS s), (.slice A1 s.att.length c1), (.slice A3 (s.left.eraseIdx h).length c3)] wc).T wc.drew w' → Blk w' (w.heap.size + 1 + 1) 26 #[.int .i64 c.turns, .int .i64 c.shift, .int .i64 c.elastic, .int .i64 c.reach, .int .i64 c.spread]) := Lib.hid fun w' h => (HKeep.out w' h).blk HB4.out.c (by have := HB4.out.hg; omega) (fun e => by have := (HB4.out.ownA e).1; have := HB4.out.hg; omega)
                          have HGb : Hid (∀ w', (appT gA (.slice A1 s.att.length c1) s.att (tr (mvK x.bk)) #[.int .i64 (scoreS s), .int .i64 (boundS s), (.slice A1 s.att.length c1), (.slice A3 (s.left.eraseIdx h).length c3)] wc).T wc.drew w' → Blk w' gb 67 #[.int .i64 x.bk.turn, .int .i64 x.bk.x0, .int .i64 x.bk.y0, .int .i64 x.bk.x1, .int .i64 x.bk.y1]) := Lib.hid fun w' h => (HKeep.out w' h).blk HK4.out (by omega) HOwnA.out
                          have HOld : Hid (∀ w', (appT gA (.slice A1 s.att.length c1) s.att (tr (mvK x.bk)) #[.int .i64 (scoreS s), .int .i64 (boundS s), (.slice A1 s.att.length c1), (.slice A3 (s.left.eraseIdx h).length c3)] wc).T wc.drew w' → Ext w w') := Lib.hid fun w' h => (HKeep.out w' h).old HB4.out.ext hwg (fun g e => by have := (HB4.out.ownA e).1; omega)
                          have HOk := Lib.hid (appT_ok HB4.out (by show s.att.length ≤ 60000; omega) (tr (mvK x.bk)) #[.int .i64 (scoreS s), .int .i64 (boundS s), (.slice A1 s.att.length c1), (.slice A3 (s.left.eraseIdx h).length c3)])
                          clear b0 b1 b2 b3 b4 og h1
                          go_wp2_with fail
                          refine wp_region_app (appT gA (.slice A1 s.att.length c1) s.att (tr (mvK x.bk)) #[.int .i64 (scoreS s), .int .i64 (boundS s), (.slice A1 s.att.length c1), (.slice A3 (s.left.eraseIdx h).length c3)] wc) HOk.out (Nat.le_refl _) 14 16 [isV (.pointer (some ⟨gA, 2, none⟩)), isV (.slice A1 s.att.length c1), isV (.slice Ap lp.length cp), isV (.slice Aq lq.length cq), isV c.val, isV (.pointer (some ⟨gb, 0, none⟩)), isV (.int .i64 x.bk.turn), isV (.pointer (some ⟨gb, 1, none⟩)), isV (.int .i64 x.bk.x0), isV (.pointer (some ⟨gb, 2, none⟩)), isV (.int .i64 x.bk.y0), isV (mvK x.bk).val, isV (.agg (tr (mvK x.bk)).cells), App.New (appT gA (.slice A1 s.att.length c1) s.att (tr (mvK x.bk)) #[.int .i64 (scoreS s), .int .i64 (boundS s), (.slice A1 s.att.length c1), (.slice A3 (s.left.eraseIdx h).length c3)] wc), isV undef, isV (.pointer (some ⟨gA, 2, none⟩)), isV undef] (by kernel_rfl) (by kernel_rfl) (by simp [App.stab_val, App.stab_new]) (by decide) (by kernel_rfl) HB4.out.al.att HB4.out.al.blk ?op ?app ?st ?fin (by decide) (by decide) ?me
                          case op =>
                            intro i o ho hi1 hi2 a V2 _ hfrm hT hNs hdep
                            match i, ho with
                            | 0, ho =>
                              injection ho with ho
                              subst ho
                              have e1 : a.tmps[11]?.getD undef = .pointer (some ⟨gA, 0, none⟩) := slot_of (hfrm 11 (frm_of 11 (by kernel_rfl)))
                              exact rel_val (by simp [execOp, go_sem, e1]) rfl
                            | 1, ho =>
                              injection ho with ho
                              subst ho
                              have e1 : a.tmps[153]?.getD undef = .pointer (some ⟨gA, 2, none⟩) := slot_of (hdep ⟨0, .data⟩ (by simp) (by kernel_rfl) (by decide) (by decide))
                              have c0 := (hNs (by kernel_rfl)).cell 2
                              replace c0 : V2.cell? ⟨gA, 2, none⟩ = some (.slice A1 s.att.length c1) := c0
                              exact rel_val (by simp [execOp, go_sem, e1, c0]) rfl
                            | 2, ho =>
                              injection ho with ho
                              subst ho
                              have e1 : a.tmps[4]?.getD undef = .pointer (some ⟨w.heap.size, 0, none⟩) := slot_of (hfrm 4 (frm_of 4 (by kernel_rfl)))
                              have c0 := (HPb.out _ hT).cell 0
                              replace c0 : V2.cell? ⟨w.heap.size, 0, none⟩ = some (.slice Ap lp.length cp) := c0
                              exact rel_val (by simp [execOp, go_sem, e1, c0]) rfl
                            | 3, ho =>
                              injection ho with ho
                              subst ho
                              have e1 : a.tmps[5]?.getD undef = .pointer (some ⟨w.heap.size + 1, 0, none⟩) := slot_of (hfrm 5 (frm_of 5 (by kernel_rfl)))
                              have c0 := (HQb.out _ hT).cell 0
                              replace c0 : V2.cell? ⟨w.heap.size + 1, 0, none⟩ = some (.slice Aq lq.length cq) := c0
                              exact rel_val (by simp [execOp, go_sem, e1, c0]) rfl
                            | 4, ho =>
                              injection ho with ho
                              subst ho
                              have e1 : a.tmps[6]?.getD undef = .pointer (some ⟨w.heap.size + 1 + 1, 0, none⟩) := slot_of (hfrm 6 (frm_of 6 (by kernel_rfl)))
                              have c0 := (HCb.out _ hT).cell 0
                              have c1 := (HCb.out _ hT).cell 1
                              have c2 := (HCb.out _ hT).cell 2
                              have c3 := (HCb.out _ hT).cell 3
                              have c4 := (HCb.out _ hT).cell 4
                              replace c0 : V2.cell? ⟨w.heap.size + 1 + 1, 0, none⟩ = some (.int .i64 c.turns) := c0
                              replace c1 : V2.cell? ⟨w.heap.size + 1 + 1, 1, none⟩ = some (.int .i64 c.shift) := c1
                              replace c2 : V2.cell? ⟨w.heap.size + 1 + 1, 2, none⟩ = some (.int .i64 c.elastic) := c2
                              replace c3 : V2.cell? ⟨w.heap.size + 1 + 1, 3, none⟩ = some (.int .i64 c.reach) := c3
                              replace c4 : V2.cell? ⟨w.heap.size + 1 + 1, 4, none⟩ = some (.int .i64 c.spread) := c4
                              exact rel_val (by simp [execOp, go_sem, e1, c0, c1, c2, c3, c4]) rfl
                            | 5, ho =>
                              injection ho with ho
                              subst ho
                              have e1 : a.tmps[19]?.getD undef = .pointer (some ⟨gb, 0, none⟩) := slot_of (hfrm 19 (frm_of 19 (by kernel_rfl)))
                              exact rel_val (by simp [execOp, go_sem, e1]) rfl
                            | 6, ho =>
                              injection ho with ho
                              subst ho
                              have e1 : a.tmps[158]?.getD undef = .pointer (some ⟨gb, 0, none⟩) := slot_of (hdep ⟨5, .data⟩ (by simp) (by kernel_rfl) (by decide) (by decide))
                              have c0 := (HGb.out _ hT).cell 0
                              replace c0 : V2.cell? ⟨gb, 0, none⟩ = some (.int .i64 x.bk.turn) := c0
                              exact rel_val (by simp [execOp, go_sem, e1, c0]) rfl
                            | 7, ho =>
                              injection ho with ho
                              subst ho
                              have e1 : a.tmps[19]?.getD undef = .pointer (some ⟨gb, 0, none⟩) := slot_of (hfrm 19 (frm_of 19 (by kernel_rfl)))
                              exact rel_val (by simp [execOp, go_sem, e1]) rfl
                            | 8, ho =>
                              injection ho with ho
                              subst ho
                              have e1 : a.tmps[160]?.getD undef = .pointer (some ⟨gb, 1, none⟩) := slot_of (hdep ⟨7, .data⟩ (by simp) (by kernel_rfl) (by decide) (by decide))
                              have c0 := (HGb.out _ hT).cell 1
                              replace c0 : V2.cell? ⟨gb, 1, none⟩ = some (.int .i64 x.bk.x0) := c0
                              exact rel_val (by simp [execOp, go_sem, e1, c0]) rfl
                            | 9, ho =>
                              injection ho with ho
                              subst ho
                              have e1 : a.tmps[19]?.getD undef = .pointer (some ⟨gb, 0, none⟩) := slot_of (hfrm 19 (frm_of 19 (by kernel_rfl)))
                              exact rel_val (by simp [execOp, go_sem, e1]) rfl
                            | 10, ho =>
                              injection ho with ho
                              subst ho
                              have e1 : a.tmps[162]?.getD undef = .pointer (some ⟨gb, 2, none⟩) := slot_of (hdep ⟨9, .data⟩ (by simp) (by kernel_rfl) (by decide) (by decide))
                              have c0 := (HGb.out _ hT).cell 2
                              replace c0 : V2.cell? ⟨gb, 2, none⟩ = some (.int .i64 x.bk.y0) := c0
                              exact rel_val (by simp [execOp, go_sem, e1, c0]) rfl
                            | 11, ho =>
                              injection ho with ho
                              subst ho
                              have e1 : a.tmps[159]?.getD undef = .int .i64 x.bk.turn := slot_of (hdep ⟨6, .data⟩ (by simp) (by kernel_rfl) (by decide) (by decide))
                              have e2 : a.tmps[161]?.getD undef = .int .i64 x.bk.x0 := slot_of (hdep ⟨8, .data⟩ (by simp) (by kernel_rfl) (by decide) (by decide))
                              have e3 : a.tmps[163]?.getD undef = .int .i64 x.bk.y0 := slot_of (hdep ⟨10, .data⟩ (by simp) (by kernel_rfl) (by decide) (by decide))
                              exact rel_val (by simp [execOp, go_sem, e1, e2, e3, mvK]) rfl
                            | 12, ho =>
                              injection ho with ho
                              subst ho
                              have e1 : a.tmps[155]?.getD undef = .slice Ap lp.length cp := slot_of (hdep ⟨2, .data⟩ (by simp) (by kernel_rfl) (by decide) (by decide))
                              have e2 : a.tmps[156]?.getD undef = .slice Aq lq.length cq := slot_of (hdep ⟨3, .data⟩ (by simp) (by kernel_rfl) (by decide) (by decide))
                              have e3 : a.tmps[157]?.getD undef = c.val := slot_of (hdep ⟨4, .data⟩ (by simp) (by kernel_rfl) (by decide) (by decide))
                              have e4 : a.tmps[164]?.getD undef = (mvK x.bk).val := slot_of (hdep ⟨11, .data⟩ (by simp) (by kernel_rfl) (by decide) (by decide))
                              exact rel_call 24 [.tmp 155, .tmp 156, .tmp 157, .tmp 164] #[38, 38, 26, 51] rfl (by kernel_rfl) [.slice Ap lp.length cp, .slice Aq lq.length cq, c.val, (mvK x.bk).val] (by simp [Act.eval, e1, e2, e3, e4]) (ret_val (CT.out _ HMv.out _ (HOld.out _ hT)))
                            | 13, ho =>
                              injection ho with ho
                              subst ho
                              have e1 : a.tmps[165]?.getD undef = .agg (tr (mvK x.bk)).cells := slot_of (hdep ⟨12, .data⟩ (by simp) (by kernel_rfl) (by decide) (by decide))
                              have hsz := hT.size
                              simp [Oper.wp, execOp, go_sem, e1]
                              exact ⟨_, rfl, ⟨_, rfl, hsz, Blk.new _ _ _⟩, (Ext.refl _).alloc _⟩
                            | 14, ho =>
                              exact absurd rfl hi1
                            | 15, ho =>
                              injection ho with ho
                              subst ho
                              have e1 : a.tmps[11]?.getD undef = .pointer (some ⟨gA, 0, none⟩) := slot_of (hfrm 11 (frm_of 11 (by kernel_rfl)))
                              exact rel_val (by simp [execOp, go_sem, e1]) rfl
                            | 16, ho =>
                              exact absurd rfl hi2
                            | k + 17, ho => exact absurd (List.getElem?_eq_some_iff.1 ho).1 (by simp)
                          case app =>
                            intro o ho a V2 hdep
                            injection ho with ho
                            subst ho
                            have e1 : a.tmps[154]?.getD undef = (.slice A1 s.att.length c1) := slot_of (hdep ⟨1, .data⟩ (by simp) (by kernel_rfl) (by decide) (by decide))
                            obtain ⟨g, hg1, hg2, hg3⟩ := hdep ⟨13, .data⟩ (by simp) (by kernel_rfl) (by decide) (by decide)
                            exact ⟨.tmp 154, .tmp 166, 42, 167, 64, rfl, rfl, infoAt, by decide, by simpa [Act.eval, appT] using e1, g, hg1, hg2, hg3⟩
                          case st =>
                            intro o ho a V2 hfrm hdep A cc hv hNs
                            injection ho with ho
                            subst ho
                            have e1 : a.tmps[168]?.getD undef = .pointer (some ⟨gA, 2, none⟩) := slot_of (hdep ⟨15, .data⟩ (by simp) (by kernel_rfl) (by decide) (by decide))
                            have e2 := slot_of hv
                            have r0 : V2.cell? ⟨gA, 2, none⟩ = some (.slice A1 s.att.length c1) := hNs.cell 2
                            have hf := hNs.frozen
                            simp only [appT] at hf
                            refine ⟨rfl, ?_⟩
                            simp [execOp, e1, e2, go_sem, r0, hf, appT]
                          case me =>
                            intro o ho
                            injection ho with ho
                            subst ho
                            exact ⟨⟨14, .data⟩, by simp, by kernel_rfl, rfl⟩
                          case fin =>
                            intro vs V4 hT hSt hvs
                            clear hvs
                            obtain ⟨vA4, hB⟩ := HB4.out.att hT hSt
                            have HB9 := Lib.hid hB
                            clear hB hT hSt HB4 HK4 HS3 HS4 HKeep HPb HQb HCb HGb HOld HOk
                            simp only [putAll, Act.put]
                            go_wp2_with fail
                            refine (HB9.out.sum ⟨by show (s.att ++ [tr (mvK x.bk)]).length ≤ 60000; simp only [List.length_append, List.length_cons, List.length_nil]; omega, by show (s.left.eraseIdx h).length ≤ 60000; omega⟩).mono ?_
                            rintro _ W7 ⟨⟨u, rfl⟩, hB7⟩
                            have HB8 := Lib.hid hB7
                            clear hB7 HB9
                            go_wp2_with fail
                            have e := HSt2.out
                            have hI := HI2.out
                            have hR := HR2.out
                            rw [e] at hI hR
                            exact ⟨⟨k + 1, _, _, _, by go_num, by omega, hR, hI.1, by have := HMe.out; omega, by show (s.att ++ [tr (mvK x.bk)]).length ≤ k + 1; simp only [List.length_append, List.length_cons, List.length_nil]; omega, HB8.out⟩, by simp [intOf]; omega⟩
                    case rest =>
                      obtain ⟨h1, hB, hL, hR, hsz⟩ := hcut
                      have HB5 := Lib.hid hB
                      have HL5 := Lib.hid hL
                      have HR5 := Lib.hid hR
                      have HC1 := Lib.hid (lo_ok HBk.out h1).1
                      have HC2 := Lib.hid (hi_ok HBk.out h1).1
                      have HSt2 := Lib.hid (show stepS bnd tr s = ⟨s.att, s.left.eraseIdx h ++ [withB bnd (loK x.bk), withB bnd (hiK x.bk)]⟩ from HStep.out.trans (by rw [h1]; rfl))
                      clear HStep
                      have ol := Old.mk hL.lt
                      have l0 : wc.cell? ⟨gl, 0, none⟩ = some (.int .i64 (loK x.bk).turn) := hL.cell 0
                      have l1 : wc.cell? ⟨gl, 1, none⟩ = some (.int .i64 (loK x.bk).x0) := hL.cell 1
                      have l2 : wc.cell? ⟨gl, 2, none⟩ = some (.int .i64 (loK x.bk).y0) := hL.cell 2
                      have l3 : wc.cell? ⟨gl, 3, none⟩ = some (.int .i64 (loK x.bk).x1) := hL.cell 3
                      have l4 : wc.cell? ⟨gl, 4, none⟩ = some (.int .i64 (loK x.bk).y1) := hL.cell 4
                      clear hB hL hR HB4 HK4 HS3 HS4 h1 HBk
                      go_wp2_with fail
                      refine (CL.out _ gA _ _ _ _ _ wc HB5.out (loK x.bk) HC1.out (by show (s.left.eraseIdx h).length ≤ 60000; omega)).mono ?_
                      rintro _ W5 ⟨⟨u, rfl⟩, vL5, hB5, hK5, -⟩
                      have HB6 := Lib.hid hB5
                      have hR := hK5.blk HR5.out (by omega) HOgr.out.2
                      have ogr := Old.mk hR.lt
                      have r0 : W5.cell? ⟨gr, 0, none⟩ = some (.int .i64 (hiK x.bk).turn) := hR.cell 0
                      have r1 : W5.cell? ⟨gr, 1, none⟩ = some (.int .i64 (hiK x.bk).x0) := hR.cell 1
                      have r2 : W5.cell? ⟨gr, 2, none⟩ = some (.int .i64 (hiK x.bk).y0) := hR.cell 2
                      have r3 : W5.cell? ⟨gr, 3, none⟩ = some (.int .i64 (hiK x.bk).x1) := hR.cell 3
                      have r4 : W5.cell? ⟨gr, 4, none⟩ = some (.int .i64 (hiK x.bk).y1) := hR.cell 4
                      clear hB5 hK5 hR l0 l1 l2 l3 l4 HB5 HL5 HR5
                      go_wp2_with fail
                      refine (CL.out _ gA _ _ _ _ _ W5 HB6.out (hiK x.bk) HC2.out (by show (s.left.eraseIdx h ++ [withB bnd (loK x.bk)]).length ≤ 60000; simp only [List.length_append, List.length_cons, List.length_nil]; omega)).mono ?_
                      rintro _ W6 ⟨⟨u, rfl⟩, vL6, hB6, -, -⟩
                      have HB7 := Lib.hid hB6
                      clear hB6 r0 r1 r2 r3 r4 HB6
                      go_wp2_with fail
                      refine (HB7.out.sum ⟨by show s.att.length ≤ 60000; omega, by show ((s.left.eraseIdx h ++ [withB bnd (loK x.bk)]) ++ [withB bnd (hiK x.bk)]).length ≤ 60000; simp only [List.length_append, List.length_cons, List.length_nil]; omega⟩).mono ?_
                      rintro _ W7 ⟨⟨u, rfl⟩, hB7⟩
                      have HB8 := Lib.hid hB7
                      clear hB7 HB7
                      go_wp2_with fail
                      have e := HSt2.out
                      have hI := HI2.out
                      have hR := HR2.out
                      rw [e] at hI hR
                      have hB9 := HB8.out
                      rw [List.append_assoc] at hB9
                      exact ⟨⟨k + 1, _, _, _, by go_num, by omega, hR, hI.1, by have := HMe.out; omega, by show s.att.length ≤ k + 1; omega, hB9⟩, by simp [intOf]; omega⟩
            · have HRn := Lib.hid (HRun.out.trans (run_stop hst (N - k)))
              go_wp2_with fail
              rw [Exit.noGoto_ret]
              have HX := Lib.hid (HB.out.done (by omega) (.int .i64 (scoreS s)) (.int .i64 (boundS s)) (.slice A1 s.att.length c1) (.slice A2 s.left.length c2))
              generalize (((wc.setCell ⟨w.heap.size + 1 + 1 + 1, 0, none⟩ (.int .i64 (scoreS s))).setCell ⟨w.heap.size + 1 + 1 + 1, 1, none⟩ (.int .i64 (boundS s))).setCell ⟨w.heap.size + 1 + 1 + 1, 2, none⟩ (.slice A1 s.att.length c1)).setCell ⟨w.heap.size + 1 + 1 + 1, 3, none⟩ (.slice A2 s.left.length c2) = Wf at *
              obtain ⟨x1, x2, x3, hR⟩ := HX.out
              have q0 : Wf.cell? ⟨w.heap.size + 1 + 1 + 1, 0, none⟩ = some (.int .i64 (scoreS s)) := hR.cell 0
              have q1 : Wf.cell? ⟨w.heap.size + 1 + 1 + 1, 1, none⟩ = some (.int .i64 (boundS s)) := hR.cell 1
              have q2 : Wf.cell? ⟨w.heap.size + 1 + 1 + 1, 2, none⟩ = some (.slice A1 s.att.length c1) := hR.cell 2
              have q3 : Wf.cell? ⟨w.heap.size + 1 + 1 + 1, 3, none⟩ = some (.slice A2 s.left.length c2) := hR.cell 3
              refine bodyPost_ret (v := .tuple #[.agg #[.int .i64 (scoreS s), .int .i64 (boundS s), .slice A1 s.att.length c1, .slice A2 s.left.length c2], .int .i64 0]) (by simp [results, Try.results9, go_sem, q0, q1, q2, q3]) rfl ?_
              rw [HRn.out]
              exact ⟨A1, c1, A2, c2, rfl, x1, x2, x3⟩
        · have HRn := Lib.hid (HRun.out.trans (by rw [show N - k = 0 by omega]; rfl : runS bnd tr (N - k) s = s))
          go_wp2_with fail
          rw [Exit.noGoto_ret]
          have HX := Lib.hid (HB.out.done (by omega) (.int .i64 (scoreS s)) (.int .i64 (boundS s)) (.slice A1 s.att.length c1) (.slice A2 s.left.length c2))
          generalize (((wr.setCell ⟨w.heap.size + 1 + 1 + 1, 0, none⟩ (.int .i64 (scoreS s))).setCell ⟨w.heap.size + 1 + 1 + 1, 1, none⟩ (.int .i64 (boundS s))).setCell ⟨w.heap.size + 1 + 1 + 1, 2, none⟩ (.slice A1 s.att.length c1)).setCell ⟨w.heap.size + 1 + 1 + 1, 3, none⟩ (.slice A2 s.left.length c2) = Wf at *
          obtain ⟨x1, x2, x3, hR⟩ := HX.out
          have q0 : Wf.cell? ⟨w.heap.size + 1 + 1 + 1, 0, none⟩ = some (.int .i64 (scoreS s)) := hR.cell 0
          have q1 : Wf.cell? ⟨w.heap.size + 1 + 1 + 1, 1, none⟩ = some (.int .i64 (boundS s)) := hR.cell 1
          have q2 : Wf.cell? ⟨w.heap.size + 1 + 1 + 1, 2, none⟩ = some (.slice A1 s.att.length c1) := hR.cell 2
          have q3 : Wf.cell? ⟨w.heap.size + 1 + 1 + 1, 3, none⟩ = some (.slice A2 s.left.length c2) := hR.cell 3
          refine bodyPost_ret (v := .tuple #[.agg #[.int .i64 (scoreS s), .int .i64 (boundS s), .slice A1 s.att.length c1, .slice A2 s.left.length c2], .int .i64 0]) (by simp [results, Try.results9, go_sem, q0, q1, q2, q3]) rfl ?_
          rw [HRn.out]
          exact ⟨A1, c1, A2, c2, rfl, x1, x2, x3⟩
end Go.Proofs.Ytchplmenkdghcaa

