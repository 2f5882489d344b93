/- The print of a sample (8). -/
import Derived.Test.YtchplmenkdghcaaTopMin
import Derived.Test.YtchplmenkdghcaaTopBin
namespace Go.Proofs.Ytchplmenkdghcaa
open Go.RowKit
/-- one cell of a slice of the call's own -/
theorem own_cell {X : World} {base n c sz j : Nat} {e : TypeId} {A : Option Addr} {xs : List Value} (h : X.ownsRow base e sz (.slice A n c) n xs) (hj : j < n * sz) :
    ∃ g, A = some ⟨g, 0, none⟩ ∧ base ≤ g ∧ (∀ i, i < n * sz → X.frozen? ⟨g, i, none⟩ = false ∧ X.cell? ⟨g, i, none⟩ = xs[i]?) ∧ g < X.heap.size ∧ (∀ v, (X.setCell ⟨g, j, none⟩ v).ownsRow base e sz (.slice A n c) n (xs.set j v)) := by
  obtain ⟨h0, h1 | ⟨g, cap, cur, hv, hb, hh, hc1, hc2, hc3, hc4⟩⟩ := h
  · obtain ⟨-, rfl⟩ := h1
    omega
  injection hv with hA _ hcap
  subst hA hcap
  have hB : Blk X g e cur := hh
  refine ⟨g, rfl, hb, fun i hi => ⟨hB.frozen i, ?_⟩, hB.lt, fun v => ⟨by simp [h0], .inr ⟨g, c, cur.setIfInBounds j v, rfl, hb, hB.set_ j _, hc1, hc2, by simpa using hc3, ?_⟩⟩⟩
  · rw [hB.cell i, ← hc4, List.getElem?_take_of_lt hi]
    simp
  · rw [Array.toList_setIfInBounds, List.take_set, hc4]
/-- the first k points, moved -/
def mv20 (l : List Mi) (k : Nat) : List Mi := (l.take k).map (mvM 20 20) ++ l.drop k
theorem mv20_zero (l : List Mi) : mv20 l 0 = l := rfl
theorem mv20_all (l : List Mi) : mv20 l l.length = l.map (mvM 20 20) := by simp [mv20]
theorem mv20_len (l : List Mi) (k : Nat) : (mv20 l k).length = l.length := by simp [mv20]; omega
theorem mv20_flat {l : List Mi} {k : Nat} {m : Mi} (h : l[k]? = some m) : ∃ pre post, pre.length = k * 4 ∧ flatG Mi.cellsL (mv20 l k) = pre ++ (.int .i64 m.x :: .int .i64 m.y :: .int .u8 m.kind :: .int .u8 m.dir :: post) ∧ flatG Mi.cellsL (mv20 l (k + 1)) = pre ++ (.int .i64 (m.x + 20) :: .int .i64 (m.y + 20) :: .int .u8 m.kind :: .int .u8 m.dir :: post) := by
  have hk : k < l.length := (List.getElem?_eq_some_iff.1 h).1
  have hm : l[k] = m := (List.getElem?_eq_some_iff.1 h).2
  refine ⟨flatG Mi.cellsL ((l.take k).map (mvM 20 20)), flatG Mi.cellsL (l.drop (k + 1)), ?_, ?_, ?_⟩
  · rw [flatG_len (sz := 4) (fun _ => rfl)]
    simp
    omega
  · unfold mv20
    rw [flatG_app, List.drop_eq_getElem_cons hk, hm]
    rfl
  · unfold mv20
    rw [flatG_app, List.take_succ_eq_append_getElem hk, List.map_append, flatG_app, hm, List.append_assoc]
    rfl
theorem set_pre (pre : List Value) (x y k d : Value) (post : List Value) (n : Nat) (h : pre.length = n) (u v : Value) : ((pre ++ (x :: y :: k :: d :: post)).set n u).set (n + 1) v = pre ++ (u :: v :: k :: d :: post) := by
  subst h
  rw [List.set_append_right _ _ (Nat.le_refl _), List.set_append_right _ _ (by omega), Nat.sub_self, show pre.length + 1 - pre.length = 1 by omega]
  rfl
theorem get_pre (pre : List Value) (x y : Value) (post : List Value) (n : Nat) (h : pre.length = n) : (pre ++ (x :: y :: post))[n]? = some x ∧ (pre ++ (x :: y :: post))[n + 1]? = some y := by
  subst h
  rw [List.getElem?_append_right (Nat.le_refl _), List.getElem?_append_right (by omega), Nat.sub_self, show pre.length + 1 - pre.length = 1 by omega]
  exact ⟨rfl, rfl⟩
theorem Sl.pts {w : World} {A : Option Addr} {l : List Mi} (h : Sl 4 Mi.cellsL w A l) : Pts w A l := by
  rcases h with h | ⟨b, off, e, hb, hc⟩
  · exact .inl h
  · exact .inr ⟨b, off, e, hb, fun k m hm => ⟨hc k m hm 0 _ rfl, hc k m hm 1 _ rfl, hc k m hm 2 _ rfl, hc k m hm 3 _ rfl⟩⟩
def PrtT (l : List Mi) (w : World) (e : Ending) (w' : World) : Prop := ∃ A' c', e = .returned (.tuple #[.slice A' l.length c', .int .i64 0]) ∧ Pts w' A' (l.map (mvM 20 20)) ∧ Ext w w'
theorem thin_len {w h : Nat} : ∀ (n : Nat) (R : List Bool), (thinN w h n R).length = R.length
  | 0, _ => rfl
  | n + 1, R => by
    unfold thinN
    split
    · rw [thin_len n]; exact (round_fewer w h R).len
    · exact (round_fewer w h R).len
set_option maxRecDepth 100000 in
set_option maxHeartbeats 4000000 in
theorem printed_any (W H n : Nat) (P A B : Option Addr) (cp c d : Nat) (px : Nat → Int) (hpx : ∀ i, i < n → 0 ≤ px i ∧ px i < 256) (hW : 1 ≤ W ∧ W ≤ 20) (hH : 1 ≤ H ∧ H ≤ 20) (hn : n = W * H) (R0 : List Bool) (hR0 : binL px n = R0) (l : List Mi) (hlm : minuL W H (thinN W H (W * H + 1) R0) = l) (w : World) (hP : Us w P n px) (hD : Us w A n fun _ => 40) (hL : Us w B n fun _ => 200) :
    Calls Try.prog 8 #[.agg #[.int .i64 W, .int .i64 H, .slice P n cp], .agg #[.int .i64 W, .int .i64 H, .slice A n c, .slice B n d]] w (PrtT l w) := by
  have hr0 : R0.length = W * H := by rw [← hR0, ← hn]; simp [binL]
  have hr1 := (thin_len (w := W) (h := H) (W * H + 1) R0).trans hr0
  have HOK := Lib.hid (by have := (minu_ok hr1).1; rw [hlm] at this; exact this)
  have HE := Lib.hid (((Ext.refl w).alloc (.cells #[.int .i64 W, .int .i64 H, .slice P n cp] 33)).alloc (.cells #[.int .i64 W, .int .i64 H, .slice A n c, .slice B n d] 35))
  have CB := Lib.hid (fun W' (hE : Ext w W') => hR0 ▸ binary_any W H n P A B cp c d px hpx hW hH hn W' (hP.grow hE) (hD.grow hE) (hL.grow hE))
  have CT := Lib.hid (fun A c z h => thin_any W H R0 A c hW hH hr0 z h)
  generalize thinN W H (W * H + 1) R0 = R1 at *
  have CM := Lib.hid (fun A c z h => hlm ▸ minu_any W H R1 A c hW hH hr1 z h)
  have hll : l.length ≤ 400 := by
    rw [← hlm]
    refine Nat.le_trans (List.length_filterMap_le _ _) (Nat.le_trans (List.length_filter_le _ _) ?_)
    rw [List.length_range, hr1]
    exact Nat.le_trans (Nat.mul_le_mul hW.2 hH.2) (by omega)
  have HLL := Lib.hid hll
  have HWH := Lib.hid (And.intro hW.2 hH.2)
  clear hP hD hL hW hH hn hpx hr0 hr1 hlm hR0 hll
  go_enter Try.func8, Try.ntmps8
  go_wp2_with fail
  refine (CB.out _ HE.out).mono ?_
  rintro _ V0 ⟨A1, c1, rfl, ho1, hE0⟩
  have KE := Lib.hid (HE.out.trans hE0)
  have B1 := Lib.hid (bls_of_own ho1)
  clear hE0 ho1 HE CB
  go_wp2_with fail
  have L1 := Lib.hid (KE.out.alloc (.cells #[.int .i64 W, .int .i64 H, .slice A1 R0.length c1] 24))
  have L2 := Lib.hid (Blk.new V0 24 #[.int .i64 W, .int .i64 H, .slice A1 R0.length c1])
  refine (CT.out _ _ _ (Sl.grow B1.out ((Ext.refl V0).alloc _))).mono ?_
  rintro _ V1 ⟨A2, c2, rfl, ho2, hE1⟩
  have M1 := Lib.hid (L1.out.trans hE1)
  have M2 := Lib.hid (L2.out.grow hE1)
  have B2 := Lib.hid (bls_of_own ho2)
  have HO2 := Lib.hid ho2
  have hgl : w.heap.size ≤ V0.heap.size := KE.out.size
  have x0 := M2.out.cell 0
  have x1 := M2.out.cell 1
  have x2 := M2.out.cell 2
  have xf := M2.out.frozen
  have xo := Old.mk M2.out.lt
  clear hE1 ho2 L1 L2 KE
  go_wp2_with fail
  have qb := ((M2.out.set_ 0 (.int .i64 W)).set_ 1 (.int .i64 H)).set_ 2 (.slice A2 R1.length c2)
  have kp := ((Kp.set_ (S := [24]) (B := w.heap.size) M2.out hgl (by simp) 0 (.int .i64 W)).trans (Kp.set_ (M2.out.set_ 0 (.int .i64 W)) hgl (by simp) 1 (.int .i64 H))).trans (Kp.set_ ((M2.out.set_ 0 (.int .i64 W)).set_ 1 (.int .i64 H)) hgl (by simp) 2 (.slice A2 R1.length c2))
  have N1 := Lib.hid (kp.ext M1.out (Nat.le_refl _))
  have N2 := Lib.hid (bls_of_own (kp.own HO2.out (by simp)))
  clear qb kp M1 M2 B2 HO2 x0 x1 x2 xf xo
  generalize (((V1.setCell ⟨V0.heap.size, 0, none⟩ (.int .i64 W)).setCell ⟨V0.heap.size, 1, none⟩ (.int .i64 H)).setCell ⟨V0.heap.size, 2, none⟩ (.slice A2 R1.length c2)) = V2 at *
  refine (CM.out _ _ _ N2.out).mono ?_
  rintro _ V3 ⟨A7, c7, rfl, ho7, hE3⟩
  have HO7 := Lib.hid (own_down ho7 N1.out.size)
  have HE7 := Lib.hid (N1.out.trans hE3)
  have hll := HLL.out
  clear ho7 hE3 N1 N2 CM CT
  go_wp2_with fail
  go_loopw [34] (fun t34 wr => ∃ k : Nat, k ≤ l.length ∧ t34 = .int .i64 (k : Int) ∧ wr.ownsRow w.heap.size 57 4 (.slice A7 l.length c7) l.length (flatG Mi.cellsL (mv20 l k)) ∧ Ext w wr) (fun t34 _ => l.length - (intOf t34).toNat)
  case atStart => exact ⟨0, by omega, rfl, HO7.out, HE7.out⟩
  case round =>
    obtain ⟨k, hk, rfl, ho, hE⟩ := hrel
    clear HO7 HE7
    by_cases hlt : k < l.length
    · have hx0 : l[k]? = some l[k] := List.getElem?_eq_getElem hlt
      have hmm := List.getElem_mem hlt
      generalize l[k] = m at hx0 hmm
      obtain ⟨h0, h1, h2, h3, -⟩ := HOK.out m hmm
      obtain ⟨pre, post, hp, hf1, hf2⟩ := mv20_flat hx0
      rw [hf1] at ho
      have hwh := HWH.out
      have hw1 : IntKind.i64.wrap (m.x + 20) = m.x + 20 := IntWalk.i64_in _ (by omega)
      have hw2 : IntKind.i64.wrap (m.y + 20) = m.y + 20 := IntWalk.i64_in _ (by omega)
      obtain ⟨g, rfl, hgb, hcl, hgl, hst⟩ := own_cell (j := k * 4) ho (by omega)
      obtain ⟨g1, g2⟩ := get_pre pre (.int .i64 m.x) (.int .i64 m.y) (.int .u8 m.kind :: .int .u8 m.dir :: post) (k * 4) hp
      have e0 : wr.cell? ⟨g, k * 4, none⟩ = some (.int .i64 m.x) := (hcl _ (by omega)).2.trans g1
      have e1 : wr.cell? ⟨g, k * 4 + 1, none⟩ = some (.int .i64 m.y) := (hcl _ (by omega)).2.trans g2
      have f0 := (hcl (k * 4) (by omega)).1
      have f1 := (hcl (k * 4 + 1) (by omega)).1
      have og := Old.mk hgl
      obtain ⟨g', hA, -, -, -, hst2⟩ := own_cell (j := k * 4 + 1) (hst (.int .i64 (m.x + 20))) (by omega)
      obtain rfl : g' = g := by injection hA with hA; injection hA with hA; exact hA.symm
      have hfin := hst2 (.int .i64 (m.y + 20))
      rw [set_pre _ _ _ _ _ _ _ hp, ← hf2] at hfin
      have hEf := (hE.setCell (p := ⟨g', k * 4, none⟩) hgb (.int .i64 (m.x + 20))).setCell (p := ⟨g', k * 4 + 1, none⟩) hgb (.int .i64 (m.y + 20))
      have HF := Lib.hid hfin
      have HEF := Lib.hid hEf
      have hk2 : (k : Int) < (l.length : Int) := by omega
      clear ho hf1 hf2 hcl hst hst2 g1 g2 hfin hEf hx0 hmm hp h0 h1 h2 h3 hgb hgl hE hA
      go_wp2_with fail
      exact ⟨⟨k + 1, by omega, by go_num, HF.out, HEF.out⟩, by simp [intOf]; omega⟩
    · obtain rfl : k = l.length := by omega
      have hk2 : ¬ (l.length : Int) < (l.length : Int) := by omega
      rw [mv20_all] at ho
      have HO := Lib.hid ho
      have HE := Lib.hid hE
      clear ho hE
      go_wp2_with fail
      refine bodyPost_ret (v := .tuple #[.slice A7 l.length c7, .int .i64 0]) (by simp [results, Try.results8, go_sem]) rfl ⟨A7, c7, rfl, ?_, HE.out⟩
      have hs := Slc.of_own HO.out
      rw [show l.length = (l.map (mvM 20 20)).length by simp] at hs
      exact (Slc.sl (sz := 4) (f := Mi.cellsL) (fun _ => rfl) hs).pts
end Go.Proofs.Ytchplmenkdghcaa
