/- The thinning (15): one pass clears what it took. -/
import Derived.Test.YtchplmenkdghcaaTopTake
namespace Go.Proofs.Ytchplmenkdghcaa
open Go.RowKit Go.Shelf
theorem pairL_at (W : Nat) (l : List Nat) (k : Nat) (x : Nat) (h : l[k]? = some x) : (pairL W l)[k * 2]? = some (.int .i64 ((x % W : Nat) : Int)) ∧ (pairL W l)[k * 2 + 1]? = some (.int .i64 ((x / W : Nat) : Int)) :=
  ⟨flatG_at (sz := 2) (fun _ => rfl) l k x h 0 (by omega), flatG_at (sz := 2) (fun _ => rfl) l k x h 1 (by omega)⟩
/-- one pixel of the trace is cleared -/
theorem own_bool {X : World} {base n c i : Nat} {A : Option Addr} {R : List Bool} (h : X.ownsRow base 4 1 (.slice A n c) n (blsV R)) (hn : R.length = n) (hi : i < n) :
    ∃ g, A = some ⟨g, 0, none⟩ ∧ base ≤ g ∧ X.frozen? ⟨g, i, none⟩ = false ∧ (X.cell? ⟨g, i, none⟩).isSome = true ∧ g < X.heap.size ∧ (∀ b, (X.setCell ⟨g, i, none⟩ (.bool b)).ownsRow base 4 1 (.slice A n c) n (blsV (R.set i b))) ∧ ∀ S B v, 4 ∈ S → B ≤ base → Kp S B X (X.setCell ⟨g, i, none⟩ v) := by
  obtain ⟨h0, h1 | ⟨g, cap, cur, hv, hb, hh, hc1, hc2, hc3, hc4⟩⟩ := h
  · omega
  injection hv with hA _ hcap
  subst hA hcap
  have hB : Blk X g 4 cur := hh
  have hlt : i < cur.size := by omega
  refine ⟨g, rfl, hb, hB.frozen i, by rw [hB.cell i, Array.getElem?_eq_getElem hlt]; rfl, hB.lt, fun b => ⟨by simp [blsV, hn], .inr ⟨g, c, cur.setIfInBounds i (.bool b), rfl, hb, hB.set_ i _, hc1, hc2, by simpa using hc3, ?_⟩⟩, fun S B v hS hBb => Kp.set_ hB (by omega) hS i v⟩
  rw [Array.toList_setIfInBounds, List.take_set, hc4]
  simp [blsV, List.map_set]
theorem own_at0 {X : World} {base n c sz : Nat} {e : TypeId} {A : Option Addr} {xs : List Value} (h : X.ownsRow base e sz (.slice A n c) n xs) (hn : 0 < n) : ∃ g, A = some ⟨g, 0, none⟩ := by
  obtain ⟨h0, h1 | ⟨g, cap, cur, hv, hb, hh, hc1, hc2, hc3, hc4⟩⟩ := h
  · omega
  · injection hv with hA
    exact ⟨g, hA⟩
theorem store_ring {X : World} {g : Nat} {z0 z1 z2 z3 z4 z5 z6 z7 : Value} (h : Blk X g 93 #[z0, z1, z2, z3, z4, z5, z6, z7]) (f : Nat → Bool) : Blk ((((((((X.setCell ⟨g, 0, none⟩ (.bool (f 0))).setCell ⟨g, 1, none⟩ (.bool (f 1))).setCell ⟨g, 2, none⟩ (.bool (f 2))).setCell ⟨g, 3, none⟩ (.bool (f 3))).setCell ⟨g, 4, none⟩ (.bool (f 4))).setCell ⟨g, 5, none⟩ (.bool (f 5))).setCell ⟨g, 6, none⟩ (.bool (f 6))).setCell ⟨g, 7, none⟩ (.bool (f 7))) g 93 (rA f) := by
  have h8 := ((((((((h.set_ 0 (.bool (f 0))).set_ 1 (.bool (f 1))).set_ 2 (.bool (f 2))).set_ 3 (.bool (f 3))).set_ 4 (.bool (f 4))).set_ 5 (.bool (f 5))).set_ 6 (.bool (f 6))).set_ 7 (.bool (f 7)))
  simp only [List.setIfInBounds_toArray, List.set_cons_zero, List.set_cons_succ] at h8
  exact h8
section
attribute [local go_sem] Oper.semAt_some
set_option maxRecDepth 100000 in
set_option maxHeartbeats 4000000 in
theorem clear_wp (v0 v2 v3 v4 v6 v7 v9 v10 v11 v12 v13 v14 v15 v16 v17 v18 v19 v20 v21 v22 v23 v24 v25 v26 v27 v28 v29 v30 v31 v32 v33 v34 v35 v36 v37 v38 v39 v40 v41 v42 v43 v44 v45 v46 v47 v48 v49 v50 v51 v52 v53 v54 v55 v56 v57 v58 v59 v60 v61 v62 v63 v64 v65 v66 v67 v68 v69 v70 v71 v72 v73 v74 v75 v76 v77 v78 v79 : Value) (ds : List Deferred) (w X : World) (W H : Nat) (R : List Bool) (ch : Bool) (A : Option Addr) (c : Nat) (Ds : List Nat) (p7 p8 d : Nat) (l : List Nat) (hW : 1 ≤ W ∧ W ≤ 20) (hH : 1 ≤ H ∧ H ≤ 20) (hl : R.length = W * H) (hin : ∀ i ∈ l, i < R.length) (hll : l.length ≤ 400) (hI : TkI w W H R A c Ds p7 p8 d l X) (Q : Exit → Act → World → Prop)
    (hQ : ∀ R2 ch2 X' u12 u13 u46 u47 u48 u49 u50 u51 u52 u53 u54 u55 u56 u57 u58 u59 u60 u61 u62 u63 u64 u65 u66 u67 u68 u69 u70 u71 u72 u73 u74 u75 u76 u77, l.foldl (clearS W H) (R, ch) = (R2, ch2) → R2.length = R.length → ThW w W H R2 A c Ds X' → Q .normal { tmps := List.toArray (v0 :: .pointer (some ⟨w.heap.size, 0, none⟩) :: v2 :: v3 :: v4 :: .bool ch2 :: v6 :: v7 :: .pointer (some ⟨p8, 0, none⟩) :: v9 :: v10 :: v11 :: u12 :: u13 :: v14 :: v15 :: v16 :: v17 :: v18 :: v19 :: v20 :: v21 :: v22 :: v23 :: v24 :: v25 :: v26 :: v27 :: v28 :: v29 :: v30 :: v31 :: v32 :: v33 :: v34 :: v35 :: v36 :: v37 :: v38 :: v39 :: v40 :: v41 :: v42 :: v43 :: v44 :: v45 :: u46 :: u47 :: u48 :: u49 :: u50 :: u51 :: u52 :: u53 :: u54 :: u55 :: u56 :: u57 :: u58 :: u59 :: u60 :: u61 :: u62 :: u63 :: u64 :: u65 :: u66 :: u67 :: u68 :: u69 :: u70 :: u71 :: u72 :: u73 :: u74 :: u75 :: u76 :: u77 :: v78 :: v79 :: []), defers := ds } X') :
    (subC [1, 1, 1, 0, 1, 0, 0, 1, 0, 1, 1, 0, 0, 1, 1, 0, 0, 1, 1, 1] (Try.f15.body.getD .skip)).wpIn Fence.wide 4 Try.prog Q { tmps := List.toArray (v0 :: .pointer (some ⟨w.heap.size, 0, none⟩) :: v2 :: v3 :: v4 :: .bool ch :: v6 :: v7 :: .pointer (some ⟨p8, 0, none⟩) :: v9 :: v10 :: v11 :: v12 :: v13 :: v14 :: v15 :: v16 :: v17 :: v18 :: v19 :: v20 :: v21 :: v22 :: v23 :: v24 :: v25 :: v26 :: v27 :: v28 :: v29 :: v30 :: v31 :: v32 :: v33 :: v34 :: v35 :: v36 :: v37 :: v38 :: v39 :: v40 :: v41 :: v42 :: v43 :: v44 :: v45 :: v46 :: v47 :: v48 :: v49 :: v50 :: v51 :: v52 :: v53 :: v54 :: v55 :: v56 :: v57 :: v58 :: v59 :: v60 :: v61 :: v62 :: v63 :: v64 :: v65 :: v66 :: v67 :: v68 :: v69 :: v70 :: v71 :: v72 :: v73 :: v74 :: v75 :: v76 :: v77 :: v78 :: v79 :: []), defers := ds } X := by
  obtain ⟨A8, c8, hb8, ho8⟩ := hI.b8
  have HQ := Lib.hid hQ
  have HI := Lib.hid hI.th
  have HO8 := Lib.hid ho8
  have x8 : X.cell? ⟨p8, 0, none⟩ = some (.slice A8 l.length c8) := hb8.cell 0
  have HL := Lib.hid hl
  have HIN := Lib.hid hin
  have HLL := Lib.hid hll
  have hnb : R.length ≤ 400 := by rw [hl]; exact Nat.le_trans (Nat.mul_le_mul hW.2 hH.2) (by omega)
  have HNB := Lib.hid hnb
  have HW := Lib.hid hW
  have HH := Lib.hid hH
  have CA := Lib.hid (fun (R' : List Bool) (hl' : R'.length = W * H) (x y : Int) hx hy z hz => around_any W H R' A c x y hW.2 hH.2 hl' hx hy z hz)
  clear hQ hI hb8 ho8 hl hin hll hW hH hnb
  conv => arg 4; whnf
  gi_wp2
  clear x8
  gi_loopw [5, 48] (fun t5 t48 wr => ∃ (k : Nat) (R' : List Bool) (ch' : Bool), k ≤ l.length ∧ t48 = .int .i64 (k : Int) ∧ t5 = .bool ch' ∧ (l.take k).foldl (clearS W H) (R, ch) = (R', ch') ∧ R'.length = R.length ∧ ThW w W H R' A c Ds wr ∧ wr.ownsRow w.heap.size 95 2 (.slice A8 l.length c8) l.length (pairL W l)) (fun _ t48 _ => l.length - (intOf t48).toNat)
  case atStart => exact ⟨0, R, ch, by omega, rfl, rfl, rfl, rfl, HI.out, HO8.out⟩
  case round =>
    obtain ⟨k, R', ch', hk, rfl, rfl, hfo, hR, hth, hown⟩ := hrel
    clear HI HO8
    by_cases hlt : k < l.length
    · have hx0 : l[k]? = some l[k] := List.getElem?_eq_getElem hlt
      generalize l[k] = x at hx0
      have hxl : x < R'.length := by rw [hR]; exact HIN.out x (List.mem_of_getElem? hx0)
      have hlen : R'.length = W * H := hR.trans HL.out
      have hx2 : x < W * H := by rw [← hlen]; exact hxl
      obtain ⟨q1, q2, q3⟩ := idx_of hx2
      obtain ⟨hc0, hc1⟩ := pairL_at W l k x hx0
      have hxi : (((x / W : Nat) : Int)) * (W : Int) + ((x % W : Nat) : Int) = (x : Int) := by
        rw [← Int.natCast_mul, ← Int.natCast_add, q3]
      have hb2 : ((x % W : Nat) : Int) ≤ 100 ∧ ((x / W : Nat) : Int) ≤ 100 := by have := HW.out; have := HH.out; omega
      have hbl : (0 : Int) ≤ ((x % W : Nat) : Int) ∧ (0 : Int) ≤ ((x / W : Nat) : Int) := ⟨Int.natCast_nonneg _, Int.natCast_nonneg _⟩
      have hgo : goesB W H R' x = (decide (cntN (tP (ringT W H R' ((x % W : Nat) : Int) ((x / W : Nat) : Int))) 4 = 1) && !lonelyF ((List.range 8).map (ringT W H R' ((x % W : Nat) : Int) ((x / W : Nat) : Int)))) := by
        show (decide (turnsF (ringL W H R' _ _) = 1) && _) = _
        rw [show ringL W H R' ((x % W : Nat) : Int) ((x / W : Nat) : Int) = (List.range 8).map (ringT W H R' ((x % W : Nat) : Int) ((x / W : Nat) : Int)) from rfl, turns_cnt]
      have hfs : (l.take (k + 1)).foldl (clearS W H) (R, ch) = clearS W H (R', ch') x := by
        rw [List.take_succ_eq_append_getElem hlt, List.foldl_append, hfo]
        rw [show l[k] = x by rw [List.getElem?_eq_getElem hlt] at hx0; injection hx0]
        rfl
      have hcl : clearS W H (R', ch') x = if goesB W H R' x then (R'.set x false, true) else (R', ch') := rfl
      rw [hcl, hgo] at hfs
      have ca := fun z hz => CA.out R' hlen ((x % W : Nat) : Int) ((x / W : Nat) : Int) ⟨by have := hbl.1; omega, hb2.1⟩ ⟨by have := hbl.2; omega, hb2.2⟩ z hz
      generalize ((x % W : Nat) : Int) = xv at *
      generalize ((x / W : Nat) : Int) = yv at *
      generalize hff : ringT W H R' xv yv = f at *
      clear hff hgo hcl
      have hw1 : IntKind.i64.wrap (yv * (W : Int)) = yv * (W : Int) := IntWalk.i64_in _ (by have := HNB.out; omega)
      have hw2 : IntKind.i64.wrap (yv * (W : Int) + xv) = (x : Int) := by rw [hxi]; exact IntWalk.i64_in _ (by have := HNB.out; omega)
      obtain ⟨g8, hA8⟩ := own_at0 hown (by omega)
      subst hA8
      obtain ⟨g9, off8, hA8, hg8, hcc⟩ := (Slc.of_own hown).2 (by omega)
      injection hA8 with hA8
      injection hA8 with hA8 hA9
      subst hA8 hA9
      have e0 := hcc _ _ hc0
      have e1 := hcc _ _ hc1
      rw [Nat.zero_add] at e0 e1
      have HCA := Lib.hid (show ∀ z, Bls z A R' → Calls Try.prog 33 #[.agg #[.int .i64 W, .int .i64 H, .slice A R'.length c], .int .i64 xv, .int .i64 yv] z fun e w' => e = .returned (.agg #[.bool (f 0), .bool (f 1), .bool (f 2), .bool (f 3), .bool (f 4), .bool (f 5), .bool (f 6), .bool (f 7)]) ∧ Ext z w' from ca)
      have HFS := Lib.hid hfs
      have HR := Lib.hid hR
      have HTH := Lib.hid hth
      have HOW := Lib.hid hown
      have HXL := Lib.hid hxl
      have z0 : wr.cell? ⟨w.heap.size, 0, none⟩ = some (.int .i64 W) := hth.box.cell 0
      have z1 : wr.cell? ⟨w.heap.size, 1, none⟩ = some (.int .i64 H) := hth.box.cell 1
      have z2 : wr.cell? ⟨w.heap.size, 2, none⟩ = some (.slice A R'.length c) := hth.box.cell 2
      have o1 := Old.mk hth.box.lt
      have o8 := Old.mk hg8
      have hk2 : (k : Int) < (l.length : Int) := by omega
      clear ca hfs hR hth hown hxl hfo q1 q2 q3 hc0 hc1 hxi hb2 hbl hcc hx0 hlen hx2 hg8
      have HE1 := Lib.hid ((Ext.refl wr).alloc (.cells #[.int .i64 xv, .int .i64 yv] 95))
      have HG12 := Lib.hid (Blk.new wr 95 #[.int .i64 xv, .int .i64 yv])
      have HTK := Lib.hid (show ∀ z, Ext wr z → ThW w W H R' A c Ds z from fun z hz => HTH.out.keep (S := []) (B := w.heap.size) (.of_ext hz) (by simp) (by simp) (Nat.le_refl _))
      have HBL := Lib.hid (show ∀ z, Ext wr z → Bls z A R' from fun z hz => (HTK.out z hz).bls)
      have CT := Lib.hid (show ∀ z, Calls Try.prog 34 #[.agg #[.bool (f 0), .bool (f 1), .bool (f 2), .bool (f 3), .bool (f 4), .bool (f 5), .bool (f 6), .bool (f 7)]] z fun e w' => e = .returned (.int .i64 (cntN (tP f) 4 : Nat)) ∧ Ext z w' from fun z => turns_any f z)
      have CLn := Lib.hid (show ∀ z, Calls Try.prog 35 #[.agg #[.bool (f 0), .bool (f 1), .bool (f 2), .bool (f 3), .bool (f 4), .bool (f 5), .bool (f 6), .bool (f 7)]] z fun e w' => e = .returned (.bool (lonelyF ((List.range 8).map f))) ∧ Ext z w' from fun z => lonely_any f z)
      generalize cntN (tP f) 4 = tN at *
      generalize lonelyF ((List.range 8).map f) = lo at *
      have hk3 : l.length ≤ 400 := HLL.out
      by_cases htN : tN = 1
      · subst htN
        cases lo
        · have HFS2 := Lib.hid (show (l.take (k + 1)).foldl (clearS W H) (R, ch) = (R'.set x false, true) from HFS.out)
          gi_wp2_with (first
            | (refine ⟨trivial, ?_⟩; gi_at_call 33; refine (callsIn_wide.2 (HCA.out _ (HBL.out _ HE1.out))).mono ?_; rintro e w2 ⟨rfl, hE2⟩; have HE2 := Lib.hid (HE1.out.trans hE2); have H12 := Lib.hid (HG12.out.grow hE2); have o12 := Old.mk H12.out.lt; clear hE2)
            | (refine ⟨trivial, ?_⟩; gi_at_call 34; refine (callsIn_wide.2 (CT.out _)).mono ?_; rintro e w3 ⟨rfl, hE3⟩; have HE3 := Lib.hid ((HE2.out.alloc (.cells #[.bool (f 0), .bool (f 1), .bool (f 2), .bool (f 3), .bool (f 4), .bool (f 5), .bool (f 6), .bool (f 7)] 93)).trans hE3); have H123 := Lib.hid ((H12.out.alloc (.cells #[.bool (f 0), .bool (f 1), .bool (f 2), .bool (f 3), .bool (f 4), .bool (f 5), .bool (f 6), .bool (f 7)] 93)).grow hE3); have H13 := Lib.hid ((Blk.new w2 93 #[.bool (f 0), .bool (f 1), .bool (f 2), .bool (f 3), .bool (f 4), .bool (f 5), .bool (f 6), .bool (f 7)]).grow hE3); have o13 := Old.mk H13.out.lt; have r0 := H13.out.cell 0; have r1 := H13.out.cell 1; have r2 := H13.out.cell 2; have r3 := H13.out.cell 3; have r4 := H13.out.cell 4; have r5 := H13.out.cell 5; have r6 := H13.out.cell 6; have r7 := H13.out.cell 7; clear hE3)
            | (refine ⟨trivial, ?_⟩; gi_at_call 35; refine (callsIn_wide.2 (CLn.out _)).mono ?_; rintro e w4 ⟨rfl, hE4⟩; have HE4 := Lib.hid (HE3.out.trans hE4); have H124 := Lib.hid (H123.out.grow hE4); have p0 := H124.out.cell 0; have p1 := H124.out.cell 1; have HT4 := Lib.hid (HTK.out w4 HE4.out); have b0 := HT4.out.box.cell 0; have b2 := HT4.out.box.cell 2; have bo := Old.mk HT4.out.box.lt; have OB := Lib.hid (own_bool HT4.out.row rfl HXL.out); obtain ⟨g, hAg, hgb, hfr, hsm, hgl, -, -⟩ := OB.out; have HAg := Lib.hid hAg; rw [hAg] at b2; obtain ⟨old, hold⟩ := Option.isSome_iff_exists.1 hsm; have og := Old.mk hgl; clear hAg hgb hsm hgl; clear hE4))
          obtain ⟨g', hAg', hgb', -, -, -, hset, hkp⟩ := OB.out
          have hgg := HAg.out
          rw [hAg'] at hgg
          injection hgg with hgg
          injection hgg with hgg
          subst hgg
          have hk4 := hkp [4] w.heap.size (.bool false) (by simp) (by omega)
          have hln : (R'.set x false).length = R'.length := List.length_set
          have ht4 : ThW w W H (R'.set x false) A c Ds (w4.setCell ⟨g', x, none⟩ (.bool false)) := ⟨by rw [hln]; exact hk4.blk HT4.out.box (by simp), hk4.blk HT4.out.res (by simp), by rw [hln]; exact hset false, hk4.ext HT4.out.ext (Nat.le_refl _), hk4.marks HT4.out.marks⟩
          exact ⟨⟨k + 1, R'.set x false, true, by omega, by go_num, rfl, HFS2.out, hln.trans HR.out, ht4, hk4.own (own_grow HOW.out HE4.out) (by simp)⟩, by simp [intOf]; omega⟩
        · have HFS2 := Lib.hid (show (l.take (k + 1)).foldl (clearS W H) (R, ch) = (R', ch') from HFS.out)
          gi_wp2_with (first
            | (refine ⟨trivial, ?_⟩; gi_at_call 33; refine (callsIn_wide.2 (HCA.out _ (HBL.out _ HE1.out))).mono ?_; rintro e w2 ⟨rfl, hE2⟩; have HE2 := Lib.hid (HE1.out.trans hE2); have H12 := Lib.hid (HG12.out.grow hE2); have o12 := Old.mk H12.out.lt; clear hE2)
            | (refine ⟨trivial, ?_⟩; gi_at_call 34; refine (callsIn_wide.2 (CT.out _)).mono ?_; rintro e w3 ⟨rfl, hE3⟩; have HE3 := Lib.hid ((HE2.out.alloc (.cells #[.bool (f 0), .bool (f 1), .bool (f 2), .bool (f 3), .bool (f 4), .bool (f 5), .bool (f 6), .bool (f 7)] 93)).trans hE3); have H123 := Lib.hid ((H12.out.alloc (.cells #[.bool (f 0), .bool (f 1), .bool (f 2), .bool (f 3), .bool (f 4), .bool (f 5), .bool (f 6), .bool (f 7)] 93)).grow hE3); have H13 := Lib.hid ((Blk.new w2 93 #[.bool (f 0), .bool (f 1), .bool (f 2), .bool (f 3), .bool (f 4), .bool (f 5), .bool (f 6), .bool (f 7)]).grow hE3); have o13 := Old.mk H13.out.lt; have r0 := H13.out.cell 0; have r1 := H13.out.cell 1; have r2 := H13.out.cell 2; have r3 := H13.out.cell 3; have r4 := H13.out.cell 4; have r5 := H13.out.cell 5; have r6 := H13.out.cell 6; have r7 := H13.out.cell 7; clear hE3)
            | (refine ⟨trivial, ?_⟩; gi_at_call 35; refine (callsIn_wide.2 (CLn.out _)).mono ?_; rintro e w4 ⟨rfl, hE4⟩; have HE4 := Lib.hid (HE3.out.trans hE4); clear hE4))
          exact ⟨⟨k + 1, R', ch', by omega, by go_num, rfl, HFS2.out, HR.out, HTK.out _ HE4.out, own_grow HOW.out HE4.out⟩, by simp [intOf]; omega⟩
      · have HFS2 := Lib.hid (show (l.take (k + 1)).foldl (clearS W H) (R, ch) = (R', ch') by rw [HFS.out, decide_eq_false htN]; rfl)
        have hn1 : ((tN : Int) == 1) = false := by simpa using fun h => htN (by omega)
        have hn2 : decide ((tN : Int) = 1) = false := by simpa using fun h => htN (by omega)
        have hn3 : (tN == 1) = false := by simpa using htN
        have hn4 : decide (tN = 1) = false := by simpa using htN
        gi_wp2_with (first
          | (refine ⟨trivial, ?_⟩; gi_at_call 33; refine (callsIn_wide.2 (HCA.out _ (HBL.out _ HE1.out))).mono ?_; rintro e w2 ⟨rfl, hE2⟩; have HE2 := Lib.hid (HE1.out.trans hE2); have H12 := Lib.hid (HG12.out.grow hE2); have o12 := Old.mk H12.out.lt; clear hE2)
          | (refine ⟨trivial, ?_⟩; gi_at_call 34; refine (callsIn_wide.2 (CT.out _)).mono ?_; rintro e w3 ⟨rfl, hE3⟩; have HE3 := Lib.hid ((HE2.out.alloc (.cells #[.bool (f 0), .bool (f 1), .bool (f 2), .bool (f 3), .bool (f 4), .bool (f 5), .bool (f 6), .bool (f 7)] 93)).trans hE3); have H123 := Lib.hid ((H12.out.alloc (.cells #[.bool (f 0), .bool (f 1), .bool (f 2), .bool (f 3), .bool (f 4), .bool (f 5), .bool (f 6), .bool (f 7)] 93)).grow hE3); have H13 := Lib.hid ((Blk.new w2 93 #[.bool (f 0), .bool (f 1), .bool (f 2), .bool (f 3), .bool (f 4), .bool (f 5), .bool (f 6), .bool (f 7)]).grow hE3); have o13 := Old.mk H13.out.lt; have r0 := H13.out.cell 0; have r1 := H13.out.cell 1; have r2 := H13.out.cell 2; have r3 := H13.out.cell 3; have r4 := H13.out.cell 4; have r5 := H13.out.cell 5; have r6 := H13.out.cell 6; have r7 := H13.out.cell 7; clear hE3))
        refine ⟨trivial, ?_⟩
        gi_wp2
        exact ⟨⟨k + 1, R', ch', by omega, by go_num, rfl, HFS2.out, HR.out, HTK.out _ HE3.out, own_grow HOW.out HE3.out⟩, by simp [intOf]; omega⟩
    · have : k = l.length := by omega
      subst this
      have hlt2 : ¬ ((l.length : Nat) : Int) < ((l.length : Nat) : Int) := by omega
      rw [List.take_length] at hfo
      have HF := Lib.hid hfo
      have HR := Lib.hid hR
      have HT := Lib.hid hth
      clear hfo hR hth hown
      gi_wp2
      exact HQ.out _ _ _ _ _ _ _ _ _ _ _ _ _ _ _ _ _ _ _ _ _ _ _ _ _ _ _ _ _ _ _ _ _ _ _ _ _ HF.out HR.out HT.out
end
end Go.Proofs.Ytchplmenkdghcaa
