/- The thinning (15): one pass. -/
import Derived.Test.YtchplmenkdghcaaTopClear
import Derived.Sort.LoopGhostIn
namespace Go.Proofs.Ytchplmenkdghcaa
open Go.RowKit Go.Shelf
def dirN (i : Nat) : Nat := [6, 2, 0, 4].getD i 0
theorem dir_lt {i : Nat} (h : i < 4) : dirN i < 8 := by
  rcases (show i = 0 ∨ i = 1 ∨ i = 2 ∨ i = 3 by omega) with rfl | rfl | rfl | rfl <;> decide
theorem run_dir {i : Nat} (h : i < 4) (w : World) : (Instr.index 52 (.agg #[.int .i64 6, .int .i64 2, .int .i64 0, .int .i64 4]) (.int .i64 (i : Int))).run Try.prog w = .ok (.int .i64 (dirN i : Nat)) w := by
  rcases (show i = 0 ∨ i = 1 ∨ i = 2 ∨ i = 3 by omega) with rfl | rfl | rfl | rfl <;> kernel_rfl
theorem taken_in {W H d : Nat} {R : List Bool} : (∀ i ∈ takenL W H d R, i < R.length) ∧ (takenL W H d R).length ≤ R.length :=
  ⟨fun _ h => (mem_idx.1 (List.mem_filter.1 h).1).1, Nat.le_trans (List.length_filter_le _ _) (Nat.le_trans (List.length_filter_le _ _) (by simp))⟩
section
attribute [local go_sem] Oper.semAt_some
set_option maxRecDepth 100000 in
set_option maxHeartbeats 4000000 in
theorem pass_wp (v0 v2 v3 v4 v6 v7 v8 v9 v10 v11 v12 v13 v14 v15 v16 v17 v18 v19 v20 v21 v22 v23 v24 v27 v28 v29 v30 v31 v32 v33 v34 v35 v36 v37 v38 v39 v40 v41 v42 v43 v44 v45 v46 v47 v48 v49 v50 v51 v52 v53 v54 v55 v56 v57 v58 v59 v60 v61 v62 v63 v64 v65 v66 v67 v68 v69 v70 v71 v72 v73 v74 v75 v76 v77 v78 v79 : Value) (w X : World) (W H : Nat) (R : List Bool) (ch : Bool) (A : Option Addr) (c : Nat) (Ds : List Nat) (i : Nat) (hi : i < 4) (hW : 1 ≤ W ∧ W ≤ 20) (hH : 1 ≤ H ∧ H ≤ 20) (hl : R.length = W * H) (hI : ThW w W H R A c Ds X) (Q : Exit → Act → World → Prop)
    (hQ : ∀ R2 ch2 Ds2 X' u7 u8 u12 u13 u28 u29 u30 u46 u47 u48 u49 u50 u51 u52 u53 u54 u55 u56 u57 u58 u59 u60 u61 u62 u63 u64 u65 u66 u67 u68 u69 u70 u71 u72 u73 u74 u75 u76 u77, passS W H (R, ch) (dirN i) = (R2, ch2) → R2.length = R.length → ThW w W H R2 A c Ds2 X' → Q .normal { tmps := List.toArray (v0 :: .pointer (some ⟨w.heap.size, 0, none⟩) :: v2 :: v3 :: v4 :: .bool ch2 :: v6 :: u7 :: u8 :: v9 :: v10 :: v11 :: u12 :: u13 :: v14 :: v15 :: v16 :: v17 :: v18 :: v19 :: v20 :: v21 :: v22 :: v23 :: v24 :: .agg #[.int .i64 6, .int .i64 2, .int .i64 0, .int .i64 4] :: .int .i64 (i : Int) :: v27 :: u28 :: u29 :: u30 :: v31 :: v32 :: v33 :: v34 :: v35 :: v36 :: v37 :: v38 :: v39 :: v40 :: v41 :: v42 :: v43 :: v44 :: v45 :: u46 :: u47 :: u48 :: u49 :: u50 :: u51 :: u52 :: u53 :: u54 :: u55 :: u56 :: u57 :: u58 :: u59 :: u60 :: u61 :: u62 :: u63 :: u64 :: u65 :: u66 :: u67 :: u68 :: u69 :: u70 :: u71 :: u72 :: u73 :: u74 :: u75 :: u76 :: u77 :: v78 :: v79 :: []), defers := Ds2.map markD } X') :
    (subC [1, 1, 1, 0, 1, 0, 0, 1, 0, 1, 1, 0, 0, 1, 1, 0] (Try.f15.body.getD .skip)).wpIn Fence.wide 4 Try.prog Q { tmps := List.toArray (v0 :: .pointer (some ⟨w.heap.size, 0, none⟩) :: v2 :: v3 :: v4 :: .bool ch :: v6 :: v7 :: v8 :: v9 :: v10 :: v11 :: v12 :: v13 :: v14 :: v15 :: v16 :: v17 :: v18 :: v19 :: v20 :: v21 :: v22 :: v23 :: v24 :: .agg #[.int .i64 6, .int .i64 2, .int .i64 0, .int .i64 4] :: .int .i64 (i : Int) :: v27 :: v28 :: v29 :: v30 :: v31 :: v32 :: v33 :: v34 :: v35 :: v36 :: v37 :: v38 :: v39 :: v40 :: v41 :: v42 :: v43 :: v44 :: v45 :: v46 :: v47 :: v48 :: v49 :: v50 :: v51 :: v52 :: v53 :: v54 :: v55 :: v56 :: v57 :: v58 :: v59 :: v60 :: v61 :: v62 :: v63 :: v64 :: v65 :: v66 :: v67 :: v68 :: v69 :: v70 :: v71 :: v72 :: v73 :: v74 :: v75 :: v76 :: v77 :: v78 :: v79 :: []), defers := Ds.map markD } X := by
  have HQ := Lib.hid hQ
  have hix := fun w => run_dir hi w
  have hd := dir_lt hi
  have HP := Lib.hid (show passS W H (R, ch) (dirN i) = (takenL W H (dirN i) R).foldl (clearS W H) (R, ch) from rfl)
  have hle := hI.ext.size
  generalize dirN i = d at *
  have HT := Lib.hid (show TkI w W H R A c Ds X.heap.size (X.heap.size + 1) d [] ((X.alloc (.cells #[.int .i64 (d : Int)] 3)).alloc (.cells #[.slice none 0 0] 88)) from
    ⟨hI.keep (S := []) (B := w.heap.size) (.of_ext (((Ext.refl X).alloc _).alloc _)) (by simp) (by simp) (Nat.le_refl _), (Blk.new X 3 _).alloc _, by omega, none, 0, Blk.new' _ 88 _ (X.heap.size + 1) (by simp), own_nil _ _ _ _⟩)
  have HW := Lib.hid hW
  have HH := Lib.hid hH
  have HL := Lib.hid hl
  have HD := Lib.hid hd
  have hll : (takenL W H d R).length ≤ 400 := Nat.le_trans taken_in.2 (by rw [hl]; exact Nat.le_trans (Nat.mul_le_mul hW.2 hH.2) (by omega))
  have HLL := Lib.hid hll
  clear hQ hi hI hle hW hH hl hd hll
  conv => arg 4; whnf
  refine wpIn_block ?_
  refine wpIn_seq_k fun K1 hK1 => ?_
  have HK1 := Lib.hid hK1
  clear hK1
  gi_wp2
  refine HK1.out _ _ ?_
  clear HK1 K1
  refine wpIn_seq_k fun K2 hK2 => ?_
  have HK2 := Lib.hid hK2
  clear hK2
  gi_wp2
  refine HK2.out _ _ ?_
  clear HK2 K2
  refine wpIn_seq_k fun K3 hK3 => ?_
  refine take_wp _ _ _ _ _ _ _ _ _ _ _ _ _ _ _ _ _ _ _ _ _ _ _ _ _ _ _ _ _ _ _ _ _ _ _ _ _ _ _ _ _ _ _ _ _ _ _ _ _ _ _ _ _ _ _ _ _ _ _ _ _ _ _ _ _ _ _ _ _ _ _ _ _ _ _ _ _ _ w _ W H R A c Ds _ _ d HW.out HH.out HL.out HD.out HT.out _ ?_
  intro D X2 hT2
  refine hK3 _ _ ?_
  refine clear_wp _ _ _ _ _ _ _ _ _ _ _ _ _ _ _ _ _ _ _ _ _ _ _ _ _ _ _ _ _ _ _ _ _ _ _ _ _ _ _ _ _ _ _ _ _ _ _ _ _ _ _ _ _ _ _ _ _ _ _ _ _ _ _ _ _ _ _ _ _ _ _ _ _ _ _ _ _ _ w _ W H R ch A c _ _ _ d (takenL W H d R) HW.out HH.out HL.out taken_in.1 HLL.out hT2 _ ?_
  intro R2 ch2 X3 u12 u13 u46 u47 u48 u49 u50 u51 u52 u53 u54 u55 u56 u57 u58 u59 u60 u61 u62 u63 u64 u65 u66 u67 u68 u69 u70 u71 u72 u73 u74 u75 u76 u77 hf hln hT3
  exact HQ.out R2 ch2 (D :: Ds) X3 _ _ _ _ _ _ _ _ _ _ _ _ _ _ _ _ _ _ _ _ _ _ _ _ _ _ _ _ _ _ _ _ _ _ _ _ _ _ _ (HP.out.trans hf) hln hT3
end
end Go.Proofs.Ytchplmenkdghcaa
/- The thinning (15): one round. -/
namespace Go.Proofs.Ytchplmenkdghcaa
open Go.RowKit Go.Shelf
section
attribute [local go_sem] Oper.semAt_some
set_option maxRecDepth 100000 in
set_option maxHeartbeats 4000000 in
theorem round_wp (v0 v2 v3 v4 v5 v6 v7 v8 v9 v10 v11 v12 v13 v14 v15 v16 v17 v18 v19 v20 v21 v22 v23 v24 v25 v26 v27 v28 v29 v30 v31 v32 v33 v34 v35 v36 v37 v38 v39 v40 v41 v42 v43 v44 v45 v46 v47 v48 v49 v50 v51 v52 v53 v54 v55 v56 v57 v58 v59 v60 v61 v62 v63 v64 v65 v66 v67 v68 v69 v70 v71 v72 v73 v74 v75 v76 v77 v78 v79 : Value) (w X : World) (W H : Nat) (R : List Bool) (A : Option Addr) (c : Nat) (Ds : List Nat) (hW : 1 ≤ W ∧ W ≤ 20) (hH : 1 ≤ H ∧ H ≤ 20) (hl : R.length = W * H) (hI : ThW w W H R A c Ds X) (Q : Exit → Act → World → Prop)
    (hQ : ∀ R2 ch2 Ds2 X' u7 u8 u12 u13 u25 u26 u27 u28 u29 u30 u46 u47 u48 u49 u50 u51 u52 u53 u54 u55 u56 u57 u58 u59 u60 u61 u62 u63 u64 u65 u66 u67 u68 u69 u70 u71 u72 u73 u74 u75 u76 u77 u78, roundS W H R = (R2, ch2) → R2.length = R.length → ThW w W H R2 A c Ds2 X' → Q .normal { tmps := List.toArray (v0 :: .pointer (some ⟨w.heap.size, 0, none⟩) :: v2 :: v3 :: v4 :: .bool ch2 :: v6 :: u7 :: u8 :: v9 :: v10 :: v11 :: u12 :: u13 :: v14 :: v15 :: v16 :: v17 :: v18 :: v19 :: v20 :: v21 :: v22 :: v23 :: v24 :: u25 :: u26 :: u27 :: u28 :: u29 :: u30 :: v31 :: v32 :: v33 :: v34 :: v35 :: v36 :: v37 :: v38 :: v39 :: v40 :: v41 :: v42 :: v43 :: v44 :: v45 :: u46 :: u47 :: u48 :: u49 :: u50 :: u51 :: u52 :: u53 :: u54 :: u55 :: u56 :: u57 :: u58 :: u59 :: u60 :: u61 :: u62 :: u63 :: u64 :: u65 :: u66 :: u67 :: u68 :: u69 :: u70 :: u71 :: u72 :: u73 :: u74 :: u75 :: u76 :: u77 :: u78 :: v79 :: []), defers := Ds2.map markD } X') :
    (subC [1, 1, 1, 0, 1, 0, 0, 1] (Try.f15.body.getD .skip)).wpIn Fence.wide 4 Try.prog Q { tmps := List.toArray (v0 :: .pointer (some ⟨w.heap.size, 0, none⟩) :: v2 :: v3 :: v4 :: v5 :: v6 :: v7 :: v8 :: v9 :: v10 :: v11 :: v12 :: v13 :: v14 :: v15 :: v16 :: v17 :: v18 :: v19 :: v20 :: v21 :: v22 :: v23 :: v24 :: v25 :: v26 :: v27 :: v28 :: v29 :: v30 :: v31 :: v32 :: v33 :: v34 :: v35 :: v36 :: v37 :: v38 :: v39 :: v40 :: v41 :: v42 :: v43 :: v44 :: v45 :: v46 :: v47 :: v48 :: v49 :: v50 :: v51 :: v52 :: v53 :: v54 :: v55 :: v56 :: v57 :: v58 :: v59 :: v60 :: v61 :: v62 :: v63 :: v64 :: v65 :: v66 :: v67 :: v68 :: v69 :: v70 :: v71 :: v72 :: v73 :: v74 :: v75 :: v76 :: v77 :: v78 :: v79 :: []), defers := Ds.map markD } X := by
  have HQ := Lib.hid hQ
  have HI := Lib.hid hI
  have HW := Lib.hid hW
  have HH := Lib.hid hH
  have HL := Lib.hid hl
  clear hQ hI hW hH hl
  conv => arg 4; whnf
  refine wpIn_block ?_
  refine wpIn_seq_k fun K1 hK1 => ?_
  have HK1 := Lib.hid hK1
  clear hK1
  gi_wp2
  refine HK1.out _ _ ?_
  clear HK1 K1
  refine wpIn_seq_k fun K2 hK2 => ?_
  have HK2 := Lib.hid hK2
  clear hK2
  gi_wp2
  refine HK2.out _ _ ?_
  clear HK2 K2
  refine wpIn_block ?_
  refine wpIn_loop_ghost (fun m a Z => ∃ (i : Nat) (R2 : List Bool) (ch2 : Bool) (Ds2 : List Nat) (u7 u8 u12 u13 u27 u28 u29 u30 u46 u47 u48 u49 u50 u51 u52 u53 u54 u55 u56 u57 u58 u59 u60 u61 u62 u63 u64 u65 u66 u67 u68 u69 u70 u71 u72 u73 u74 u75 u76 u77 u78 : Value), m = 4 - i ∧ i ≤ 4 ∧ ([6, 2, 0, 4].take i).foldl (passS W H) (R, false) = (R2, ch2) ∧ R2.length = R.length ∧ ThW w W H R2 A c Ds2 Z ∧ a = { tmps := List.toArray (v0 :: .pointer (some ⟨w.heap.size, 0, none⟩) :: v2 :: v3 :: v4 :: .bool ch2 :: v6 :: u7 :: u8 :: v9 :: v10 :: v11 :: u12 :: u13 :: v14 :: v15 :: v16 :: v17 :: v18 :: v19 :: v20 :: v21 :: v22 :: v23 :: v24 :: .agg #[.int .i64 6, .int .i64 2, .int .i64 0, .int .i64 4] :: .int .i64 (i : Int) :: u27 :: u28 :: u29 :: u30 :: v31 :: v32 :: v33 :: v34 :: v35 :: v36 :: v37 :: v38 :: v39 :: v40 :: v41 :: v42 :: v43 :: v44 :: v45 :: u46 :: u47 :: u48 :: u49 :: u50 :: u51 :: u52 :: u53 :: u54 :: u55 :: u56 :: u57 :: u58 :: u59 :: u60 :: u61 :: u62 :: u63 :: u64 :: u65 :: u66 :: u67 :: u68 :: u69 :: u70 :: u71 :: u72 :: u73 :: u74 :: u75 :: u76 :: u77 :: u78 :: v79 :: []), defers := Ds2.map markD }) 4 ?start ?round
  case start => exact ⟨0, R, false, Ds, _, _, _, _, _, _, _, _, _, _, _, _, _, _, _, _, _, _, _, _, _, _, _, _, _, _, _, _, _, _, _, _, _, _, _, _, _, _, _, _, _, rfl, by omega, rfl, rfl, HI.out, rfl⟩
  case round =>
    rintro m a Z ⟨i, R2, ch2, Ds2, u7, u8, u12, u13, u27, u28, u29, u30, u46, u47, u48, u49, u50, u51, u52, u53, u54, u55, u56, u57, u58, u59, u60, u61, u62, u63, u64, u65, u66, u67, u68, u69, u70, u71, u72, u73, u74, u75, u76, u77, u78, rfl, hi, hf, hln, hT, rfl⟩
    by_cases hi4 : i < 4
    · have hi5 : (i : Int) < 4 := by omega
      have HT := Lib.hid hT
      have HF := Lib.hid hf
      have HN := Lib.hid hln
      clear hT hf hln
      refine wpIn_seq_k fun K1 hK1 => ?_
      have HK1 := Lib.hid hK1
      clear hK1
      gi_wp2
      refine HK1.out _ _ ?_
      clear HK1 K1
      refine wpIn_seq_k fun K2 hK2 => ?_
      have HK2 := Lib.hid hK2
      clear hK2
      gi_wp2
      refine HK2.out _ _ ?_
      clear HK2 K2
      refine wpIn_seq_k fun K3 hK3 => ?_
      refine pass_wp _ _ _ _ _ _ _ _ _ _ _ _ _ _ _ _ _ _ _ _ _ _ _ _ _ _ _ _ _ _ _ _ _ _ _ _ _ _ _ _ _ _ _ _ _ _ _ _ _ _ _ _ _ _ _ _ _ _ _ _ _ _ _ _ _ _ _ _ _ _ _ _ _ _ _ _ w _ W H R2 ch2 A c Ds2 i hi4 HW.out HH.out (HN.out.trans HL.out) HT.out _ ?_
      intro R3 ch3 Ds3 X3 u7 u8 u12 u13 u28 u29 u30 u46 u47 u48 u49 u50 u51 u52 u53 u54 u55 u56 u57 u58 u59 u60 u61 u62 u63 u64 u65 u66 u67 u68 u69 u70 u71 u72 u73 u74 u75 u76 u77 hp hln3 hT3
      have hfn : ([6, 2, 0, 4].take (i + 1)).foldl (passS W H) (R, false) = (R3, ch3) := by
        rw [List.take_succ_eq_append_getElem (by simpa using hi4), List.foldl_append, HF.out, ← hp]
        show passS W H (R2, ch2) _ = _
        congr 1
        rcases (show i = 0 ∨ i = 1 ∨ i = 2 ∨ i = 3 by omega) with rfl | rfl | rfl | rfl <;> rfl
      have HF3 := Lib.hid hfn
      have HT3 := Lib.hid hT3
      have HN3 := Lib.hid hln3
      clear hfn hp hT3 hln3
      refine hK3 _ _ ?_
      clear hK3 K3
      gi_wp2
      exact ⟨4 - (i + 1), by omega, i + 1, R3, ch3, Ds3, _, _, _, _, _, _, _, _, _, _, _, _, _, _, _, _, _, _, _, _, _, _, _, _, _, _, _, _, _, _, _, _, _, _, _, _, _, _, _, _, _, rfl, by omega, HF3.out, HN3.out.trans HN.out, HT3.out, by go_num⟩
    · obtain rfl : i = 4 := by omega
      have HT := Lib.hid hT
      have HF := Lib.hid hf
      have HN := Lib.hid hln
      clear hT hf hln
      gi_wp2
      exact HQ.out R2 ch2 Ds2 Z _ _ _ _ _ _ _ _ _ _ _ _ _ _ _ _ _ _ _ _ _ _ _ _ _ _ _ _ _ _ _ _ _ _ _ _ _ _ _ _ _ _ _ HF.out HN.out HT.out
end
end Go.Proofs.Ytchplmenkdghcaa
/- The thinning (15). -/
namespace Go.Proofs.Ytchplmenkdghcaa
open Go.RowKit Go.Shelf
theorem ne_mark {X : World} {B : Nat} {Ds : List Nat} (hm : Marks B Ds X) {g : Nat} {cs : Array Value} {t : TypeId} {fr : Nat × Nat} (h : X.heap[g]? = some (.cells cs t fr)) : ∀ D ∈ Ds, g ≠ D := by
  intro D hD e
  subst e
  rw [(hm.at' g hD).2] at h
  cases h
theorem own_marks {X X' : World} {B : Nat} {Ds : List Nat} (hm : Marks B Ds X) (hk : ∀ k, (∀ D ∈ Ds, k ≠ D) → X'.heap[k]? = X.heap[k]?) {base sz n : Nat} {e : TypeId} {v : Value} {xs : List Value} (h : X.ownsRow base e sz v n xs) : X'.ownsRow base e sz v n xs := by
  refine ⟨h.1, ?_⟩
  rcases h.2 with h2 | ⟨g, cap, cur, hv, hb, hh, q⟩
  · exact .inl h2
  · exact .inr ⟨g, cap, cur, hv, hb, (hk g (ne_mark hm hh)).trans hh, q⟩
section
attribute [local go_sem] Oper.semAt_some
set_option maxRecDepth 100000 in
set_option maxHeartbeats 4000000 in
theorem thin_any (W H : Nat) (R : List Bool) (A : Option Addr) (c : Nat) (hW : 1 ≤ W ∧ W ≤ 20) (hH : 1 ≤ H ∧ H ≤ 20) (hl : R.length = W * H) (w : World) (hB : Bls w A R) :
    Calls Try.prog 15 #[.agg #[.int .i64 W, .int .i64 H, .slice A R.length c]] w (RetT W H (thinN W H (W * H + 1) R) w) := by
  have CC := Lib.hid (fun w => check30_any W H R.length A c hW hH hl w)
  have HE := Lib.hid (((Ext.refl w).alloc (.cells #[.int .i64 W, .int .i64 H, .slice A R.length c] 24)).alloc (.cells #[.int .i64 0, .int .i64 0, .slice none 0 0] 24))
  have HX := Lib.hid ((Blk.new w 24 #[.int .i64 W, .int .i64 H, .slice A R.length c]).alloc (.cells #[.int .i64 0, .int .i64 0, .slice none 0 0] 24))
  have HR := Lib.hid (Blk.new' (w.alloc (.cells #[.int .i64 W, .int .i64 H, .slice A R.length c] 24)) 24 #[.int .i64 0, .int .i64 0, .slice none 0 0] (w.heap.size + 1) (by simp))
  have HB := Lib.hid (show ∀ z, Ext w z → Bls z A R from fun z h => Sl.grow hB h)
  have hn : 0 < R.length ∧ R.length ≤ 400 := by
    rw [hl]
    exact ⟨Nat.mul_pos hW.1 hH.1, Nat.le_trans (Nat.mul_le_mul hW.2 hH.2) (by omega)⟩
  have CL := Lib.hid (fun z h => clone_any R A c hn z (HB.out z h))
  have HF0 := Lib.hid (show thinN W H (cntT R + 1) R = thinN W H (W * H + 1) R from (thin_more W H (cntT R + 1) (W * H + 1) R (by omega) (by have := cntT_le R; omega)).symm)
  have HL := Lib.hid hl
  have HW := Lib.hid hW
  have HH := Lib.hid hH
  clear hB hn hl hW hH
  obtain ⟨fin, hfin⟩ : ∃ fin, fin = thinN W H (W * H + 1) R := ⟨_, rfl⟩
  rw [← hfin] at HF0
  rw [← hfin]
  clear hfin
  refine (callsIn_wide (n := 4)).1 ?_
  refine callsIn_of_wp_marks Try.func15 rfl trivial ?_ rfl
  simp only [Try.ntmps15, List.size_toArray, List.length_cons, List.length_nil, Nat.reduceAdd, Nat.reduceSub, Array.replicate_succ, Array.replicate_zero, List.push_toArray, List.append_toArray, List.nil_append, List.cons_append]
  gi_wp2_with (first
    | (refine ⟨trivial, ?_⟩; gi_at_call 30; refine (callsIn_wide.2 (CC.out _)).mono ?_; rintro e w2 ⟨rfl, hE1⟩; have HE2 := Lib.hid (HE.out.trans hE1); have HX2 := Lib.hid (HX.out.grow hE1); have HR2 := Lib.hid (HR.out.grow hE1); have x0 := HX2.out.cell 0; have x1 := HX2.out.cell 1; have x2 := HX2.out.cell 2; have xf := HX2.out.frozen 2; have xo := Old.mk HX2.out.lt; clear hE1)
    | (refine ⟨trivial, ?_⟩; gi_at_call 31; refine (callsIn_wide.2 (CL.out _ HE2.out)).mono ?_; rintro e w3 ⟨A1, c1, rfl, ho1, hE3⟩; have HO3 := Lib.hid ho1; have HE3 := Lib.hid (HE2.out.trans hE3); have HX3 := Lib.hid (HX2.out.grow hE3); have HR3 := Lib.hid (HR2.out.grow hE3); have xf3 := HX3.out.frozen 2; have xo3 := Old.mk HX3.out.lt; have x32 := HX3.out.cell 2; clear ho1 hE3))
  have HT := Lib.hid (show ThW w W H R A1 c1 [] (w3.setCell ⟨w.heap.size, 2, none⟩ (.slice A1 R.length c1)) from
    ⟨HX3.out.set_ 2 _, HR3.out.far (by show w.heap.size + 1 ≠ w.heap.size; omega) _, own_down (B := w2.heap.size) (own_set_blk HO3.out HX3.out (by decide) 2 _) (by have := HR2.out.lt; omega), HE3.out.setCell (by exact Nat.le_refl _) _, List.nodup_nil, fun D hD => by cases hD⟩)
  clear x0 x1 x2 xf xo xf3 xo3 x32
  generalize w3.setCell ⟨w.heap.size, 2, none⟩ (.slice A1 R.length c1) = Z0 at *
  refine wpIn_loop_ghost (fun m a Z => ∃ (R2 : List Bool) (ch2 : Bool) (Ds2 : List Nat) (u7 u8 u12 u13 u24 u25 u26 u27 u28 u29 u30 u46 u47 u48 u49 u50 u51 u52 u53 u54 u55 u56 u57 u58 u59 u60 u61 u62 u63 u64 u65 u66 u67 u68 u69 u70 u71 u72 u73 u74 u75 u76 u77 u78 : Value), ((ch2 = true ∧ m = cntT R2 + 1 ∧ thinN W H (cntT R2 + 1) R2 = fin) ∨ (ch2 = false ∧ m = 0 ∧ R2 = fin)) ∧ R2.length = R.length ∧ ThW w W H R2 A1 c1 Ds2 Z ∧ a = { tmps := List.toArray (.agg #[.int .i64 W, .int .i64 H, .slice A R.length c] :: .pointer (some ⟨w.heap.size, 0, none⟩) :: .pointer (some ⟨w.heap.size + 1, 0, none⟩) :: .int .i64 0 :: .int .i64 0 :: .bool ch2 :: undef :: u7 :: u8 :: undef :: undef :: undef :: u12 :: u13 :: .agg #[.int .i64 W, .int .i64 H, .slice A R.length c] :: .int .i64 0 :: .int .i64 0 :: .bool false :: undef :: undef :: .pointer (some ⟨w.heap.size, 2, none⟩) :: .slice A R.length c :: .slice A1 R.length c1 :: .pointer (some ⟨w.heap.size, 2, none⟩) :: u24 :: u25 :: u26 :: u27 :: u28 :: u29 :: u30 :: undef :: undef :: undef :: undef :: undef :: undef :: undef :: undef :: undef :: undef :: undef :: undef :: undef :: undef :: undef :: u46 :: u47 :: u48 :: u49 :: u50 :: u51 :: u52 :: u53 :: u54 :: u55 :: u56 :: u57 :: u58 :: u59 :: u60 :: u61 :: u62 :: u63 :: u64 :: u65 :: u66 :: u67 :: u68 :: u69 :: u70 :: u71 :: u72 :: u73 :: u74 :: u75 :: u76 :: u77 :: u78 :: undef :: []), defers := Ds2.map markD }) (cntT R + 1) ?start ?round
  case start => exact ⟨R, true, [], _, _, _, _, _, _, _, _, _, _, _, _, _, _, _, _, _, _, _, _, _, _, _, _, _, _, _, _, _, _, _, _, _, _, _, _, _, _, _, _, _, _, _, _, .inl ⟨rfl, rfl, HF0.out⟩, rfl, HT.out, rfl⟩
  case round =>
    rintro m a Z ⟨R2, ch2, Ds2, u7, u8, u12, u13, u24, u25, u26, u27, u28, u29, u30, u46, u47, u48, u49, u50, u51, u52, u53, u54, u55, u56, u57, u58, u59, u60, u61, u62, u63, u64, u65, u66, u67, u68, u69, u70, u71, u72, u73, u74, u75, u76, u77, u78, hdis, hln, hT, rfl⟩
    have HT2 := Lib.hid hT
    have HN := Lib.hid hln
    clear hT hln HT CC CL HF0
    rcases hdis with ⟨rfl, rfl, hf⟩ | ⟨rfl, rfl, hf⟩
    · have HFF := Lib.hid hf
      clear hf
      refine wpIn_seq_k fun K1 hK1 => ?_
      have HK1 := Lib.hid hK1
      clear hK1
      gi_wp2
      refine HK1.out _ _ ?_
      clear HK1 K1
      refine round_wp _ _ _ _ _ _ _ _ _ _ _ _ _ _ _ _ _ _ _ _ _ _ _ _ _ _ _ _ _ _ _ _ _ _ _ _ _ _ _ _ _ _ _ _ _ _ _ _ _ _ _ _ _ _ _ _ _ _ _ _ _ _ _ _ _ _ _ _ _ _ _ _ _ _ _ _ _ _ _ w _ W H R2 A1 c1 Ds2 HW.out HH.out (HN.out.trans HL.out) HT2.out _ ?_
      intro R3 ch3 Ds3 X3 u7 u8 u12 u13 u25 u26 u27 u28 u29 u30 u46 u47 u48 u49 u50 u51 u52 u53 u54 u55 u56 u57 u58 u59 u60 u61 u62 u63 u64 u65 u66 u67 u68 u69 u70 u71 u72 u73 u74 u75 u76 u77 u78 hr hln3 hT3
      have hfw := round_fewer W H R2
      have hff := HFF.out
      unfold thinN at hff
      rw [hr] at hfw hff
      cases ch3
      · exact ⟨0, by omega, R3, false, Ds3, _, _, _, _, _, _, _, _, _, _, _, _, _, _, _, _, _, _, _, _, _, _, _, _, _, _, _, _, _, _, _, _, _, _, _, _, _, _, _, _, _, _, _, _, .inr ⟨rfl, rfl, hff⟩, hln3.trans HN.out, hT3, rfl⟩
      · have hlt : cntT R3 < cntT R2 := by
          rcases hfw.lt rfl with h | h
          · cases h
          · exact h
        exact ⟨cntT R3 + 1, by omega, R3, true, Ds3, _, _, _, _, _, _, _, _, _, _, _, _, _, _, _, _, _, _, _, _, _, _, _, _, _, _, _, _, _, _, _, _, _, _, _, _, _, _, _, _, _, _, _, _, .inl ⟨rfl, rfl, (thin_more W H (cntT R3 + 1) (cntT R2) R3 (by omega) (by omega)).symm.trans hff⟩, hln3.trans HN.out, hT3, rfl⟩
    · subst hf
      have b0 : Z.cell? ⟨w.heap.size, 0, none⟩ = some (.int .i64 W) := HT2.out.box.cell 0
      have b1 : Z.cell? ⟨w.heap.size, 1, none⟩ = some (.int .i64 H) := HT2.out.box.cell 1
      have b2 : Z.cell? ⟨w.heap.size, 2, none⟩ = some (.slice A1 R2.length c1) := HT2.out.box.cell 2
      have r0 : Z.cell? ⟨w.heap.size + 1, 0, none⟩ = some (.int .i64 0) := HT2.out.res.cell 0
      have r1 : Z.cell? ⟨w.heap.size + 1, 1, none⟩ = some (.int .i64 0) := HT2.out.res.cell 1
      have r2 : Z.cell? ⟨w.heap.size + 1, 2, none⟩ = some (.slice none 0 0) := HT2.out.res.cell 2
      have rf := HT2.out.res.frozen
      have ob := Old.mk HT2.out.box.lt
      have or := Old.mk HT2.out.res.lt
      gi_wp2
      have qb := ((HT2.out.res.set_ 0 (.int .i64 W)).set_ 1 (.int .i64 H)).set_ 2 (.slice A1 R2.length c1)
      have kp := ((Kp.set_ (S := [24]) (B := w.heap.size) HT2.out.res (by omega) (by simp) 0 (.int .i64 W)).trans (Kp.set_ (HT2.out.res.set_ 0 (.int .i64 W)) (by omega) (by simp) 1 (.int .i64 H))).trans (Kp.set_ ((HT2.out.res.set_ 0 (.int .i64 W)).set_ 1 (.int .i64 H)) (by omega) (by simp) 2 (.slice A1 R2.length c1))
      simp only [List.setIfInBounds_toArray, List.set_cons_zero, List.set_cons_succ] at qb
      generalize (((Z.setCell ⟨w.heap.size + 1, 0, none⟩ (.int .i64 W)).setCell ⟨w.heap.size + 1, 1, none⟩ (.int .i64 H)).setCell ⟨w.heap.size + 1, 2, none⟩ (.slice A1 R2.length c1)) = Zf at *
      have mk := kp.marks HT2.out.marks
      refine leaves_marks (B := w.heap.size + 2) Ds2 _ mk fun W2 hB hk => ?_
      have qb2 : Blk W2 (w.heap.size + 1) 24 #[.int .i64 W, .int .i64 H, .slice A1 R2.length c1] := (hk _ (ne_mark mk qb)).trans qb
      have j0 : W2.cell? ⟨w.heap.size + 1, 0, none⟩ = some (.int .i64 W) := qb2.cell 0
      have j1 : W2.cell? ⟨w.heap.size + 1, 1, none⟩ = some (.int .i64 H) := qb2.cell 1
      have j2 : W2.cell? ⟨w.heap.size + 1, 2, none⟩ = some (.slice A1 R2.length c1) := qb2.cell 2
      refine ⟨.tuple #[.agg #[.int .i64 W, .int .i64 H, .slice A1 R2.length c1], .int .i64 0], ?_, A1, c1, rfl, own_down (own_marks mk hk (kp.own HT2.out.row (by simp))) (by omega), ?_⟩
      · simp [results, Try.f15, go_sem, j0, j1, j2]
      · exact Below.trans (kp.ext HT2.out.ext (Nat.le_refl _)) (hB.mono (by omega))
end
end Go.Proofs.Ytchplmenkdghcaa
