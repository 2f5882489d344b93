/- The minutiae of a trace (16). -/
import Derived.Test.YtchplmenkdghcaaTopThin
import Derived.Test.YtchplmenkdghcaaTopRing
namespace Go.Proofs.Ytchplmenkdghcaa
open Go.RowKit Go.Shelf
theorem info38 : ElemInfo Try.prog 38 57 4 24 := elemInfo (z := .agg #[.int .i64 0, .int .i64 0, .int .u8 0, .int .u8 0]) Try.underlying38 (by kernel_rfl) rfl (by decide)
theorem first_ex (f : Nat → Bool) : ∀ {n : Nat}, n < 8 → f n = true → ∃ k, k < 8 ∧ (∀ j, j < k → f j = false) ∧ f k = true
  | n, hn, hf => by
    by_cases h : ∃ m, m < n ∧ f m = true
    · obtain ⟨m, hm, hfm⟩ := h
      exact first_ex f (n := m) (by omega) hfm
    · refine ⟨n, hn, fun j hj => ?_, hf⟩
      cases hfj : f j
      · rfl
      · exact absurd ⟨j, hj, hfj⟩ h
theorem first_wrap (f : Nat → Bool) (h : 0 < cntN (cP f) 8) : IntKind.u8.wrap (firstF ((List.range 8).map f)) = (((List.range 8).map f).findIdx id : Nat) := by
  obtain ⟨k, hk, hk1, hk2⟩ : ∃ k, k < 8 ∧ (∀ j, j < k → f j = false) ∧ f k = true := by
    rw [← cross_cnt] at h
    obtain ⟨d, hd⟩ := List.exists_mem_of_length_pos h
    simp only [List.mem_filter, List.mem_range, Bool.and_eq_true] at hd
    have hd2 := hd.2.2
    rw [getD_ring f (by omega)] at hd2
    exact first_ex f (by omega) hd2
  rw [first_at f hk hk1 hk2]
  have : ((List.range 8).map f).findIdx id = k := by
    rw [List.findIdx_eq (by simpa using hk)]
    refine ⟨by simpa using hk2, fun j hj => ?_⟩
    simpa using hk1 j hj
  rw [this]
  exact IntWalk.u8_in _ (by omega)
/-- what the loop over the pixels keeps -/
structure MnI (w : World) (W H : Nat) (R : List Bool) (A : Option Addr) (c p7 : Nat) (l : List Mi) (Z : World) : Prop where
  box : Blk Z w.heap.size 24 #[.int .i64 W, .int .i64 H, .slice A R.length c]
  edge : Blk Z (w.heap.size + 1) 3 #[.int .i64 0]
  ext : Ext w Z
  ord : w.heap.size ≤ p7
  out : ∃ A7 c7, Blk Z p7 38 #[.slice A7 l.length c7] ∧ Z.ownsRow w.heap.size 57 4 (.slice A7 l.length c7) l.length (flatG Mi.cellsL l)
section
variable {w : World} {W H : Nat} {R : List Bool} {A : Option Addr} {c p7 : Nat} {l l' : List Mi} {Z Z' : World}
theorem MnI.grow (h : MnI w W H R A c p7 l Z) (k : Ext Z Z') : MnI w W H R A c p7 l Z' := by
  obtain ⟨A7, c7, h1, h2⟩ := h.out
  exact ⟨h.box.grow k, h.edge.grow k, h.ext.trans k, h.ord, A7, c7, h1.grow k, own_grow h2 k⟩
theorem MnI.put {k : Nat} {r : Loop} (h : MnI w W H R A c p7 l Z) (hk : Z.heap[k]? = some (.loop r)) (hw : w.heap.size ≤ k) (o : Obj) : MnI w W H R A c p7 l (Z.putObj k o) := by
  obtain ⟨A7, c7, h1, h2⟩ := h.out
  exact ⟨blk_put h.box hk o, blk_put h.edge hk o, ext_put h.ext hw o, h.ord, A7, c7, blk_put h1 hk o, own_put h2 hk o⟩
theorem MnI.more {A7 A9 : Option Addr} {c7 c9 : Nat} (h : MnI w W H R A c p7 l Z) (h1 : Blk Z p7 38 #[.slice A7 l.length c7]) (h2 : Z.ownsRow w.heap.size 57 4 (.slice A7 l.length c7) l.length (flatG Mi.cellsL l))
    (h3 : Z'.ownsRow w.heap.size 57 4 (.slice A9 l'.length c9) l'.length (flatG Mi.cellsL l')) (h4 : Z.grownBy Z' (Value.slice A7 l.length c7).ownBlock) : MnI w W H R A c p7 l' (Z'.setCell ⟨p7, 0, none⟩ (.slice A9 l'.length c9)) ∧ Kp [38, 57] w.heap.size Z (Z'.setCell ⟨p7, 0, none⟩ (.slice A9 l'.length c9)) := by
  have k1 : Kp [38, 57] w.heap.size Z Z' := Kp.grown h2 (Nat.le_refl _) (by simp) h4
  have b7 : Blk Z' p7 38 #[.slice A7 l.length c7] := (Kp.grown (S := [57]) (B := w.heap.size) h2 (Nat.le_refl _) (by simp) h4).blk h1 (by simp)
  have k2 : Kp [38, 57] w.heap.size Z' (Z'.setCell ⟨p7, 0, none⟩ (.slice A9 l'.length c9)) := Kp.set_ b7 h.ord (by simp) 0 _
  have k := k1.trans k2
  exact ⟨⟨k.blk h.box (by simp), k.blk h.edge (by simp), k.ext h.ext (Nat.le_refl _), h.ord, A9, c9, b7.set_ 0 _, own_set_blk h3 b7 (by simp) 0 _⟩, k⟩
end
section
attribute [local go_sem] Oper.semAt_some
set_option maxRecDepth 100000 in
set_option maxHeartbeats 4000000 in
theorem minu_any (W H : Nat) (R : List Bool) (A : Option Addr) (c : Nat) (hW : 1 ≤ W ∧ W ≤ 20) (hH : 1 ≤ H ∧ H ≤ 20) (hl : R.length = W * H) (w : World) (hB : Bls w A R) :
    Calls Try.prog 16 #[.agg #[.int .i64 W, .int .i64 H, .slice A R.length c], .int .i64 0] w fun e w' => ∃ A' c', e = .returned (.tuple #[.slice A' (minuL W H R).length c', .int .i64 0]) ∧ w'.ownsRow w.heap.size 57 4 (.slice A' (minuL W H R).length c') (minuL W H R).length (flatG Mi.cellsL (minuL W H R)) ∧ Ext w w' := by
  have CC := Lib.hid (fun w => check30_any W H R.length A c hW hH hl w)
  have CP := Lib.hid (fun (v0 v1 v2 : Value) w => pixels_any v0 v1 v2 w)
  have C0 := Lib.hid (show ∀ z, Calls Try.prog 36 #[.int .i64 0, .int .i64 0, .int .i64 20] z fun e w' => e = .returned (.bool true) ∧ z = w' from fun z => withinP_any 0 0 20 z)
  have HE := Lib.hid (((Ext.refl w).alloc (.cells #[.int .i64 W, .int .i64 H, .slice A R.length c] 24)).alloc (.cells #[.int .i64 0] 3))
  have HX := Lib.hid ((Blk.new w 24 #[.int .i64 W, .int .i64 H, .slice A R.length c]).alloc (.cells #[.int .i64 0] 3))
  have HR := Lib.hid (Blk.new' (w.alloc (.cells #[.int .i64 W, .int .i64 H, .slice A R.length c] 24)) 3 #[.int .i64 0] (w.heap.size + 1) (by simp))
  have HB := Lib.hid (show ∀ z, Ext w z → Bls z A R from fun z h => Sl.grow hB h)
  have hn : R.length ≤ 400 := by
    rw [hl]
    exact Nat.le_trans (Nat.mul_le_mul hW.2 hH.2) (by omega)
  have CA := Lib.hid (fun (x y : Int) hx hy z hz => around_any W H R A c x y hW.2 hH.2 hl hx hy z hz)
  have PX := Lib.hid (fun l cB J V h hJ => pix_any l cB W c A R hW hn J V h hJ)
  have HL := Lib.hid hl
  have HW := Lib.hid hW
  have HH := Lib.hid hH
  have HNN := Lib.hid hn
  clear hB hn hl hW hH
  refine (callsIn_wide (n := 4)).1 ?_
  refine callsIn_of_wp_marks Try.func16 rfl trivial ?_ rfl
  simp only [Try.ntmps16, List.size_toArray, List.length_cons, List.length_nil, Nat.reduceAdd, Nat.reduceSub, Array.replicate_succ, Array.replicate_zero, List.push_toArray, List.append_toArray, List.nil_append, List.cons_append]
  gi_wp2_with (first
    | (refine ⟨trivial, ?_⟩; gi_at_call 30; refine (callsIn_wide.2 (CC.out _)).mono ?_; rintro e w2 ⟨rfl, hE1⟩; have HE2 := Lib.hid (HE.out.trans hE1); have HX2 := Lib.hid (HX.out.grow hE1); have HR2 := Lib.hid (HR.out.grow hE1); have x0 := HX2.out.cell 0; have x1 := HX2.out.cell 1; have x2 := HX2.out.cell 2; have y0 := HR2.out.cell 0; have xo := Old.mk HX2.out.lt; have xr := Old.mk HR2.out.lt; clear hE1)
    | (refine ⟨trivial, ?_⟩; gi_at_call 36; refine (callsIn_wide.2 (C0.out _)).mono ?_; rintro e w3 ⟨rfl, rfl⟩)
    | (refine ⟨trivial, ?_⟩; gi_at_call 32; refine (callsIn_wide.2 (CP.out _ _ _ _)).mono ?_; rintro e w3 ⟨rfl, rfl⟩))
  have HM := Lib.hid (show MnI w W H R A c w2.heap.size [] ((w2.alloc (.cells #[.slice none 0 0] 38)).alloc (.cells #[.int .i64 W, .int .i64 H, .slice A R.length c] 24)) from
    ⟨(HX2.out.alloc _).alloc _, (HR2.out.alloc _).alloc _, (HE2.out.alloc _).alloc _, HE2.out.size, none, 0, (Blk.new w2 38 _).alloc _, own_nil _ _ _ _⟩)
  have HVB := Lib.hid (Blk.new' (w2.alloc (.cells #[.slice none 0 0] 38)) 24 #[.int .i64 W, .int .i64 H, .slice A R.length c] (w2.heap.size + 1) (by simp))
  have HVS := Lib.hid (show w.heap.size ≤ ((w2.alloc (.cells #[.slice none 0 0] 38)).alloc (.cells #[.int .i64 W, .int .i64 H, .slice A R.length c] 24)).heap.size from HM.out.ext.size)
  clear x0 x1 x2 y0 xo xr C0 CC CP HE HX HR HE2 HX2 HR2
  generalize (w2.alloc (.cells #[.slice none 0 0] 38)).alloc (.cells #[.int .i64 W, .int .i64 H, .slice A R.length c] 24) = V at *
  obtain ⟨p7, hp7⟩ : ∃ p7, p7 = w2.heap.size := ⟨_, rfl⟩
  rw [← hp7] at HM HVB ⊢
  clear hp7 w2
  refine range_own (gf := 46) (lb := #[.pointer (some ⟨p7 + 1, 0, none⟩)]) rfl (enters_of Try.func46 (by kernel_rfl) rfl) (fun x : Nat => #[.int .i64 ((x % W : Nat) : Int), .int .i64 ((x / W : Nat) : Int)]) (fun pre x => x < R.length ∧ pre.length ≤ x) (idxL R)
    (fun Z => Blk Z (p7 + 1) 24 #[.int .i64 W, .int .i64 H, .slice A R.length c] ∧ Bls Z A R) ?seq (fun _ => rfl)
    (fun pre Z => MnI w W H R A c p7 (pre.filterMap (minuF W H R)) Z ∧ Blk Z (p7 + 1) 24 #[.int .i64 W, .int .i64 H, .slice A R.length c]) ?drew ?put ?cls ?start
    (fun x => { tmps := List.toArray (.agg #[.int .i64 W, .int .i64 H, .slice A R.length c] :: .int .i64 0 :: .pointer (some ⟨w.heap.size, 0, none⟩) :: .pointer (some ⟨w.heap.size + 1, 0, none⟩) :: .slice none 0 0 :: .int .i64 0 :: .int .i64 0 :: .pointer (some ⟨p7, 0, none⟩) :: .int .i64 ((x % W : Nat) : Int) :: .int .i64 ((x / W : Nat) : Int) :: undef :: undef :: undef :: .agg #[.int .i64 W, .int .i64 H, .slice A R.length c] :: .int .i64 0 :: .int .i64 0 :: .bool false :: undef :: .int .i64 0 :: .bool true :: .bool false :: .agg #[.int .i64 W, .int .i64 H, .slice A R.length c] :: .func (.func 46) #[] #[.pointer (some ⟨p7 + 1, 0, none⟩)] :: .int .i64 ((x % W : Nat) : Int) :: .int .i64 ((x / W : Nat) : Int) :: undef :: undef :: undef :: undef :: undef :: undef :: undef :: undef :: undef :: undef :: undef :: undef :: undef :: undef :: undef :: undef :: undef :: undef :: undef :: undef :: undef :: undef :: undef :: undef :: undef :: undef :: undef :: undef :: undef :: undef :: undef :: undef :: undef :: undef :: undef :: undef :: undef :: undef :: undef :: undef :: undef :: undef :: undef :: undef :: undef :: undef :: []), defers := [] }) ?assign ?body ?done
  case seq =>
    intro l J Z h1 h2 h3 h4
    exact PX.out l _ J Z ⟨h1, fun s Y h => (h2 s Y h).1.cell 0, fun s Y h => (h2 s Y h).1.cell 2, fun s Y h => (h2 s Y h).2, h3⟩ h4
  case drew =>
    rintro s Z ⟨h1, h2⟩
    exact ⟨h1.grow ((Ext.refl Z).drew), h2.drew⟩
  case put =>
    rintro s Z r o ⟨h1, h2⟩ hk
    exact ⟨h1.put hk (by have := HVS.out; omega) o, blk_put h2 hk o⟩
  case cls =>
    rintro s Z ⟨h1, h2⟩
    exact ⟨h2, HB.out Z h1.ext⟩
  case start =>
    intro Z hZ
    exact ⟨HM.out.grow hZ, HVB.out.grow hZ⟩
  case assign =>
    intro l x Z K hK
    gi_wp2
    exact hK
  case body =>
    rintro l pre x Z ⟨hI, hB⟩ ⟨hx, hpl⟩
    have hx2 : x < W * H := by rw [← HL.out]; exact hx
    obtain ⟨q1, q2, -⟩ := idx_of hx2
    have hb2 : ((x % W : Nat) : Int) ≤ W - 1 ∧ ((x / W : Nat) : Int) ≤ H - 1 := by omega
    have hbl : (0 : Int) ≤ ((x % W : Nat) : Int) ∧ (0 : Int) ≤ ((x / W : Nat) : Int) := ⟨Int.natCast_nonneg _, Int.natCast_nonneg _⟩
    obtain ⟨hf, hfe⟩ : ∃ hf, hf = (pre ++ [x]).filterMap (minuF W H R) := ⟨_, rfl⟩
    have hsn : hf = (pre.filterMap (minuF W H R)) ++ (minuF W H R x).toList := by
      rw [hfe, List.filterMap_append]
      cases h : minuF W H R x <;> simp [h]
    have hmf : minuF W H R x = if cntN (cP (ringT W H R ((x % W : Nat) : Int) ((x / W : Nat) : Int))) 8 = 1 then some ⟨((x % W : Nat) : Int), ((x / W : Nat) : Int), 1, (((List.range 8).map (ringT W H R ((x % W : Nat) : Int) ((x / W : Nat) : Int))).findIdx id : Nat)⟩ else if 2 < cntN (cP (ringT W H R ((x % W : Nat) : Int) ((x / W : Nat) : Int))) 8 then some ⟨((x % W : Nat) : Int), ((x / W : Nat) : Int), 2, (((List.range 8).map (ringT W H R ((x % W : Nat) : Int) ((x / W : Nat) : Int))).findIdx id : Nat)⟩ else none := by
      rw [← cross_cnt]
      rfl
    rw [hmf] at hsn
    rw [← hfe]
    clear hfe hmf
    have hl0 : (pre.filterMap (minuF W H R)).length ≤ 400 := Nat.le_trans (List.length_filterMap_le _ _) (by have := HNN.out; omega)
    generalize (pre.filterMap (minuF W H R)) = l0 at *
    have ca := fun z hz => CA.out ((x % W : Nat) : Int) ((x / W : Nat) : Int) ⟨by have := hbl.1; omega, by have := HW.out; omega⟩ ⟨by have := hbl.2; omega, by have := HH.out; omega⟩ z hz
    generalize ((x % W : Nat) : Int) = xv at *
    generalize ((x / W : Nat) : Int) = yv at *
    generalize hff : ringT W H R xv yv = f at *
    have hdv : 0 < cntN (cP f) 8 → IntKind.u8.wrap (firstF ((List.range 8).map f)) = (((List.range 8).map f).findIdx id : Nat) := first_wrap f
    have CI := Lib.hid (show ∀ g z, Blk z g 93 #[.bool (f 0), .bool (f 1), .bool (f 2), .bool (f 3), .bool (f 4), .bool (f 5), .bool (f 6), .bool (f 7)] → Calls Try.prog 37 #[.slice (some ⟨g, 0, none⟩) 8 8, .bool true] z fun e w' => e = .returned (.int .i64 (firstF ((List.range 8).map f))) ∧ z = w' from fun g z h => index_any f g 8 z h)
    generalize hfi : firstF ((List.range 8).map f) = fi at *
    obtain ⟨dv, hwd⟩ : ∃ dv, IntKind.u8.wrap fi = dv := ⟨_, rfl⟩
    rw [hwd] at hdv
    generalize (((List.range 8).map f).findIdx id : Nat) = fd at *
    have CR := Lib.hid (show ∀ z, Calls Try.prog 38 #[.agg #[.bool (f 0), .bool (f 1), .bool (f 2), .bool (f 3), .bool (f 4), .bool (f 5), .bool (f 6), .bool (f 7)]] z fun e w' => e = .returned (.int .i64 (cntN (cP f) 8 : Nat)) ∧ Ext z w' from fun z => cross_any f z)
    have hcn : cntN (cP f) 8 ≤ 8 := cnt_le _ _
    generalize cntN (cP f) 8 = cn at *
    clear hff hfi q1 q2 hx2 hpl hx
    have CX := Lib.hid (show ∀ z, Calls Try.prog 36 #[.int .i64 xv, .int .i64 0, .int .i64 ((W : Int) - 1)] z fun e w' => e = .returned (.bool true) ∧ z = w' from fun z => by
      have := withinP_any xv 0 ((W : Int) - 1) z
      rwa [inB_iff.2 ⟨hbl.1, hb2.1⟩] at this)
    have CY := Lib.hid (show ∀ z, Calls Try.prog 36 #[.int .i64 yv, .int .i64 0, .int .i64 ((H : Int) - 1)] z fun e w' => e = .returned (.bool true) ∧ z = w' from fun z => by
      have := withinP_any yv 0 ((H : Int) - 1) z
      rwa [inB_iff.2 ⟨hbl.2, hb2.2⟩] at this)
    have hW := HW.out
    have hH := HH.out
    have HCA := Lib.hid (show ∀ z, Bls z A R → Calls Try.prog 33 #[.agg #[.int .i64 W, .int .i64 H, .slice A R.length c], .int .i64 xv, .int .i64 yv] z fun e w' => e = .returned (.agg #[.bool (f 0), .bool (f 1), .bool (f 2), .bool (f 3), .bool (f 4), .bool (f 5), .bool (f 6), .bool (f 7)]) ∧ Ext z w' from ca)
    have HS := Lib.hid hsn
    have HI := Lib.hid hI
    have HBZ := Lib.hid (HB.out Z hI.ext)
    have HB2 := Lib.hid hB
    have HDV := Lib.hid hdv
    have HL0 := Lib.hid hl0
    have z0 : Z.cell? ⟨w.heap.size, 0, none⟩ = some (.int .i64 W) := hI.box.cell 0
    have z1 : Z.cell? ⟨w.heap.size, 1, none⟩ = some (.int .i64 H) := hI.box.cell 1
    have z2 : Z.cell? ⟨w.heap.size, 2, none⟩ = some (.slice A R.length c) := hI.box.cell 2
    have ob := Old.mk hI.box.lt
    clear hB hI hsn ca hdv hl0 hb2 hbl
    by_cases h1 : cn = 1
    · obtain ⟨A7, c7, h7, ho7⟩ := HI.out.out
      have H7 := Lib.hid h7
      have HO7 := Lib.hid ho7
      have hlt7 := h7.lt
      clear h7 ho7
      have HDD := HDV.out (by omega)
      subst HDD
      subst h1
      have HS2 := Lib.hid (show hf = l0 ++ [⟨xv, yv, 1, (fd : Int)⟩] by rw [HS.out]; rfl)
      gi_wp2_with (first
        | (refine ⟨trivial, ?_⟩; gi_at_call 33; refine (CallsIn.inRound l (callsIn_wide.2 (HCA.out _ HBZ.out))).mono ?_; rintro e w2 ⟨rfl, hE2⟩; have HE2 := Lib.hid hE2; have HG10 := Lib.hid (Blk.new w2 93 #[.bool (f 0), .bool (f 1), .bool (f 2), .bool (f 3), .bool (f 4), .bool (f 5), .bool (f 6), .bool (f 7)]); have H10 := Lib.hid (HG10.out.alloc (.cells #[.int .i64 xv, .int .i64 yv, .int .u8 0, .int .u8 (fd : Int)] 57)); clear hE2)
        | (refine ⟨trivial, ?_⟩; gi_at_call 37; have qq := CallsIn.inRound (n := 3) l (callsIn_wide.2 (CI.out _ _ HG10.out)); refine qq.mono ?_; clear qq; rintro e w3 ⟨rfl, rfl⟩)
        | (refine ⟨trivial, ?_⟩; gi_at_call 38; have qq := CallsIn.inRound (n := 3) l (callsIn_wide.2 (CR.out ((w2.alloc (.cells #[.bool (f 0), .bool (f 1), .bool (f 2), .bool (f 3), .bool (f 4), .bool (f 5), .bool (f 6), .bool (f 7)] 93)).alloc (.cells #[.int .i64 xv, .int .i64 yv, .int .u8 0, .int .u8 (fd : Int)] 57)))); refine qq.mono ?_; clear qq; rintro e w4 ⟨rfl, hE4⟩; have HE4 := Lib.hid (((HE2.out.alloc (.cells #[.bool (f 0), .bool (f 1), .bool (f 2), .bool (f 3), .bool (f 4), .bool (f 5), .bool (f 6), .bool (f 7)] 93)).alloc (.cells #[.int .i64 xv, .int .i64 yv, .int .u8 0, .int .u8 (fd : Int)] 57)).trans hE4); have HI4 := Lib.hid (HI.out.grow HE4.out); have HM4 := Lib.hid ((Blk.new' (w2.alloc (.cells #[.bool (f 0), .bool (f 1), .bool (f 2), .bool (f 3), .bool (f 4), .bool (f 5), .bool (f 6), .bool (f 7)] 93)) 57 #[.int .i64 xv, .int .i64 yv, .int .u8 0, .int .u8 (fd : Int)] (w2.heap.size + 1) (by simp)).grow hE4); have y0 := HI4.out.box.cell 0; have y1 := HI4.out.box.cell 1; have y3 := HI4.out.edge.cell 0; have oy := Old.mk HI4.out.box.lt; have oe := Old.mk HI4.out.edge.lt; have m0 := HM4.out.cell 0; have m1 := HM4.out.cell 1; have m2 := HM4.out.cell 2; have m3 := HM4.out.cell 3; have mf := HM4.out.frozen 2; have om := Old.mk HM4.out.lt; have HB4 := Lib.hid (HB2.out.grow HE4.out); have HEa := Lib.hid (((HE4.out.setCell (p := ⟨w2.heap.size + 1, 2, none⟩) (by have := HE2.out.size; show Z.heap.size ≤ w2.heap.size + 1; omega) (.int .u8 1)).alloc (.cells [.int .i64 xv, .int .i64 yv, .int .u8 1, .int .u8 (fd : Int)].toArray 57))); have H74 := Lib.hid (H7.out.grow HE4.out); have v7 := H74.out.cell 0; have o7 := Old.mk H74.out.lt; have hne7 : p7 ≠ w2.heap.size + 1 := (by have := HE2.out.size; omega); have hne8 : w2.heap.size + 1 ≠ p7 := Ne.symm hne7; clear hE4)
        | (refine ⟨trivial, ?_⟩; gi_at_call 36; with_reducible refine (CallsIn.inRound (n := 3) l (callsIn_wide.2 (CX.out _))).mono ?_; rintro e w5 ⟨rfl, rfl⟩)
        | (refine ⟨trivial, ?_⟩; gi_at_call 36; with_reducible refine (CallsIn.inRound (n := 3) l (callsIn_wide.2 (CY.out _))).mono ?_; rintro e w5 ⟨rfl, rfl⟩)
        | (with_reducible refine wpListIn_append_sl rfl w.heap.size ?aa info38 (.tmp 66) (.tmp 68) rfl (.slice A7 l0.length c7) l0.length (flatG Mi.cellsL l0) rfl (own_grow HO7.out HEa.out) w4.heap.size 1 [.int .i64 xv, .int .i64 yv, .int .u8 1, .int .u8 (fd : Int)] rfl (Blk.new' (w4.setCell ⟨w2.heap.size + 1, 2, none⟩ (.int .u8 1)) 57 _ w4.heap.size (by simp)) rfl ?ac ?ad (by decide) ?ae); rotate_left 3; intro A9 c9 w9 hown9 hg9; have hb9 := (Kp.grown (S := [57]) (B := w.heap.size) (own_grow HO7.out HEa.out) (Nat.le_refl _) (by simp) hg9).blk (H7.out.grow HEa.out) (by simp); have t80 := hb9.cell 0; have t8f := hb9.frozen 0; have o9 := Old.mk hb9.lt; have HB9 := Lib.hid hb9; have HO9 := Lib.hid hown9; have HG9 := Lib.hid hg9; clear hb9 hown9 hg9)
      · obtain ⟨q1, q2⟩ := MnI.more (l' := l0 ++ [⟨xv, yv, 1, (fd : Int)⟩]) (A9 := A9) (c9 := c9) (HI.out.grow HEa.out) (H7.out.grow HEa.out) (own_grow HO7.out HEa.out) (by rw [List.length_append, flatG_app]; exact HO9.out) HG9.out
        rw [List.length_append] at q1 q2
        exact ⟨(keeps_of_ext HEa.out).trans q2.keeps, by rw [HS2.out]; exact q1, q2.blk (HB2.out.grow HEa.out) (by simp)⟩
      · have := HI.out.ext.size
        have := HEa.out.size
        omega
      · intro u hu
        simp only [List.mem_cons, List.not_mem_nil, or_false] at hu
        rcases hu with rfl | rfl | rfl | rfl <;> rfl
      · have := HL0.out
        omega
    · by_cases h2 : 2 < cn
      · obtain ⟨A7, c7, h7, ho7⟩ := HI.out.out
        have H7 := Lib.hid h7
        have HO7 := Lib.hid ho7
        have hlt7 := h7.lt
        clear h7 ho7
        have HDD := HDV.out (by omega)
        subst HDD
        have e1 : ((cn : Int) == 1) = false := by simpa using fun h => h1 (by omega)
        have e2 : decide ((cn : Int) = 1) = false := by simpa using fun h => h1 (by omega)
        have e3 : decide (cn = 1) = false := by simpa using h1
        have e4 : decide ((2 : Int) < (cn : Int)) = true := decide_eq_true (by omega)
        have e5 : decide (2 < cn) = true := decide_eq_true h2
        have HS2 := Lib.hid (show hf = l0 ++ [⟨xv, yv, 2, (fd : Int)⟩] by rw [HS.out]; rw [if_neg h1, if_pos h2]; rfl)
        gi_wp2_with (first
          | (refine ⟨trivial, ?_⟩; gi_at_call 33; refine (CallsIn.inRound l (callsIn_wide.2 (HCA.out _ HBZ.out))).mono ?_; rintro e w2 ⟨rfl, hE2⟩; have HE2 := Lib.hid hE2; have HG10 := Lib.hid (Blk.new w2 93 #[.bool (f 0), .bool (f 1), .bool (f 2), .bool (f 3), .bool (f 4), .bool (f 5), .bool (f 6), .bool (f 7)]); have H10 := Lib.hid (HG10.out.alloc (.cells #[.int .i64 xv, .int .i64 yv, .int .u8 0, .int .u8 (fd : Int)] 57)); clear hE2)
          | (refine ⟨trivial, ?_⟩; gi_at_call 37; have qq := CallsIn.inRound (n := 3) l (callsIn_wide.2 (CI.out _ _ HG10.out)); refine qq.mono ?_; clear qq; rintro e w3 ⟨rfl, rfl⟩)
          | (refine ⟨trivial, ?_⟩; gi_at_call 38; have qq := CallsIn.inRound (n := 3) l (callsIn_wide.2 (CR.out ((w2.alloc (.cells #[.bool (f 0), .bool (f 1), .bool (f 2), .bool (f 3), .bool (f 4), .bool (f 5), .bool (f 6), .bool (f 7)] 93)).alloc (.cells #[.int .i64 xv, .int .i64 yv, .int .u8 0, .int .u8 (fd : Int)] 57)))); refine qq.mono ?_; clear qq; rintro e w4 ⟨rfl, hE4⟩; have HE4 := Lib.hid (((HE2.out.alloc (.cells #[.bool (f 0), .bool (f 1), .bool (f 2), .bool (f 3), .bool (f 4), .bool (f 5), .bool (f 6), .bool (f 7)] 93)).alloc (.cells #[.int .i64 xv, .int .i64 yv, .int .u8 0, .int .u8 (fd : Int)] 57)).trans hE4); have HI4 := Lib.hid (HI.out.grow HE4.out); have HM4 := Lib.hid ((Blk.new' (w2.alloc (.cells #[.bool (f 0), .bool (f 1), .bool (f 2), .bool (f 3), .bool (f 4), .bool (f 5), .bool (f 6), .bool (f 7)] 93)) 57 #[.int .i64 xv, .int .i64 yv, .int .u8 0, .int .u8 (fd : Int)] (w2.heap.size + 1) (by simp)).grow hE4); have y0 := HI4.out.box.cell 0; have y1 := HI4.out.box.cell 1; have y3 := HI4.out.edge.cell 0; have oy := Old.mk HI4.out.box.lt; have oe := Old.mk HI4.out.edge.lt; have m0 := HM4.out.cell 0; have m1 := HM4.out.cell 1; have m2 := HM4.out.cell 2; have m3 := HM4.out.cell 3; have mf := HM4.out.frozen 2; have om := Old.mk HM4.out.lt; have HB4 := Lib.hid (HB2.out.grow HE4.out); have HEa := Lib.hid (((HE4.out.setCell (p := ⟨w2.heap.size + 1, 2, none⟩) (by have := HE2.out.size; show Z.heap.size ≤ w2.heap.size + 1; omega) (.int .u8 2)).alloc (.cells [.int .i64 xv, .int .i64 yv, .int .u8 2, .int .u8 (fd : Int)].toArray 57))); have H74 := Lib.hid (H7.out.grow HE4.out); have v7 := H74.out.cell 0; have o7 := Old.mk H74.out.lt; have hne7 : p7 ≠ w2.heap.size + 1 := (by have := HE2.out.size; omega); have hne8 : w2.heap.size + 1 ≠ p7 := Ne.symm hne7; clear hE4)
          | (refine ⟨trivial, ?_⟩; gi_at_call 36; with_reducible refine (CallsIn.inRound (n := 3) l (callsIn_wide.2 (CX.out _))).mono ?_; rintro e w5 ⟨rfl, rfl⟩)
          | (refine ⟨trivial, ?_⟩; gi_at_call 36; with_reducible refine (CallsIn.inRound (n := 3) l (callsIn_wide.2 (CY.out _))).mono ?_; rintro e w5 ⟨rfl, rfl⟩)
          | (with_reducible refine wpListIn_append_sl rfl w.heap.size ?baa info38 (.tmp 66) (.tmp 68) rfl (.slice A7 l0.length c7) l0.length (flatG Mi.cellsL l0) rfl (own_grow HO7.out HEa.out) w4.heap.size 1 [.int .i64 xv, .int .i64 yv, .int .u8 2, .int .u8 (fd : Int)] rfl (Blk.new' (w4.setCell ⟨w2.heap.size + 1, 2, none⟩ (.int .u8 2)) 57 _ w4.heap.size (by simp)) rfl ?bac ?bad (by decide) ?bae); rotate_left 3; intro A9 c9 w9 hown9 hg9; have hb9 := (Kp.grown (S := [57]) (B := w.heap.size) (own_grow HO7.out HEa.out) (Nat.le_refl _) (by simp) hg9).blk (H7.out.grow HEa.out) (by simp); have t80 := hb9.cell 0; have t8f := hb9.frozen 0; have o9 := Old.mk hb9.lt; have HB9 := Lib.hid hb9; have HO9 := Lib.hid hown9; have HG9 := Lib.hid hg9; clear hb9 hown9 hg9)
        · obtain ⟨q1, q2⟩ := MnI.more (l' := l0 ++ [⟨xv, yv, 2, (fd : Int)⟩]) (A9 := A9) (c9 := c9) (HI.out.grow HEa.out) (H7.out.grow HEa.out) (own_grow HO7.out HEa.out) (by rw [List.length_append, flatG_app]; exact HO9.out) HG9.out
          rw [List.length_append] at q1 q2
          exact ⟨(keeps_of_ext HEa.out).trans q2.keeps, by rw [HS2.out]; exact q1, q2.blk (HB2.out.grow HEa.out) (by simp)⟩
        · have := HI.out.ext.size
          have := HEa.out.size
          omega
        · intro u hu
          simp only [List.mem_cons, List.not_mem_nil, or_false] at hu
          rcases hu with rfl | rfl | rfl | rfl <;> rfl
        · have := HL0.out
          omega
      · have HS2 := Lib.hid (show hf = l0 by rw [HS.out, if_neg h1, if_neg h2]; simp)
        have e1 : ((cn : Int) == 1) = false := by simpa using fun h => h1 (by omega)
        have e2 : decide ((cn : Int) = 1) = false := by simpa using fun h => h1 (by omega)
        have e3 : decide (cn = 1) = false := by simpa using h1
        have e4 : decide ((2 : Int) < (cn : Int)) = false := decide_eq_false (by omega)
        have e5 : decide (2 < cn) = false := by simpa using h2
        gi_wp2_with (first
          | (refine ⟨trivial, ?_⟩; gi_at_call 33; refine (CallsIn.inRound l (callsIn_wide.2 (HCA.out _ HBZ.out))).mono ?_; rintro e w2 ⟨rfl, hE2⟩; have HE2 := Lib.hid hE2; have HG10 := Lib.hid (Blk.new w2 93 #[.bool (f 0), .bool (f 1), .bool (f 2), .bool (f 3), .bool (f 4), .bool (f 5), .bool (f 6), .bool (f 7)]); have H10 := Lib.hid (HG10.out.alloc (.cells #[.int .i64 xv, .int .i64 yv, .int .u8 0, .int .u8 dv] 57)); clear hE2)
          | (refine ⟨trivial, ?_⟩; gi_at_call 37; have qq := CallsIn.inRound (n := 3) l (callsIn_wide.2 (CI.out _ _ HG10.out)); refine qq.mono ?_; clear qq; rintro e w3 ⟨rfl, rfl⟩)
          | (refine ⟨trivial, ?_⟩; gi_at_call 38; have qq := CallsIn.inRound (n := 3) l (callsIn_wide.2 (CR.out ((w2.alloc (.cells #[.bool (f 0), .bool (f 1), .bool (f 2), .bool (f 3), .bool (f 4), .bool (f 5), .bool (f 6), .bool (f 7)] 93)).alloc (.cells #[.int .i64 xv, .int .i64 yv, .int .u8 0, .int .u8 dv] 57)))); refine qq.mono ?_; clear qq; rintro e w4 ⟨rfl, hE4⟩; have HE4 := Lib.hid (((HE2.out.alloc (.cells #[.bool (f 0), .bool (f 1), .bool (f 2), .bool (f 3), .bool (f 4), .bool (f 5), .bool (f 6), .bool (f 7)] 93)).alloc (.cells #[.int .i64 xv, .int .i64 yv, .int .u8 0, .int .u8 dv] 57)).trans hE4); have HI4 := Lib.hid (HI.out.grow HE4.out); have HM4 := Lib.hid ((Blk.new' (w2.alloc (.cells #[.bool (f 0), .bool (f 1), .bool (f 2), .bool (f 3), .bool (f 4), .bool (f 5), .bool (f 6), .bool (f 7)] 93)) 57 #[.int .i64 xv, .int .i64 yv, .int .u8 0, .int .u8 dv] (w2.heap.size + 1) (by simp)).grow hE4); have y0 := HI4.out.box.cell 0; have y1 := HI4.out.box.cell 1; have y3 := HI4.out.edge.cell 0; have oy := Old.mk HI4.out.box.lt; have oe := Old.mk HI4.out.edge.lt; have m0 := HM4.out.cell 0; have m1 := HM4.out.cell 1; have m2 := HM4.out.cell 2; have m3 := HM4.out.cell 3; have mf := HM4.out.frozen 2; have om := Old.mk HM4.out.lt; have HB4 := Lib.hid (HB2.out.grow HE4.out); clear hE4)
          | (refine ⟨trivial, ?_⟩; gi_at_call 36; with_reducible refine (CallsIn.inRound (n := 3) l (callsIn_wide.2 (CX.out _))).mono ?_; rintro e w5 ⟨rfl, rfl⟩)
          | (refine ⟨trivial, ?_⟩; gi_at_call 36; with_reducible refine (CallsIn.inRound (n := 3) l (callsIn_wide.2 (CY.out _))).mono ?_; rintro e w5 ⟨rfl, rfl⟩))
        exact ⟨keeps_of_ext HE4.out, by rw [HS2.out]; exact HI4.out, HB4.out⟩
  case done =>
    rintro D Z hD ⟨hI, hB⟩ hK
    have hm : minuL W H R = (idxL R).filterMap (minuF W H R) := rfl
    rw [← hm] at hI
    obtain ⟨l, hlm⟩ : ∃ l, minuL W H R = l := ⟨_, rfl⟩
    rw [hlm] at hI
    have HLM := Lib.hid hlm
    clear hlm
    obtain ⟨A7, c7, h7, ho7⟩ := hI.out
    have v7 : Z.cell? ⟨p7, 0, none⟩ = some (.slice A7 l.length c7) := h7.cell 0
    have HO7 := Lib.hid ho7
    have HEZ := Lib.hid hI.ext
    have HK := Lib.hid hK
    have HD := Lib.hid (Nat.le_trans HVS.out hD)
    clear hI hB hK hD h7 ho7 hm
    gi_wp2
    refine ⟨by simp, .inl ⟨_, _, rfl, run_takeDeferred HK.out, ?_⟩⟩
    have hne : ∀ g cs t fr, Z.heap[g]? = some (.cells cs t fr) → g ≠ D := fun g cs t fr h e => by
      subst e
      rw [HK.out] at h
      cases h
    refine ⟨.tuple #[.slice A7 l.length c7, .int .i64 0], by simp [results, Try.f16, go_sem], ?_⟩
    rw [HLM.out]
    refine ⟨A7, c7, rfl, ?_, ?_⟩
    · refine ⟨HO7.out.1, ?_⟩
      rcases HO7.out.2 with h2 | ⟨g, cap, cur, hv, hb, hh, q⟩
      · exact .inl h2
      · exact .inr ⟨g, cap, cur, hv, hb, (World.putObj_heap_other (hne _ _ _ _ hh)).trans hh, q⟩
    · exact ext_put HEZ.out HD.out _
end
end Go.Proofs.Ytchplmenkdghcaa
