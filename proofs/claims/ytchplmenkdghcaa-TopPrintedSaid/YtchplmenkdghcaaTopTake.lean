/- The thinning (15): one pass takes pixels. -/
import Derived.Test.YtchplmenkdghcaaTopKeep
import Derived.Test.YtchplmenkdghcaaTopRing
import Derived.Test.YtchplmenkdghcaaTopCnt
namespace Go.Proofs.Ytchplmenkdghcaa
open Go.RowKit Go.Shelf
/-- the places of some pixels -/
def pairL (W : Nat) (l : List Nat) : List Value := l.flatMap fun i => [.int .i64 ((i % W : Nat) : Int), .int .i64 ((i / W : Nat) : Int)]
theorem pairL_len (W : Nat) (l : List Nat) : (pairL W l).length = l.length * 2 := flatG_len (sz := 2) (fun _ => rfl) l
theorem pairL_snoc (W : Nat) (l : List Nat) (i : Nat) : pairL W (l ++ [i]) = pairL W l ++ [.int .i64 ((i % W : Nat) : Int), .int .i64 ((i / W : Nat) : Int)] := by simp [pairL]
theorem info88 : ElemInfo Try.prog 88 95 2 16 := elemInfo (z := .agg #[.int .i64 0, .int .i64 0]) Try.underlying88 (by kernel_rfl) rfl (by decide)
/-- what the thinning keeps -/
structure ThW (w : World) (W H : Nat) (R : List Bool) (A : Option Addr) (c : Nat) (Ds : List Nat) (X : World) : Prop where
  box : Blk X w.heap.size 24 #[.int .i64 W, .int .i64 H, .slice A R.length c]
  res : Blk X (w.heap.size + 1) 24 #[.int .i64 0, .int .i64 0, .slice none 0 0]
  row : X.ownsRow (w.heap.size + 2) 4 1 (.slice A R.length c) R.length (blsV R)
  ext : Ext w X
  marks : Marks (w.heap.size + 2) Ds X
theorem ThW.keep {w : World} {W H : Nat} {R : List Bool} {A : Option Addr} {c : Nat} {Ds : List Nat} {X X' : World} {S : List TypeId} {B : Nat} (h : ThW w W H R A c Ds X) (k : Kp S B X X') (h24 : 24 ∉ S) (h4 : 4 ∉ S) (hB : w.heap.size ≤ B) : ThW w W H R A c Ds X' :=
  ⟨k.blk h.box h24, k.blk h.res h24, k.own h.row h4, k.ext h.ext hB, k.marks h.marks⟩
theorem ThW.bls {w : World} {W H : Nat} {R : List Bool} {A : Option Addr} {c : Nat} {Ds : List Nat} {X : World} (h : ThW w W H R A c Ds X) : Bls X A R := bls_of_own h.row
/-- within a pass -/
structure TkI (w : World) (W H : Nat) (R : List Bool) (A : Option Addr) (c : Nat) (Ds : List Nat) (p7 p8 d : Nat) (l : List Nat) (X : World) : Prop where
  th : ThW w W H R A c Ds X
  b7 : Blk X p7 3 #[.int .i64 d]
  ord : w.heap.size ≤ p8
  b8 : ∃ A8 c8, Blk X p8 88 #[.slice A8 l.length c8] ∧ X.ownsRow (w.heap.size) 95 2 (.slice A8 l.length c8) l.length (pairL W l)
theorem TkI.keep {w : World} {W H : Nat} {R : List Bool} {A : Option Addr} {c : Nat} {Ds : List Nat} {p7 p8 d : Nat} {l : List Nat} {X X' : World} (h : TkI w W H R A c Ds p7 p8 d l X) (k : Kp [] 0 X X') (hE : Ext w X') : TkI w W H R A c Ds p7 p8 d l X' := by
  obtain ⟨A8, c8, h1, h2⟩ := h.b8
  exact ⟨⟨k.blk h.th.box (by simp), k.blk h.th.res (by simp), k.own h.th.row (by simp), hE, k.marks h.th.marks⟩, k.blk h.b7 (by simp), h.ord, A8, c8, k.blk h1 (by simp), k.own h2 (by simp)⟩
theorem TkI.grow {w : World} {W H : Nat} {R : List Bool} {A : Option Addr} {c : Nat} {Ds : List Nat} {p7 p8 d : Nat} {l : List Nat} {X X' : World} (h : TkI w W H R A c Ds p7 p8 d l X) (k : Ext X X') : TkI w W H R A c Ds p7 p8 d l X' := h.keep (.of_ext k) (h.th.ext.trans k)
theorem TkI.put {w : World} {W H : Nat} {R : List Bool} {A : Option Addr} {c : Nat} {Ds : List Nat} {p7 p8 d k : Nat} {l : List Nat} {X : World} {r : Loop} (h : TkI w W H R A c Ds p7 p8 d l X) (hk : X.heap[k]? = some (.loop r)) (hw : w.heap.size ≤ k) (o : Obj) : TkI w W H R A c Ds p7 p8 d l (X.putObj k o) := by
  obtain ⟨A8, c8, h1, h2⟩ := h.b8
  exact ⟨⟨blk_put h.th.box hk o, blk_put h.th.res hk o, own_put h.th.row hk o, ext_put h.th.ext hw o, marks_put h.th.marks hk o⟩, blk_put h.b7 hk o, h.ord, A8, c8, blk_put h1 hk o, own_put h2 hk o⟩
/-- one more is taken -/
theorem TkI.more {w : World} {W H : Nat} {R : List Bool} {A : Option Addr} {c : Nat} {Ds : List Nat} {p7 p8 d : Nat} {l l' : List Nat} {X X' : World} {A8 A9 : Option Addr} {c8 c9 : Nat} (h : TkI w W H R A c Ds p7 p8 d l X) (h1 : Blk X p8 88 #[.slice A8 l.length c8]) (h2 : X.ownsRow (w.heap.size) 95 2 (.slice A8 l.length c8) l.length (pairL W l))
    (h3 : X'.ownsRow (w.heap.size) 95 2 (.slice A9 l'.length c9) l'.length (pairL W l')) (h4 : X.grownBy X' (Value.slice A8 l.length c8).ownBlock) : TkI w W H R A c Ds p7 p8 d l' (X'.setCell ⟨p8, 0, none⟩ (.slice A9 l'.length c9)) ∧ Kp [88, 95] w.heap.size X (X'.setCell ⟨p8, 0, none⟩ (.slice A9 l'.length c9)) := by
  have k1 : Kp [88, 95] w.heap.size X X' := Kp.grown h2 (Nat.le_refl _) (by simp) h4
  have b8 : Blk X' p8 88 #[.slice A8 l.length c8] := (Kp.grown (S := [95]) (B := w.heap.size) h2 (Nat.le_refl _) (by simp) h4).blk h1 (by simp)
  have k2 : Kp [88, 95] w.heap.size X' (X'.setCell ⟨p8, 0, none⟩ (.slice A9 l'.length c9)) := Kp.set_ b8 h.ord (by simp) 0 _
  have k := k1.trans k2
  exact ⟨⟨h.th.keep k (by simp) (by simp) (Nat.le_refl _), k.blk h.b7 (by simp), h.ord, A9, c9, b8.set_ 0 _, own_set_blk h3 b8 (by simp) 0 _⟩, k⟩
section
attribute [local go_sem] Oper.semAt_some
set_option maxRecDepth 100000 in
set_option maxHeartbeats 2000000 in
theorem take_wp (v0 v2 v3 v4 v5 v6 v9 v10 v11 v12 v13 v14 v15 v16 v17 v18 v19 v20 v21 v22 v23 v24 v25 v26 v27 v28 v29 v30 v31 v32 v33 v34 v35 v36 v37 v38 v39 v40 v41 v42 v43 v44 v45 v46 v47 v48 v49 v50 v51 v52 v53 v54 v55 v56 v57 v58 v59 v60 v61 v62 v63 v64 v65 v66 v67 v68 v69 v70 v71 v72 v73 v74 v75 v76 v77 v78 v79 : Value) (ds : List Deferred) (w X : World) (W H : Nat) (R : List Bool) (A : Option Addr) (c : Nat) (Ds : List Nat) (p7 p8 d : Nat) (hW : 1 ≤ W ∧ W ≤ 20) (hH : 1 ≤ H ∧ H ≤ 20) (hl : R.length = W * H) (hd : d < 8) (hI : TkI w W H R A c Ds p7 p8 d [] X) (Q : Exit → Act → World → Prop)
    (hQ : ∀ D X', TkI w W H R A c (D :: Ds) p7 p8 d (takenL W H d R) X' → Q .normal { tmps := List.toArray (v0 :: .pointer (some ⟨w.heap.size, 0, none⟩) :: v2 :: v3 :: v4 :: v5 :: v6 :: .pointer (some ⟨p7, 0, none⟩) :: .pointer (some ⟨p8, 0, none⟩) :: v9 :: v10 :: v11 :: v12 :: v13 :: v14 :: v15 :: v16 :: v17 :: v18 :: v19 :: v20 :: v21 :: v22 :: v23 :: v24 :: v25 :: v26 :: v27 :: v28 :: .agg #[.int .i64 W, .int .i64 H, .slice A R.length c] :: .func (.func 46) #[] #[.pointer (some ⟨X.heap.size, 0, none⟩)] :: v31 :: v32 :: v33 :: v34 :: v35 :: v36 :: v37 :: v38 :: v39 :: v40 :: v41 :: v42 :: v43 :: v44 :: v45 :: v46 :: v47 :: v48 :: v49 :: v50 :: v51 :: v52 :: v53 :: v54 :: v55 :: v56 :: v57 :: v58 :: v59 :: v60 :: v61 :: v62 :: v63 :: v64 :: v65 :: v66 :: v67 :: v68 :: v69 :: v70 :: v71 :: v72 :: v73 :: v74 :: v75 :: v76 :: v77 :: v78 :: v79 :: []), defers := markD D :: ds } X') :
    (subC [1, 1, 1, 0, 1, 0, 0, 1, 0, 1, 1, 0, 0, 1, 1, 0, 0, 1, 1, 0] (Try.f15.body.getD .skip)).wpIn Fence.wide 4 Try.prog Q { tmps := List.toArray (v0 :: .pointer (some ⟨w.heap.size, 0, none⟩) :: v2 :: v3 :: v4 :: v5 :: v6 :: .pointer (some ⟨p7, 0, none⟩) :: .pointer (some ⟨p8, 0, none⟩) :: v9 :: v10 :: v11 :: v12 :: v13 :: v14 :: v15 :: v16 :: v17 :: v18 :: v19 :: v20 :: v21 :: v22 :: v23 :: v24 :: v25 :: v26 :: v27 :: v28 :: v29 :: v30 :: v31 :: v32 :: v33 :: v34 :: v35 :: v36 :: v37 :: v38 :: v39 :: v40 :: v41 :: v42 :: v43 :: v44 :: v45 :: v46 :: v47 :: v48 :: v49 :: v50 :: v51 :: v52 :: v53 :: v54 :: v55 :: v56 :: v57 :: v58 :: v59 :: v60 :: v61 :: v62 :: v63 :: v64 :: v65 :: v66 :: v67 :: v68 :: v69 :: v70 :: v71 :: v72 :: v73 :: v74 :: v75 :: v76 :: v77 :: v78 :: v79 :: []), defers := ds } X := by
  have HQ := Lib.hid hQ
  have HI := Lib.hid hI
  have x0 : X.cell? ⟨w.heap.size, 0, none⟩ = some (.int .i64 W) := hI.th.box.cell 0
  have x1 : X.cell? ⟨w.heap.size, 1, none⟩ = some (.int .i64 H) := hI.th.box.cell 1
  have x2 : X.cell? ⟨w.heap.size, 2, none⟩ = some (.slice A R.length c) := hI.th.box.cell 2
  have HL := Lib.hid hl
  have hn : R.length ≤ 400 := by rw [hl]; exact Nat.le_trans (Nat.mul_le_mul hW.2 hH.2) (by omega)
  have CA := Lib.hid (fun (x y : Int) hx hy z hz => around_any W H R A c x y hW.2 hH.2 hl hx hy z hz)
  have PX := Lib.hid (fun l cB J V h hJ => pix_any l cB W c A R hW hn J V h hJ)
  have HD := Lib.hid hd
  have HW := Lib.hid hW
  have HHH := Lib.hid hH
  have HNN := Lib.hid hn
  clear hQ hI hl hn hd hW hH
  have CP := Lib.hid (fun (v0 v1 v2 : Value) w => pixels_any v0 v1 v2 w)
  conv => arg 4; whnf
  gi_wp2_with (refine ⟨trivial, ?_⟩; gi_at_call 32; refine (callsIn_wide.2 (CP.out _ _ _ _)).mono ?_; rintro e w2 ⟨rfl, rfl⟩)
  have hVs : (X.alloc (.cells #[.int .i64 W, .int .i64 H, .slice A R.length c] 24)).heap.size = X.heap.size + 1 := by simp
  have hXp : w.heap.size + 1 < X.heap.size := HI.out.th.res.lt
  have HV := Lib.hid (Blk.new X 24 #[.int .i64 W, .int .i64 H, .slice A R.length c])
  have HIV := Lib.hid (HI.out.grow ((Ext.refl X).alloc (.cells #[.int .i64 W, .int .i64 H, .slice A R.length c] 24)))
  clear x0 x1 x2 CP
  generalize hV : X.alloc (.cells #[.int .i64 W, .int .i64 H, .slice A R.length c] 24) = V at *
  clear hV
  have HVS := Lib.hid hVs
  have HXP := Lib.hid hXp
  clear hVs hXp
  refine range_own (gf := 46) (lb := #[.pointer (some ⟨X.heap.size, 0, none⟩)]) rfl (enters_of Try.func46 (by kernel_rfl) rfl) (fun x : Nat => #[.int .i64 ((x % W : Nat) : Int), .int .i64 ((x / W : Nat) : Int)]) (fun pre x => x < R.length ∧ pre.length ≤ x) (idxL R)
    (fun Z => Blk Z X.heap.size 24 #[.int .i64 W, .int .i64 H, .slice A R.length c] ∧ Bls Z A R) ?seq (fun _ => rfl)
    (fun pre Z => TkI w W H R A c Ds p7 p8 d (pre.filter fun i => !ringT W H R ((i % W : Nat) : Int) ((i / W : Nat) : Int) d) Z ∧ Blk Z X.heap.size 24 #[.int .i64 W, .int .i64 H, .slice A R.length c]) ?drew ?put ?cls ?start
    (fun x => { tmps := List.toArray (v0 :: .pointer (some ⟨w.heap.size, 0, none⟩) :: v2 :: v3 :: v4 :: v5 :: v6 :: .pointer (some ⟨p7, 0, none⟩) :: .pointer (some ⟨p8, 0, none⟩) :: .int .i64 ((x % W : Nat) : Int) :: .int .i64 ((x / W : Nat) : Int) :: v11 :: v12 :: v13 :: v14 :: v15 :: v16 :: v17 :: v18 :: v19 :: v20 :: v21 :: v22 :: v23 :: v24 :: v25 :: v26 :: v27 :: v28 :: .agg #[.int .i64 W, .int .i64 H, .slice A R.length c] :: .func (.func 46) #[] #[.pointer (some ⟨X.heap.size, 0, none⟩)] :: .int .i64 ((x % W : Nat) : Int) :: .int .i64 ((x / W : Nat) : Int) :: v33 :: v34 :: v35 :: v36 :: v37 :: v38 :: v39 :: v40 :: v41 :: v42 :: v43 :: v44 :: v45 :: v46 :: v47 :: v48 :: v49 :: v50 :: v51 :: v52 :: v53 :: v54 :: v55 :: v56 :: v57 :: v58 :: v59 :: v60 :: v61 :: v62 :: v63 :: v64 :: v65 :: v66 :: v67 :: v68 :: v69 :: v70 :: v71 :: v72 :: v73 :: v74 :: v75 :: v76 :: v77 :: v78 :: v79 :: []), defers := [] }) ?assign ?body ?done
  case seq =>
    intro l J Z h1 h2 h3 h4
    exact PX.out l _ J Z ⟨h1, fun s Y h => (h2 s Y h).1.cell 0, fun s Y h => (h2 s Y h).1.cell 2, fun s Y h => (h2 s Y h).2, h3⟩ h4
  case drew =>
    rintro s Z ⟨h1, h2⟩
    exact ⟨h1.grow ((Ext.refl Z).drew), h2.drew⟩
  case put =>
    rintro s Z r o ⟨h1, h2⟩ hk
    exact ⟨h1.put hk (by have := HVS.out; have := HXP.out; omega) o, blk_put h2 hk o⟩
  case cls =>
    rintro s Z ⟨h1, h2⟩
    exact ⟨h2, h1.th.bls⟩
  case start =>
    intro Z hZ
    exact ⟨HIV.out.grow hZ, HV.out.grow hZ⟩
  case assign =>
    intro l x Z K hK
    gi_wp2
    exact hK
  case body =>
    rintro l pre x Z ⟨hI, hB⟩ ⟨hx, hpl⟩
    have hbx : ((x % W : Nat) : Int) ≤ 100 ∧ ((x / W : Nat) : Int) ≤ 100 := by
      have h1 := Nat.mod_le x W
      have h2 := Nat.div_le_self x W
      have h3 : x < W * H := by rw [← HL.out]; exact hx
      have h4 := Nat.mod_lt x (show 0 < W by have := HW.out; omega)
      have h5 : x / W < H := Nat.div_lt_of_lt_mul h3
      have := HW.out
      have := HHH.out
      omega
    obtain ⟨hf, hfe⟩ : ∃ hf, hf = (pre ++ [x]).filter (fun i => !ringT W H R ((i % W : Nat) : Int) ((i / W : Nat) : Int) d) := ⟨_, rfl⟩
    have hsn : hf = (pre.filter fun i => !ringT W H R ((i % W : Nat) : Int) ((i / W : Nat) : Int) d) ++ if !ringT W H R ((x % W : Nat) : Int) ((x / W : Nat) : Int) d then [x] else [] := by
      rw [hfe, List.filter_append]
      simp only [List.filter_cons, List.filter_nil]
    rw [← hfe]
    clear hfe
    have hl0 : (pre.filter fun i => !ringT W H R ((i % W : Nat) : Int) ((i / W : Nat) : Int) d).length ≤ 400 := Nat.le_trans (List.length_filter_le _ _) (by have := HNN.out; omega)
    generalize (pre.filter fun i => !ringT W H R ((i % W : Nat) : Int) ((i / W : Nat) : Int) d) = l0 at *
    have hxy : (0 : Int) ≤ ((x % W : Nat) : Int) ∧ (0 : Int) ≤ ((x / W : Nat) : Int) := ⟨Int.natCast_nonneg _, Int.natCast_nonneg _⟩
    have hmo : Try.prog.follows .mixedOrders = true := by kernel_rfl
    have HPS := Lib.hid (pairL_snoc W l0 x)
    have ca := fun z hz => CA.out ((x % W : Nat) : Int) ((x / W : Nat) : Int) ⟨by have := hxy.1; exact Int.le_trans (by decide) this, hbx.1⟩ ⟨by have := hxy.2; exact Int.le_trans (by decide) this, hbx.2⟩ z hz
    generalize ((x % W : Nat) : Int) = xv at *
    generalize ((x / W : Nat) : Int) = yv at *
    clear hbx hxy hx hpl
    have hix : ∀ z, (Instr.index 93 (.agg (rA (ringT W H R xv yv))) (.int .i64 (d : Int))).run Try.prog z = .ok (.bool (ringT W H R xv yv d)) z := fun z => run_idx93 _ HD.out z
    generalize hb : ringT W H R xv yv d = b at *
    generalize ringT W H R xv yv = f at *
    clear hb
    have HCA := Lib.hid ca
    have HS := Lib.hid hsn
    have HI2 := Lib.hid hI
    have z0 : Z.cell? ⟨w.heap.size, 0, none⟩ = some (.int .i64 W) := hI.th.box.cell 0
    have z1 : Z.cell? ⟨w.heap.size, 1, none⟩ = some (.int .i64 H) := hI.th.box.cell 1
    have z2 : Z.cell? ⟨w.heap.size, 2, none⟩ = some (.slice A R.length c) := hI.th.box.cell 2
    have z7 : Z.cell? ⟨p7, 0, none⟩ = some (.int .i64 d) := hI.b7.cell 0
    have o1 := Old.mk hI.th.box.lt
    have o7 := Old.mk hI.b7.lt
    have HB2 := Lib.hid hB
    have HBD := Lib.hid (show Bls Z.drew A R from (hI.grow ((Ext.refl Z).drew)).th.bls)
    clear hB hI hsn ca
    gi_wp2
    refine wpIn_mono (Q := fun e a' w' => e = Exit.normal ∧ a' = { tmps := List.toArray (v0 :: .pointer (some ⟨w.heap.size, 0, none⟩) :: v2 :: v3 :: v4 :: v5 :: v6 :: .pointer (some ⟨p7, 0, none⟩) :: .pointer (some ⟨p8, 0, none⟩) :: .int .i64 xv :: .int .i64 yv :: v11 :: v12 :: v13 :: v14 :: v15 :: v16 :: v17 :: v18 :: v19 :: v20 :: v21 :: v22 :: v23 :: v24 :: v25 :: v26 :: v27 :: v28 :: .agg #[.int .i64 W, .int .i64 H, .slice A R.length c] :: .func (.func 46) #[] #[.pointer (some ⟨X.heap.size, 0, none⟩)] :: .int .i64 xv :: .int .i64 yv :: .agg #[.int .i64 W, .int .i64 H, .slice A R.length c] :: .int .i64 xv :: .int .i64 yv :: .agg (rA f) :: .int .i64 d :: .bool b :: .bool (!b) :: v40 :: v41 :: v42 :: v43 :: v44 :: v45 :: v46 :: v47 :: v48 :: v49 :: v50 :: v51 :: v52 :: v53 :: v54 :: v55 :: v56 :: v57 :: v58 :: v59 :: v60 :: v61 :: v62 :: v63 :: v64 :: v65 :: v66 :: v67 :: v68 :: v69 :: v70 :: v71 :: v72 :: v73 :: v74 :: v75 :: v76 :: v77 :: v78 :: v79 :: []), defers := [] } ∧ ∃ z, w' = ext Z z) ?_ ?_
    · gi_region_with_o (refine ⟨trivial, ?_⟩; gi_at_call 33; refine (CallsIn.inRound l (callsIn_wide.2 (HCA.out _ HBD.out))).mono ?_; rintro e w' ⟨rfl, hw'⟩; obtain ⟨zz, rfl⟩ : ∃ zz, w' = ext Z.drew zz := ⟨w', (ext_of hw').symm⟩; clear hw')
      all_goals exact ⟨rfl, rfl, _, (ext_of (((Ext.refl Z).drew).ext _)).symm⟩
    rintro _ _ Y ⟨rfl, rfl, z, hY⟩
    have hE : Ext Z Y := by rw [hY]; exact Ext.ext_self Z z
    clear hY z z0 z1 z2 z7 o1 o7 hix HBD HCA
    have HI3 := Lib.hid (HI2.out.grow hE)
    have HB3 := Lib.hid (HB2.out.grow hE)
    have HK3 := Lib.hid (keeps_of_ext hE)
    clear hE
    cases b
    · have HS2 := Lib.hid (show hf = l0 ++ [x] by rw [HS.out]; rfl)
      clear HS
      obtain ⟨A8, c8, h8, ho8⟩ := HI3.out.b8
      have y8 : Y.cell? ⟨p8, 0, none⟩ = some (.slice A8 l0.length c8) := h8.cell 0
      have H8 := Lib.hid h8
      have HO8 := Lib.hid ho8
      have HL0 := Lib.hid hl0
      have old8 := Old.mk h8.lt
      clear h8 ho8 hl0
      gi_wp2_with ((with_reducible refine wpListIn_append_sl rfl w.heap.size ?aa info88 (.tmp 40) (.tmp 44) rfl (.slice A8 l0.length c8) l0.length (pairL W l0) rfl (own_grow HO8.out ((Ext.refl Y).alloc _)) Y.heap.size 1 [.int .i64 xv, .int .i64 yv] rfl (Blk.new Y 95 _) rfl ?ac ?ad (by decide) ?ae); rotate_left 3; intro A9 c9 w9 hown9 hg9; have hb9 := (Kp.grown (S := [95]) (B := w.heap.size) (own_grow HO8.out ((Ext.refl Y).alloc (.cells [.int .i64 xv, .int .i64 yv].toArray 95))) (Nat.le_refl _) (by simp) hg9).blk (H8.out.alloc (.cells [.int .i64 xv, .int .i64 yv].toArray 95)) (by simp); have t80 := hb9.cell 0; have t8f := hb9.frozen 0; have o9 := Old.mk hb9.lt; have HB9 := Lib.hid hb9; have HO9 := Lib.hid hown9; have HG9 := Lib.hid hg9; clear hb9 hown9 hg9)
      · obtain ⟨q1, q2⟩ := TkI.more (l' := l0 ++ [x]) (A9 := A9) (c9 := c9) (HI3.out.grow ((Ext.refl Y).alloc (.cells [.int .i64 xv, .int .i64 yv].toArray 95))) (H8.out.alloc _) (own_grow HO8.out ((Ext.refl Y).alloc _)) (by rw [List.length_append, HPS.out]; exact HO9.out) HG9.out
        rw [List.length_append] at q1 q2
        exact ⟨HK3.out.trans ((keeps_of_ext ((Ext.refl Y).alloc _)).trans q2.keeps), by rw [HS2.out]; exact q1, q2.blk (HB3.out.alloc _) (by simp)⟩
      · have := HI3.out.th.ext.size
        simp
        omega
      · intro u hu
        simp only [List.mem_cons, List.not_mem_nil, or_false] at hu
        rcases hu with rfl | rfl <;> rfl
      · have := HL0.out
        omega
    · have HS2 := Lib.hid (show hf = l0 by rw [HS.out]; simp)
      gi_wp2
      exact ⟨HK3.out, by rw [HS2.out]; exact HI3.out, HB3.out⟩
  case done =>
    rintro D Z hD ⟨hI, hB⟩ hK
    refine HQ.out D Z ⟨⟨hI.th.box, hI.th.res, hI.th.row, hI.th.ext, ?_⟩, hI.b7, hI.ord, hI.b8⟩
    have hv := HVS.out
    have hx := HXP.out
    refine ⟨List.nodup_cons.2 ⟨fun hm => ?_, hI.th.marks.nd⟩, fun E hE => ?_⟩
    · have := (Array.getElem?_eq_some_iff.1 (HI.out.th.marks.at' D hm).2).1
      omega
    · rcases List.mem_cons.1 hE with rfl | hE
      · exact ⟨by omega, hK⟩
      · exact hI.th.marks.at' E hE
end
end Go.Proofs.Ytchplmenkdghcaa
