/- VeilUniform: the walk where all guards pass (UniB). -/
import Derived.Test.YtfdcapblgdlkaaaUniLaw
import Derived.Test.YtfdcapblgdlkaaaEq2
import Derived.Test.YtfdcapblgdlkaaaAllo
namespace Go.Proofs.Ytfdcapblgdlkaaa
open Go.RowKit

theorem blk_rs {w : World} {g : Nat} {d : Dl} (h : Blk w g 42 d.cells) (r : Int) : Blk (w.setCell ⟨g, 46, none⟩ (.int .u8 r)) g 42 (withRS d r).cells := by
  rw [← withRS_set]; exact h.set_ 46 _
set_option maxRecDepth 100000 in
set_option maxHeartbeats 16000000 in
theorem uniB_good (d : Dl) (lim : Int) (x y : BitVec 16) (s : Nat → Int) (z : Int) (hd : d.fine) (hl : 0 ≤ lim ∧ lim ≤ 15) (hx : fitB 15 x = true) (hy : fitB 15 y = true) (hs : ∀ i, i < 15 → 0 ≤ s i ∧ s i < 256) (hz : 0 ≤ z ∧ z < 256) (w : World) : Calls Try.prog 11 #[d.val, .int .i64 lim, .int .u16 (uv x), .int .u16 (uv y), .agg (A15 s), .int .u8 z, .bool true] w fun e w' => e = .returned (.bool true) ∧ Ext w w' := by
  have CV := fun w => validDeal_any d hd.ok w
  rw [hd.okB] at CV
  replace CV := Lib.hid CV
  have c0 : decide (lim < 0) = false := by simp; omega
  have c1 : decide (15 < lim) = false := by simp; omega
  have FX := fun w => fits_any 15 (by omega) x w
  have FY := fun w => fits_any 15 (by omega) y w
  rw [hx] at FX
  rw [hy] at FY
  replace FX := Lib.hid FX
  replace FY := Lib.hid FY
  obtain ⟨T, V, P, Q, R, S, hrun, s1, s2, s3, s4, s5, s6, s7⟩ := uniB_run hd hl hx hy s z
  have hrr := hd.rs
  obtain ⟨r, hr⟩ : ∃ r, r = (d.rs + (z % 31 - T.s) + 31) % 31 := ⟨_, rfl⟩
  rw [← hr] at hrun
  have CP := Lib.hid hrun.one
  have CQ := Lib.hid hrun.two
  have HT := Lib.hid hrun.ok
  have hvd := hrun.d
  have hve := hrun.e
  have hvm := hrun.m
  have HRng := Lib.hid (And.intro hrr (And.intro hr (And.intro s4 (And.intro s5 (And.intro s6 s7)))))
  have HD := Lib.hid hd
  clear hrun hx hy hl hrr hr s4 s5 s6 s7
  go_enter Try.func11, Try.ntmps11
  go_wp2_with fail
  refine Calls.ext (alive_any _) fun z0 => ?_
  have HB := Lib.hid (((Blk.new w 42 d.cells).alloc (.cells (A15 s) 22)).ext z0)
  have HS := Lib.hid ((Blk.new' (w.alloc (.cells d.cells 42)) 22 (A15 s) (w.heap.size + 1) (by simp)).ext z0)
  have HE := Lib.hid ((((Ext.refl w).alloc (.cells d.cells 42)).alloc (.cells (A15 s) 22)).ext z0)
  generalize ext ((w.alloc (.cells d.cells 42)).alloc (.cells (A15 s) 22)) z0 = V0 at *
  go_wp2_with (refine wpList_load_row rfl 42 (.tmp 7) rfl w.heap.size rfl 42 d.cells (0, 0) _ HB.out Try.underlying42 rfl (info42 d) ?_)
  refine Calls.ext (CV.out _) fun z1 => ?_
  go_wp2_with fail
  refine Calls.same (FX.out _) ?_
  go_wp2_with fail
  refine Calls.same (FY.out _) ?_
  go_wp2_with (first | ((with_reducible refine wpList_deal 16 50 d 221 ?_ ?_); exact ⟨rfl, rfl, rfl, rfl, rfl, rfl, rfl, rfl, rfl⟩; intro bn1 V1 hn1 hE1 Nd1; have HS1 := Lib.hid ((HS.out.ext z1).grow hE1); have HC1 := Lib.hid (Nd1); have HE1 := Lib.hid ((HE.out.ext z1).trans hE1); have lGG := Lib.hid (show w.heap.size + 1 < bn1 from Nat.lt_of_lt_of_le (HS.out.ext z1).lt hn1)) | ((with_reducible refine pre_op (.load 42 (.tmp 7)) ?_); refine wpList_load_row rfl 42 (.tmp 7) rfl (w.heap.size) rfl 42 d.cells (0, 0) _ (HB.out.ext z1) Try.underlying42 rfl (info42 _) ?_))
  generalize bn1 = G at *
  clear HB HS HE CV FX FY c0 c1 hn1 hE1
  have lG : w.heap.size + 1 < G := lGG.out
  go_loopw [17, 51] (fun _ i wr => ∃ k : Nat, k ≤ 15 ∧ i = .int .i64 k ∧ Blk wr (w.heap.size + 1) 22 (A15 (mixF (uniS s) s k)) ∧ Blk wr G 42 (uniB d s y k).cells ∧ Ext w wr) (fun _ i _ => 15 - (intOf i).toNat)
  case atStart => exact ⟨0, by omega, rfl, by rw [mixF_zero]; exact HS1.out, by rw [uniB_zero]; exact HC1.out, HE1.out⟩
  case round =>
    obtain ⟨k, hk, rfl, hS, hC, hE⟩ := hrel
    have HS2 := Lib.hid hS
    have HC2 := Lib.hid hC
    have HE2 := Lib.hid hE
    clear HS1 HC1 HE1
    by_cases hk15 : k < 15
    · have hk2 : (k : Int) < 15 := by omega
      have h1 := uv_shr y k
      have h2 := bit_val y k
      have hm1 : min k 16 = k := by omega
      have hm2 : min k 64 = k := by omega
      have hb := bitI_in y k
      have cs : wr.cell? ⟨w.heap.size + 1, k, none⟩ = some (.int .u8 (s k)) := by rw [hS.cell, A15_at _ _ hk15, mixF_ge _ _ (Nat.le_refl k)]
      have fs := hS.frozen k
      have cc : wr.cell? ⟨G, (15 + k), none⟩ = some (.int .u8 (d.b k)) := by
        rw [hC.cell, Dl.at_b _ k hk15]
        show some (Value.int .u8 (mixF _ _ k k)) = _
        rw [mixF_ge _ _ (Nat.le_refl k)]
      have fc := hC.frozen (15 + k)
      have hsk := hs k hk15
      have hsk1 := hsk.1
      have hsk2 := hsk.2
      have HSetS := Lib.hid (show (A15 (mixF (uniS s) s k)).setIfInBounds k (.int .u8 (s k % 31)) = A15 (mixF (uniS s) s (k + 1)) from A15_mix (uniS s) s k hk15)
      have HSetC := Lib.hid (show (uniB d s y k).cells.setIfInBounds (15 + k) (.int .u8 ((bitI y k - s k % 31 + 31) % 31)) = (uniB d s y (k + 1)).cells from uniB_set d s y k hk15)
      have hne : w.heap.size + 1 ≠ G := by omega
      have hne2 : G ≠ w.heap.size + 1 := by omega
      clear hS hC hE CP CQ hsk
      generalize bitI y k = v at *
      generalize s k = sk at *
      have hrm : Int.tmod sk 31 = sk % 31 := Int.tmod_eq_emod_of_nonneg hsk1
      have hrb : 0 ≤ sk % 31 ∧ sk % 31 < 31 := by omega
      generalize sk % 31 = rk at *
      have hvr : 0 ≤ v - rk + 31 ∧ v - rk + 31 < 63 := by omega
      have hvm2 : Int.tmod (v - rk + 31) 31 = (v - rk + 31) % 31 := Int.tmod_eq_emod_of_nonneg hvr.1
      have hvb : 0 ≤ (v - rk + 31) % 31 ∧ (v - rk + 31) % 31 < 31 := by omega
      generalize (v - rk + 31) % 31 = vk at *
      go_wp2_with fail
      go_region
      all_goals
        go_wp2_with fail
        refine ⟨⟨k + 1, by omega, by go_num, ?_, ?_, ?_⟩, by simp [intOf]; omega⟩
        · rw [← HSetS.out]
          exact (HS2.out.set_ k _).drew.far (by show w.heap.size + 1 ≠ G; omega) _
        · rw [← HSetC.out]
          exact ((HC2.out.far (by show G ≠ w.heap.size + 1; omega) _).drew.set_ (15 + k) _)
        · exact (HE2.out.setCell (by show w.heap.size ≤ w.heap.size + 1; omega) _).drew.setCell (by show w.heap.size ≤ G; omega) _
    · obtain rfl : k = 15 := by omega
      have eS : A15 (mixF (uniS s) s 15) = A15 (uniS s) := A15_congr fun i hi => mixF_lt _ _ hi
      rw [eS] at hS
      have HS3 := Lib.hid hS
      clear hS hC hE eS HS2
      obtain ⟨⟨r1, r2⟩, r3, r4, r5, r6, r7⟩ := HRng.out
      have hz1 : Int.tmod z 31 = z % 31 := Int.tmod_eq_emod_of_nonneg hz.1
      have hz2 : 0 ≤ z % 31 ∧ z % 31 < 31 := by omega
      generalize z % 31 = zz at *
      have r8 : r = (d.rs + (zz - T.s)) % 31 := by omega
      clear r3 HRng
      subst r8
      go_wp2_with (refine wpList_load_row rfl 42 (.tmp 16) rfl G rfl 42 (uniB d s y 15).cells (0, 0) _ HC2.out Try.underlying42 rfl (info42 _) ?_)
      refine Calls.ext (CP.out _) fun z2 => ?_
      have YS := Lib.hid (HS3.out.ext z2)
      have YC := Lib.hid (HC2.out.ext z2)
      have YE := Lib.hid (HE2.out.ext z2)
      clear HS3 HC2 HE2
      generalize ext wr z2 = X1 at *
      have lC := YC.out.lt
      have EQ := Lib.hid (show ∀ w, (Op.equalIn 10000 22 (.agg (A15 (uniS s))) (.agg (A15 (uniS s)))).run Try.prog w = .ok true w from eq22 _ (fun i _ => by unfold uniS; omega))
      have ED := Lib.hid (show ∀ w, (Op.equalIn 10000 22 (.agg (A15 T.d)) (.agg (A15 T.d))).run Try.prog w = .ok true w from eq22 _ HT.out.d)
      have EE := Lib.hid (show ∀ w, (Op.equalIn 10000 22 (.agg (A15 T.e)) (.agg (A15 T.e))).run Try.prog w = .ok true w from eq22 _ HT.out.e)
      go_wp2_with (first | ((with_reducible refine wpList_talk 18 19 20 99 100 101 P Q T 221 ?_ ?_); exact ⟨rfl, rfl, rfl, rfl, rfl, rfl, rfl, rfl, rfl, rfl, rfl, rfl, rfl, rfl, rfl, rfl, rfl, rfl, rfl, rfl, rfl, rfl, rfl⟩; intro bn2 bm2 bk2 V2 hn2 hm2 hk2 hE2 Np2 Nq2 Nt2; have HS4 := Lib.hid (YS.out.grow hE2); have HC4 := Lib.hid (YC.out.grow hE2); have HE4 := Lib.hid (YE.out.trans hE2); have NT := Lib.hid (Nt2); have TS := Lib.hid (show ∀ j, j < 15 → V2.cell? ⟨bk2, 15 + j, none⟩ = some (u8V (uniS s) j) from fun j hj => ((Nt2.cell (15 + j)).trans (T.at_e j hj)).trans (at15 s1 j hj)); have q0 : V2.cell? ⟨bk2, 30, none⟩ = some (.int .u8 T.c) := (Nt2.cell 30).trans (T.at_x 0); have q1 : V2.cell? ⟨bk2, 31, none⟩ = some (.int .u8 T.s) := (Nt2.cell 31).trans (T.at_x 1); have k0 : V2.cell? ⟨G, 46, none⟩ = some (.int .u8 d.rs) := cut_rs (d := (uniB d s y 15)) HC4.out; have k1 := HC4.out.frozen 46; have HC5 := Lib.hid (blk_rs HC4.out ((d.rs + (zz - T.s)) % 31)); have hkG := Nat.ne_of_gt (Nat.lt_of_lt_of_le lC hk2)) | ((with_reducible refine pre_op (.binOp .neq 22 (.tmp 109) (.tmp 110) 22) ?_); refine wpList_neq_row_g 22 (.tmp 109) (.tmp 110) rfl rfl (A15 (uniS s)) (A15 (uniS s)) rfl rfl eg22 true EQ.out ?_) | ((with_reducible refine pre_op (.load 22 (.tmp 108)) ?_); refine wpList_load_sub_g 22 (.tmp 108) rfl rfl bk2 15 rfl 15 (u8V (uniS s)) _ TS.out Try.underlying22 rfl info22 ?_) | ((with_reducible refine pre_op (.load 22 (.tmp 11)) ?_); refine wpList_load_row_g 22 (.tmp 11) rfl rfl (w.heap.size + 1) rfl 22 (A15 (uniS s)) (0, 0) _ HS4.out Try.underlying22 rfl info22 ?_) | ((with_reducible refine pre_op (.load 42 (.tmp 16)) ?_); refine wpList_load_row rfl 42 (.tmp 16) rfl G rfl 42 (withRS (uniB d s y 15) ((d.rs + (zz - T.s)) % 31)).cells (0, 0) _ HC5.out Try.underlying42 rfl (info42 _) ?_))
      refine Calls.ext (CQ.out _) fun z3 => ?_
      have YT := Lib.hid ((NT.out.far (p := ⟨G, 46, none⟩) hkG (.int .u8 ((d.rs + (zz - T.s)) % 31))).ext z3)
      have YE5 := Lib.hid ((HE4.out.setCell (p := ⟨G, 46, none⟩) (by show w.heap.size ≤ G; omega) (.int .u8 ((d.rs + (zz - T.s)) % 31))).ext z3)
      generalize ext (V2.setCell ⟨G, 46, none⟩ (.int .u8 ((d.rs + (zz - T.s)) % 31))) z3 = X2 at *
      clear NT HS4 HC4 HE4 HC5 TS q0 q1 k0 k1 EQ hn2 hm2 hk2 hE2 Np2 Nq2 Nt2 YS YC YE
      have bm : (T.m == T.m) = true ∧ (T.m != T.m) = false := by simp
      obtain ⟨bm1, bm2⟩ := bm
      go_wp2_with (first | ((with_reducible refine wpList_talk 23 24 25 163 164 165 R S V 221 ?_ ?_); exact ⟨rfl, rfl, rfl, rfl, rfl, rfl, rfl, rfl, rfl, rfl, rfl, rfl, rfl, rfl, rfl, rfl, rfl, rfl, rfl, rfl, rfl, rfl, rfl⟩; intro bn3 bm3 bk3 V3 hn3 hm3 hk3 hE3 Np3 Nq3 Nt3; have HE6 := Lib.hid (YE5.out.trans hE3); have U1 := Lib.hid (show ∀ j, j < 15 → (V3).cell? ⟨bk3, 0 + j, none⟩ = some (u8V T.d j) from fun j hj => by rw [Nat.zero_add, ← hvd]; exact (Nt3.cell j).trans (V.at_d j hj)); have U2 := Lib.hid (show ∀ j, j < 15 → (V3).cell? ⟨bk2, 0 + j, none⟩ = some (u8V T.d j) from fun j hj => by rw [Nat.zero_add]; exact ((YT.out.grow hE3).cell j).trans (T.at_d j hj)); have U3 := Lib.hid (show ∀ j, j < 15 → (V3).cell? ⟨bk3, 15 + j, none⟩ = some (u8V T.e j) from fun j hj => by rw [← hve]; exact (Nt3.cell (15 + j)).trans (V.at_e j hj)); have U4 := Lib.hid (show ∀ j, j < 15 → (V3).cell? ⟨bk2, 15 + j, none⟩ = some (u8V T.e j) from fun j hj => ((YT.out.grow hE3).cell (15 + j)).trans (T.at_e j hj)); have p0 : (V3).cell? ⟨bk2, 30, none⟩ = some (.int .u8 T.c) := ((YT.out.grow hE3).cell 30).trans (T.at_x 0); have p1 : (V3).cell? ⟨bk2, 31, none⟩ = some (.int .u8 T.s) := ((YT.out.grow hE3).cell 31).trans (T.at_x 1); have p2 : (V3).cell? ⟨bk2, 34, none⟩ = some (.bool T.m) := ((YT.out.grow hE3).cell 34).trans (T.at_x 4); have v0 : (V3).cell? ⟨bk3, 30, none⟩ = some (.int .u8 T.c) := (by rw [← s3]; exact (Nt3.cell 30).trans (V.at_x 0)); have v1 : (V3).cell? ⟨bk3, 31, none⟩ = some (.int .u8 zz) := (by rw [← s2]; exact (Nt3.cell 31).trans (V.at_x 1)); have v2 : (V3).cell? ⟨bk3, 34, none⟩ = some (.bool T.m) := (by rw [← hvm]; exact (Nt3.cell 34).trans (V.at_x 4))) | ((with_reducible refine pre_op (.binOp .neq 22 (.tmp 178) (.tmp 180) 22) ?_); refine wpList_neq_row_g 22 (.tmp 178) (.tmp 180) rfl rfl (A15 T.d) (A15 T.d) rfl rfl eg22 true ED.out ?_) | ((with_reducible refine pre_op (.binOp .neq 22 (.tmp 185) (.tmp 187) 22) ?_); refine wpList_neq_row_g 22 (.tmp 185) (.tmp 187) rfl rfl (A15 T.e) (A15 T.e) rfl rfl eg22 true EE.out ?_) | ((with_reducible refine pre_op (.load 22 (.tmp 177)) ?_); refine wpList_load_sub_g 22 (.tmp 177) rfl rfl (bk3) 0 rfl 15 (u8V T.d) _ U1.out Try.underlying22 rfl info22 ?_) | ((with_reducible refine pre_op (.load 22 (.tmp 179)) ?_); refine wpList_load_sub_g 22 (.tmp 179) rfl rfl bk2 0 rfl 15 (u8V T.d) _ U2.out Try.underlying22 rfl info22 ?_) | ((with_reducible refine pre_op (.load 22 (.tmp 184)) ?_); refine wpList_load_sub_g 22 (.tmp 184) rfl rfl (bk3) 15 rfl 15 (u8V T.e) _ U3.out Try.underlying22 rfl info22 ?_) | ((with_reducible refine pre_op (.load 22 (.tmp 186)) ?_); refine wpList_load_sub_g 22 (.tmp 186) rfl rfl bk2 15 rfl 15 (u8V T.e) _ U4.out Try.underlying22 rfl info22 ?_))
      all_goals
        go_ret
        exact ⟨rfl, HE6.out⟩
end Go.Proofs.Ytfdcapblgdlkaaa
