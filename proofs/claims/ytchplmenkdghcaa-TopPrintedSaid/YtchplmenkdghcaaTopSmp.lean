/- A sample of a trace (7). -/
import Derived.Test.YtchplmenkdghcaaTopReg
namespace Go.Proofs.Ytchplmenkdghcaa
open Go.RowKit
theorem SmA.fin {w : World} {W0 H0 : Nat} {T : List Bool} {At : Option Addr} {ct wN hN : Nat} {px : Nat → Int} {p d l : Nat} {P D L : Value} {X : World} (h : SmA w W0 H0 T At ct wN hN px p d l P D L X) :
    let Z := (((((((X.setCell ⟨w.heap.size + 1, 0, none⟩ (.int .i64 wN)).setCell ⟨w.heap.size + 1, 1, none⟩ (.int .i64 hN)).setCell ⟨w.heap.size + 1, 2, none⟩ P).setCell ⟨w.heap.size + 1 + 1, 0, none⟩ (.int .i64 wN)).setCell ⟨w.heap.size + 1 + 1, 1, none⟩ (.int .i64 hN)).setCell ⟨w.heap.size + 1 + 1, 2, none⟩ D).setCell ⟨w.heap.size + 1 + 1, 3, none⟩ L).drew
    Blk Z (w.heap.size + 1) 33 #[.int .i64 wN, .int .i64 hN, P] ∧ Blk Z (w.heap.size + 1 + 1) 35 #[.int .i64 wN, .int .i64 hN, D, L] ∧ SmO w.heap.size px p d l P D L Z ∧ Ext w Z := by
  intro Z
  have ne : w.heap.size + 1 + 1 ≠ w.heap.size + 1 := by omega
  have a1 := ((h.z14.set_ 0 (.int .i64 wN)).set_ 1 (.int .i64 hN)).set_ 2 P
  have b0 := ((h.z15.far (p := ⟨w.heap.size + 1, 0, none⟩) ne (.int .i64 wN)).far (p := ⟨w.heap.size + 1, 1, none⟩) ne (.int .i64 hN)).far (p := ⟨w.heap.size + 1, 2, none⟩) ne P
  have k1 := ((Kp.set_ (S := [33, 35]) (B := w.heap.size) h.z14 (by omega) (by simp) 0 (.int .i64 wN)).trans (Kp.set_ (h.z14.set_ 0 (.int .i64 wN)) (by omega) (by simp) 1 (.int .i64 hN))).trans (Kp.set_ ((h.z14.set_ 0 (.int .i64 wN)).set_ 1 (.int .i64 hN)) (by omega) (by simp) 2 P)
  have b1 := b0.set_ 0 (.int .i64 wN)
  have b2 := b1.set_ 1 (.int .i64 hN)
  have b3 := b2.set_ 2 D
  have k2 := (((k1.trans (Kp.set_ b0 (by omega) (by simp) 0 (.int .i64 wN))).trans (Kp.set_ b1 (by omega) (by simp) 1 (.int .i64 hN))).trans (Kp.set_ b2 (by omega) (by simp) 2 D)).trans (Kp.set_ b3 (by omega) (by simp) 3 L)
  have k3 := k2.trans (Kp.of_ext (S := [33, 35]) (B := w.heap.size) ((Ext.refl _).drew))
  have b4 := b3.set_ 3 L
  have a2 := (((a1.far (p := ⟨w.heap.size + 1 + 1, 0, none⟩) ne.symm (.int .i64 wN)).far (p := ⟨w.heap.size + 1 + 1, 1, none⟩) ne.symm (.int .i64 hN)).far (p := ⟨w.heap.size + 1 + 1, 2, none⟩) ne.symm D).far (p := ⟨w.heap.size + 1 + 1, 3, none⟩) ne.symm L
  simp only [List.setIfInBounds_toArray, List.set_cons_zero, List.set_cons_succ] at a2 b4
  exact ⟨a2.drew, b4.drew, ⟨k3.own h.own.oP (by simp), k3.own h.own.oD (by simp), k3.own h.own.oL (by simp), h.own.pd, h.own.pl, h.own.dl⟩, k3.ext h.ext (Nat.le_refl _)⟩
theorem us_of_own {X : World} {b n c : Nat} {A : Option Addr} {f : Nat → Int} (hn : 0 < n) (h : X.ownsRow b 5 1 (.slice A n c) n (u8s f n)) : Us X A n f := by
  obtain ⟨g, rfl, -, hc, hg, -⟩ := own_cell (j := 0) h (by omega)
  refine ⟨g, 0, rfl, hg, fun k hk => ?_⟩
  rw [Nat.zero_add, (hc k (by omega)).2]
  simp [u8s, List.getElem?_map, List.getElem?_range hk]
def SmpT (wN hN : Nat) (px : Nat → Int) (w : World) (e : Ending) (w' : World) : Prop := ∃ P A B cp c d, e = .returned (.tuple #[.agg #[.int .i64 wN, .int .i64 hN, .slice P (wN * hN : Nat) cp], .agg #[.int .i64 wN, .int .i64 hN, .slice A (wN * hN : Nat) c, .slice B (wN * hN : Nat) d]]) ∧ Us w' P (wN * hN) px ∧ Us w' A (wN * hN) (fun _ => 40) ∧ Us w' B (wN * hN) (fun _ => 200) ∧ Ext w w'
set_option maxRecDepth 100000 in
set_option maxHeartbeats 4000000 in
theorem sampled_any (W0 H0 : Nat) (T : List Bool) (At : Option Addr) (ct dx dy wN hN : Nat) (l : List Int) (An : Option Addr) (cn : Nat) (hW0 : W0 ≤ 20) (hH0 : H0 ≤ 20) (hT : T.length = W0 * H0) (hdx : dx ≤ 20) (hdy : dy ≤ 20) (hwN : 1 ≤ wN ∧ wN ≤ 20) (hhN : 1 ≤ hN ∧ hN ≤ 20) (hl : ∀ v ∈ l, -128 ≤ v ∧ v ≤ 127) (w : World) (hB : Bls w At T) (hN' : Ns w An l) :
    Calls Try.prog 7 #[.agg #[.int .i64 W0, .int .i64 H0, .slice At T.length ct], .int .i64 dx, .int .i64 dy, .int .i64 wN, .int .i64 hN, .slice An l.length cn, .int .i64 50] w (SmpT wN hN (sampF W0 H0 T wN dx dy l) w) := by
  have CI := Lib.hid (fun x y z h => isR_any W0 H0 T At ct x y hW0 hH0 hT z h)
  obtain ⟨n, hn⟩ : ∃ n, n = wN * hN := ⟨_, rfl⟩
  have hnn : n ≤ 400 := by rw [hn]; exact Nat.le_trans (Nat.mul_le_mul hwN.2 hhN.2) (by omega)
  have hwm : IntKind.i64.wrap ((wN : Int) * hN) = (n : Int) := by
    rw [show (wN : Int) * hN = (n : Int) by rw [hn]; simp]
    exact IntWalk.i64_in _ (by omega)
  have HN := Lib.hid hn
  have HW := Lib.hid hwN
  have HH := Lib.hid hhN
  have HB := Lib.hid (show ∀ z, Ext w z → Bls z At T from fun z h => Sl.grow hB h)
  have HNO := Lib.hid (show ∀ z, Ext w z → Ns z An l from fun z h => Sl.grow hN' h)
  have HNB := Lib.hid hl
  have HDX := Lib.hid (And.intro hdx hdy)
  have HE := Lib.hid (((((Ext.refl w).alloc (.cells #[.int .i64 W0, .int .i64 H0, .slice At T.length ct] 24)).alloc (.cells #[.int .i64 0, .int .i64 0, .slice none 0 0] 33)).alloc (.cells #[.int .i64 0, .int .i64 0, .slice none 0 0, .slice none 0 0] 35)).alloc (.cells #[.int .i64 wN, .int .i64 hN, .slice none 0 0] 33))
  clear hn hwN hhN hB hN' hl hdx hdy hW0 hH0 hT
  go_enter Try.func7, Try.ntmps7
  go_wp2_with fail
  have HA := Lib.hid (show SmA w W0 H0 T At ct wN hN (sampF W0 H0 T wN dx dy l) 0 0 0 (.slice none 0 0) (.slice none 0 0) (.slice none 0 0) _ from
    ⟨((((Blk.new w 24 #[.int .i64 W0, .int .i64 H0, .slice At T.length ct]).alloc (.cells #[.int .i64 0, .int .i64 0, .slice none 0 0] 33)).alloc (.cells #[.int .i64 0, .int .i64 0, .slice none 0 0, .slice none 0 0] 35)).alloc (.cells #[.int .i64 wN, .int .i64 hN, .slice none 0 0] 33)).alloc (.cells #[.int .i64 wN, .int .i64 hN, .slice none 0 0, .slice none 0 0] 35),
     (((Blk.new' _ 33 _ _ (by simp)).alloc _).alloc _).alloc _, ((Blk.new' _ 35 _ _ (by simp)).alloc _).alloc _, (Blk.new' _ 33 _ _ (by simp)).alloc _, Blk.new' _ 35 _ _ (by simp),
     ⟨own_nil _ _ _ _, own_nil _ _ _ _, own_nil _ _ _ _, sep_nil _, sep_nil _, sep_nil _⟩, HE.out.alloc _⟩)
  clear HE
  go_loopw [29] (fun t29 wr => ∃ (k : Nat) (P D L : Value), k ≤ n ∧ t29 = .int .i64 (k : Int) ∧ SmA w W0 H0 T At ct wN hN (sampF W0 H0 T wN dx dy l) k k k P D L wr) (fun t29 _ => n - (intOf t29).toNat)
  case atStart => exact ⟨0, _, _, _, by omega, rfl, HA.out⟩
  case round =>
    obtain ⟨k, P, D, L, hk, rfl, hA⟩ := hrel
    clear HA
    have HA := Lib.hid hA
    clear hA
    by_cases hlt : k < n
    · have hk2 : (k : Int) < (n : Int) := by omega
      have hk4 : k < 400 := by omega
      obtain ⟨A1, c1, hPe⟩ := own_slice HA.out.own.oP
      obtain ⟨A2, c2, hDe⟩ := own_slice HA.out.own.oD
      obtain ⟨A3, c3, hLe⟩ := own_slice HA.out.own.oL
      subst hPe hDe hLe
      refine wp_seq_k fun K1 hK1 => ?_
      have HK1 := Lib.hid hK1
      clear hK1
      go_wp2_with fail
      refine HK1.out _ _ ?_
      clear HK1 K1
      refine wp_seq_k fun K2 hK2 => ?_
      have HK2 := Lib.hid hK2
      clear hK2
      go_wp2_with fail
      refine HK2.out _ _ ?_
      clear HK2 K2
      refine wp_seq_k fun K3 hK3 => ?_
      have HK3 := Lib.hid hK3
      clear hK3
      refine wp_block ?_
      refine wp_seq_k fun K4 hK4 => ?_
      have HK4 := Lib.hid hK4
      clear hK4
      go_wp2_with fail
      refine HK4.out _ _ ?_
      clear HK4 K4
      refine wp_seq_k fun K5 hK5 => ?_
      have HK5 := Lib.hid hK5
      clear hK5
      go_wp2_with fail
      refine HK5.out _ _ ?_
      clear HK5 K5
      refine wp_seq_k fun K6 hK6 => ?_
      have HK6 := Lib.hid hK6
      clear hK6
      have key6 : ∀ (u32 u33 u34 u35 u36 u37 u38 u39 u40 u41 u42 u43 u44 u45 u46 u47 u48 u49 u50 u51 u52 u53 u54 u55 u56 u57 u58 u59 u60 u61 u62 u63 u64 u65 u66 u67 u68 u69 u70 u71 u72 u73 u74 u75 : Value) (bv : Int) (X2 : World), Ext wr X2 → bv = (if isT W0 H0 T (((k % wN : Nat) : Int) - dx) (((k / wN : Nat) : Int) - dy) then 60 else 180) → K6 { tmps := List.toArray (.agg #[.int .i64 W0, .int .i64 H0, .slice At T.length ct] :: .int .i64 dx :: .int .i64 dy :: .int .i64 wN :: .int .i64 hN :: .slice An l.length cn :: .int .i64 50 :: .pointer (some ⟨w.heap.size, 0, none⟩) :: undef :: undef :: undef :: undef :: undef :: undef :: .pointer (some ⟨w.heap.size + 1, 0, none⟩) :: .pointer (some ⟨w.heap.size + 1 + 1, 0, none⟩) :: .pointer (some ⟨w.heap.size + 1 + 1 + 1, 0, none⟩) :: .pointer (some ⟨w.heap.size + 1 + 1 + 1 + 1, 0, none⟩) :: .int .i64 (k : Int) :: .int .i64 bv :: .int .i64 wN :: .int .i64 hN :: .agg #[.int .i64 wN, .int .i64 hN, .slice none 0 0] :: .int .i64 wN :: .int .i64 hN :: .agg #[.int .i64 wN, .int .i64 hN, .slice none 0 0, .slice none 0 0] :: .int .i64 wN :: .int .i64 hN :: .int .i64 (n : Int) :: .int .i64 (k : Int) :: .bool true :: .int .i64 (k : Int) :: u32 :: u33 :: u34 :: u35 :: u36 :: u37 :: u38 :: u39 :: u40 :: u41 :: u42 :: u43 :: u44 :: u45 :: u46 :: u47 :: u48 :: u49 :: u50 :: u51 :: u52 :: u53 :: u54 :: u55 :: u56 :: u57 :: u58 :: u59 :: u60 :: u61 :: u62 :: u63 :: u64 :: u65 :: u66 :: u67 :: u68 :: u69 :: u70 :: u71 :: u72 :: u73 :: u74 :: u75 :: undef :: undef :: []), defers := [] } X2 := by
        intro u32 u33 u34 u35 u36 u37 u38 u39 u40 u41 u42 u43 u44 u45 u46 u47 u48 u49 u50 u51 u52 u53 u54 u55 u56 u57 u58 u59 u60 u61 u62 u63 u64 u65 u66 u67 u68 u69 u70 u71 u72 u73 u74 u75 bv X2 hE2 hbv
        have hpx : sampF W0 H0 T wN dx dy l k = bv + noiseF l k := by rw [hbv]; rfl
        have hbb : bv = 60 ∨ bv = 180 := by
          rw [hbv]
          split
          · exact .inl rfl
          · exact .inr rfl
        clear hbv
        have HA2 := Lib.hid (HA.out.grow hE2)
        have HPX := Lib.hid (samp_in W0 H0 T wN dx dy l k)
        have HN2 := Lib.hid (HNO.out _ HA2.out.ext)
        clear hE2 HA
        refine HK6.out _ _ ?_
        clear HK6 K6
        refine wp_seq_k fun K7 hK7 => ?_
        have HK7 := Lib.hid hK7
        clear hK7
        have key7 : ∀ (u32 u33 u34 u35 u36 u37 u38 u39 u40 u41 u42 u43 u44 u45 u46 u47 u48 u49 u50 u51 u52 u53 u54 u55 u56 u57 u58 u59 u60 u61 u62 u63 u64 u65 u66 u67 u68 u69 u70 u71 u72 u73 u74 u75 : Value) (pv : Int), sampF W0 H0 T wN dx dy l k = pv → K7 { tmps := List.toArray (.agg #[.int .i64 W0, .int .i64 H0, .slice At T.length ct] :: .int .i64 dx :: .int .i64 dy :: .int .i64 wN :: .int .i64 hN :: .slice An l.length cn :: .int .i64 50 :: .pointer (some ⟨w.heap.size, 0, none⟩) :: undef :: undef :: undef :: undef :: undef :: undef :: .pointer (some ⟨w.heap.size + 1, 0, none⟩) :: .pointer (some ⟨w.heap.size + 1 + 1, 0, none⟩) :: .pointer (some ⟨w.heap.size + 1 + 1 + 1, 0, none⟩) :: .pointer (some ⟨w.heap.size + 1 + 1 + 1 + 1, 0, none⟩) :: .int .i64 (k : Int) :: .int .i64 pv :: .int .i64 wN :: .int .i64 hN :: .agg #[.int .i64 wN, .int .i64 hN, .slice none 0 0] :: .int .i64 wN :: .int .i64 hN :: .agg #[.int .i64 wN, .int .i64 hN, .slice none 0 0, .slice none 0 0] :: .int .i64 wN :: .int .i64 hN :: .int .i64 (n : Int) :: .int .i64 (k : Int) :: .bool true :: .int .i64 (k : Int) :: u32 :: u33 :: u34 :: u35 :: u36 :: u37 :: u38 :: u39 :: u40 :: u41 :: u42 :: u43 :: u44 :: u45 :: u46 :: u47 :: u48 :: u49 :: u50 :: u51 :: u52 :: u53 :: u54 :: u55 :: u56 :: u57 :: u58 :: u59 :: u60 :: u61 :: u62 :: u63 :: u64 :: u65 :: u66 :: u67 :: u68 :: u69 :: u70 :: u71 :: u72 :: u73 :: u74 :: u75 :: undef :: undef :: []), defers := [] } X2 := by
          clear hpx hbb
          intro u32 u33 u34 u35 u36 u37 u38 u39 u40 u41 u42 u43 u44 u45 u46 u47 u48 u49 u50 u51 u52 u53 u54 u55 u56 u57 u58 u59 u60 u61 u62 u63 u64 u65 u66 u67 u68 u69 u70 u71 u72 u73 u74 u75 pv hpv
          rw [hpv] at HPX
          have hp0 := HPX.out
          have w8 : IntKind.u8.wrap pv = pv := IntWalk.u8_in _ (by omega)
          have c16 : X2.cell? ⟨w.heap.size + 1 + 1 + 1, 2, none⟩ = some (.slice A1 k c1) := HA2.out.b16.cell 2
          have o16 := Old.mk HA2.out.b16.lt
          have HPV := Lib.hid hpv
          clear hp0 hpv HPX HN2
          refine HK7.out _ _ ?_
          clear HK7 K7
          refine wp_seq_k fun K8 hK8 => ?_
          have HK8 := Lib.hid hK8
          clear hK8
          go_wp2_with (at_builtin; with_reducible refine wpList_append_w rfl w ?aa infoU8 (.tmp 59) (.tmp 62) rfl (.slice A1 k c1) k (u8s (sampF W0 H0 T wN dx dy l) k) rfl (own_grow HA2.out.own.oP ((Ext.refl X2).alloc _)) X2.heap.size 1 [.int .u8 pv] rfl (Blk.new X2 5 _) rfl ?ac ?ad (by decide) ?_; rotate_left 3; intro A4 c4 w4 hE4 ho4 hg4 ha4; have kp := (Kp.grown (S := [5]) (B := w.heap.size) (own_grow HA2.out.own.oP ((Ext.refl X2).alloc (.cells [.int .u8 pv].toArray 5))) (Nat.le_refl _) (by simp) hg4); have HB16 := Lib.hid (kp.blk (HA2.out.b16.alloc _) (by simp)); have t16 := HB16.out.cell 2; have f16 := HB16.out.frozen 2; have o16 := Old.mk HB16.out.lt; have HKP := Lib.hid kp; have HO4 := Lib.hid ho4; have HG4 := Lib.hid hg4; have HA4 := Lib.hid ha4; have HE4 := Lib.hid hE4; clear kp ho4 hg4 ha4 hE4)
          · have HA5 := Lib.hid (SmA.storeP (P' := .slice A4 (k + 1) c4) (HA2.out.grow ((Ext.refl X2).alloc (.cells [.int .u8 pv].toArray 5))) HKP.out (SmO.appP (SmO.grow HA2.out.own ((Ext.refl X2).alloc _)) (by rw [u8s_succ, HPV.out]; exact HO4.out) HG4.out HA4.out))
            clear HKP HO4 HG4 HA4 HE4 HB16 t16 f16 o16 c16 HA2 HPV
            refine HK8.out _ _ ?_
            clear HK8 K8
            generalize w4.setCell ⟨w.heap.size + 1 + 1 + 1, 2, none⟩ (.slice A4 (k + 1) c4) = V at *
            clear w8 o16
            have hown := HA5.out.own
            have hoB : ∀ {v : Value} {xs : List Value}, V.ownsRow w.heap.size 5 1 v k xs → ∀ g, v.ownBlock = some g → w.heap.size ≤ g ∧ g < V.heap.size := fun h g hg => h.lt g hg
            have hl17 := HA5.out.b17.lt
            have hEx : ∀ Z, Rg.T ⟨w.heap.size, V.heap.size, w.heap.size + 1 + 1 + 1 + 1, k, .int .i64 wN, .int .i64 hN, .slice A2 k c2, .slice A3 k c3⟩ V.drew Z → Ext w Z := fun Z hT => by
              refine Below.trans HA5.out.ext (b := V) ?_
              exact ⟨hT.os, hT.tape, hT.output, hT.size, fun b hb => hT.block b (Nat.lt_of_lt_of_le hb HA5.out.ext.size) (Nat.lt_of_lt_of_le hb HA5.out.ext.size) (by show b ≠ w.heap.size + 1 + 1 + 1 + 1; omega) (fun e => by have := (hoB hown.oD b e).1; omega) (fun e => by have := (hoB hown.oL b e).1; omega)⟩
            refine Rg.run11 ⟨w.heap.size, V.heap.size, w.heap.size + 1 + 1 + 1 + 1, k, .int .i64 wN, .int .i64 hN, .slice A2 k c2, .slice A3 k c3⟩ ⟨hl17, HA5.out.ext.size, by show w.heap.size ≤ w.heap.size + 1 + 1 + 1 + 1; omega, fun g hg => (hoB hown.oD g hg).2, fun g hg => (hoB hown.oL g hg).2, hown.dl, fun A c e => by injection e with _ e; have e' : k = k + 1 := e; omega, by show k ≤ 60000; omega⟩ w V rfl (Nat.le_refl _) hEx _ rfl rfl _ hown.oD hown.oL HA5.out.b17 ?_
            intro x0 x1 x2 x3 x4 x5 x6 x7 x8 x9 x10 x11 Z v3 v7 hT h3 h7 hb
            have hT' := Rg.T.trans (Rg.T.of_ext ((Ext.refl V).drew)) hT
            have h3' := h3
            have h7' := h7
            obtain ⟨⟨B3, e3, rfl⟩, ho3, ha3⟩ := h3
            obtain ⟨⟨B7, e7, rfl⟩, ho7, ha7⟩ := h7
            have hP := Rg.keepO hT' (cs := [.int .i64 wN, .int .i64 hN, .slice A2 k c2, .slice A3 k c3]) HA5.out.b17 hown.oP (Nat.le_refl _) hown.pd hown.pl
            have hS : SmA w W0 H0 T At ct wN hN (sampF W0 H0 T wN dx dy l) (k + 1) (k + 1) (k + 1) (.slice A4 (k + 1) c4) (.slice B3 (k + 1) e3) (.slice B7 (k + 1) e7) Z :=
              ⟨Rg.keepB hT' hown.oD hown.oL HA5.out.box (by decide) HA5.out.box.lt (by show w.heap.size ≠ w.heap.size + 1 + 1 + 1 + 1; omega),
               Rg.keepB hT' hown.oD hown.oL HA5.out.z14 (by decide) HA5.out.z14.lt (by show w.heap.size + 1 ≠ w.heap.size + 1 + 1 + 1 + 1; omega),
               Rg.keepB hT' hown.oD hown.oL HA5.out.z15 (by decide) HA5.out.z15.lt (by show w.heap.size + 1 + 1 ≠ w.heap.size + 1 + 1 + 1 + 1; omega),
               Rg.keepB hT' hown.oD hown.oL HA5.out.b16 (by decide) HA5.out.b16.lt (by show w.heap.size + 1 + 1 + 1 ≠ w.heap.size + 1 + 1 + 1 + 1; omega), hb,
               ⟨hP, ho3, ho7, Rg.newSep hown.oP (Nat.le_refl _) hown.pd h3', Rg.newSep hown.oP (Nat.le_refl _) hown.pl h7', sep_content ho3 ho7⟩, hEx Z hT⟩
            have HZ := Lib.hid hS
            clear hS hP ho3 ha3 ho7 ha7 hT hT' hb hEx hl17 hoB hown HA5
            refine HK3.out _ _ ?_
            clear HK3 K3
            simp only [Act.put]
            go_wp2_with fail
            exact ⟨⟨k + 1, _, _, _, by omega, by go_num, HZ.out⟩, by simp [intOf]; omega⟩
          · exact HA2.out.ext.alloc _
          · intro u hu
            simp only [List.mem_cons, List.not_mem_nil, or_false] at hu
            subst hu
            rfl
          · omega
        have HK := Lib.hid key7
        clear key7 HK3 HK7
        by_cases hkl : k < l.length
        · have hkl2 : (k : Int) < (l.length : Int) := by omega
          have hx0 : l[k]? = some l[k] := List.getElem?_eq_getElem hkl
          have hmm := HNB.out _ (List.getElem_mem hkl)
          have hno : noiseF l k = Int.tmod l[k] 51 := by
            unfold noiseF
            rw [if_pos hkl, List.getD_eq_getElem?_getD, hx0]
            rfl
          generalize l[k] = nv at *
          obtain ⟨b, off, rfl, hbl, hc⟩ : ∃ b off, An = some ⟨b, off, none⟩ ∧ b < X2.heap.size ∧ X2.cell? ⟨b, off + k, none⟩ = some (.int .i8 nv) := by
            rcases HN2.out with h | ⟨b, off, h1, h2, h3⟩
            · rw [h] at hkl; exact absurd hkl (by simp)
            · refine ⟨b, off, h1, h2, ?_⟩
              have := h3 k nv hx0 0 _ rfl
              rwa [Nat.mul_one, Nat.add_zero] at this
          have on := Old.mk hbl
          have w1 : IntKind.i64.wrap nv = nv := IntWalk.i64_in _ (by omega)
          have ht1 := Int.tmod_lt_of_pos nv (b := 51) (by omega)
          have ht2 := Int.lt_tmod_of_pos nv (b := 51) (by omega)
          rw [hno] at hpx
          obtain ⟨tn, htn⟩ : ∃ tn, Int.tmod nv 51 = tn := ⟨_, rfl⟩
          rw [htn] at ht1 ht2 hpx
          have w2 : IntKind.i64.wrap tn = tn := IntWalk.i64_in _ (by omega)
          have w3 : IntKind.i64.wrap (bv + tn) = bv + tn := IntWalk.i64_in _ (by omega)
          have HPV := Lib.hid hpx
          clear hbb ht1 ht2 hno hx0 hmm hbl hpx
          go_wp2_with fail
          exact HK.out _ _ _ _ _ _ _ _ _ _ _ _ _ _ _ _ _ _ _ _ _ _ _ _ _ _ _ _ _ _ _ _ _ _ _ _ _ _ _ _ _ _ _ _ _ HPV.out
        · have hkl2 : ¬ (k : Int) < (l.length : Int) := by omega
          have hno : noiseF l k = 0 := by
            unfold noiseF
            rw [if_neg hkl]
          rw [hno, Int.add_zero] at hpx
          have HPV := Lib.hid hpx
          clear hbb hno hpx
          go_wp2_with fail
          exact HK.out _ _ _ _ _ _ _ _ _ _ _ _ _ _ _ _ _ _ _ _ _ _ _ _ _ _ _ _ _ _ _ _ _ _ _ _ _ _ _ _ _ _ _ _ _ HPV.out
      have z0 : wr.cell? ⟨w.heap.size, 0, none⟩ = some (.int .i64 W0) := HA.out.box.cell 0
      have z1 : wr.cell? ⟨w.heap.size, 1, none⟩ = some (.int .i64 H0) := HA.out.box.cell 1
      have z2 : wr.cell? ⟨w.heap.size, 2, none⟩ = some (.slice At T.length ct) := HA.out.box.cell 2
      have ob := Old.mk HA.out.box.lt
      have hxa : (k : Int) % (wN : Int) = ((k % wN : Nat) : Int) := by simp
      have hya : (k : Int) / (wN : Int) = ((k / wN : Nat) : Int) := by simp
      have hb1 : ((k % wN : Nat) : Int) ≤ 400 := by have := Nat.mod_le k wN; omega
      have hb2 : ((k / wN : Nat) : Int) ≤ 400 := by have := Nat.div_le_self k wN; omega
      have hb3 : (0 : Int) ≤ ((k % wN : Nat) : Int) := Int.natCast_nonneg _
      have hb4 : (0 : Int) ≤ ((k / wN : Nat) : Int) := Int.natCast_nonneg _
      have hz : (wN = 0) = False := by have := HW.out; simp; omega
      generalize ((k % wN : Nat) : Int) = xv at *
      generalize ((k / wN : Nat) : Int) = yv at *
      have hd := HDX.out
      have w1 : IntKind.i64.wrap xv = xv := IntWalk.i64_in _ (by omega)
      have w2 : IntKind.i64.wrap yv = yv := IntWalk.i64_in _ (by omega)
      have w3 : IntKind.i64.wrap (xv - (dx : Int)) = xv - (dx : Int) := IntWalk.i64_in _ (by omega)
      have w4 : IntKind.i64.wrap (yv - (dy : Int)) = yv - (dy : Int) := IntWalk.i64_in _ (by omega)
      have CI2 := Lib.hid (fun z => CI.out (xv - dx) (yv - dy) (Proofs.Ytchplmenkdghcaa.ext wr z) (HB.out _ (HA.out.ext.trans (Ext.ext_self wr z))))
      have HK := Lib.hid key6
      clear key6 hb1 hb2 hb3 hb4 hd HK6 HK3
      generalize isT W0 H0 T (xv - dx) (yv - dy) = b at *
      refine wp_seq_k fun K7 hK7 => ?_
      have HK7 := Lib.hid hK7
      clear hK7
      refine wp_region_ext (by kernel_rfl) (by kernel_rfl) ?_
      repeat (go_big_quiet_step ((go_at_call 13; exact Calls.quiet_ext (CI2.out _))))
      refine wpQuiet_nil ?_
      rintro _ ⟨z3, rfl⟩
      refine HK7.out _ _ ?_
      clear HK7 K7
      cases b
      · go_wp2_with fail
        exact HK.out _ _ _ _ _ _ _ _ _ _ _ _ _ _ _ _ _ _ _ _ _ _ _ _ _ _ _ _ _ _ _ _ _ _ _ _ _ _ _ _ _ _ _ _ 180 _ (Ext.ext_self wr z3) rfl
      · go_wp2_with fail
        exact HK.out _ _ _ _ _ _ _ _ _ _ _ _ _ _ _ _ _ _ _ _ _ _ _ _ _ _ _ _ _ _ _ _ _ _ _ _ _ _ _ _ _ _ _ _ 60 _ (Ext.ext_self wr z3) rfl
    · obtain rfl : k = n := by omega
      have hk2 : ¬ (k : Int) < (k : Int) := by omega
      obtain ⟨A1, c1, hPe⟩ := own_slice HA.out.own.oP
      obtain ⟨A2, c2, hDe⟩ := own_slice HA.out.own.oD
      obtain ⟨A3, c3, hLe⟩ := own_slice HA.out.own.oL
      subst hPe hDe hLe
      have p0 := HA.out.b16.cell 0
      have p1 := HA.out.b16.cell 1
      have p2 := HA.out.b16.cell 2
      have d0 := HA.out.b17.cell 0
      have d1 := HA.out.b17.cell 1
      have d2 := HA.out.b17.cell 2
      have d3 := HA.out.b17.cell 3
      have y0 := HA.out.z14.cell 0
      have y1 := HA.out.z14.cell 1
      have y2 := HA.out.z14.cell 2
      have z0 := HA.out.z15.cell 0
      have z1 := HA.out.z15.cell 1
      have z2 := HA.out.z15.cell 2
      have z3 := HA.out.z15.cell 3
      have fy := HA.out.z14.frozen
      have fz := HA.out.z15.frozen
      have o14 := Old.mk HA.out.z14.lt
      have o15 := Old.mk HA.out.z15.lt
      have o16 := Old.mk HA.out.b16.lt
      have o17 := Old.mk HA.out.b17.lt
      go_wp2_with fail
      have HF := Lib.hid HA.out.fin
      have hnp : 0 < k := by rw [HN.out]; exact Nat.mul_pos HW.out.1 HH.out.1
      have HNP := Lib.hid hnp
      clear hnp HA HB HNO HNB CI HDX
      go_region_law fail
      all_goals
        obtain ⟨F1, F2, F3, F4⟩ := HF.out
        clear HF p0 p1 p2 d0 d1 d2 d3 y0 y1 y2 z0 z1 z2 z3 fy fz o14 o15 o16 o17
        generalize (((((((wr.setCell ⟨w.heap.size + 1, 0, none⟩ (.int .i64 wN)).setCell ⟨w.heap.size + 1, 1, none⟩ (.int .i64 hN)).setCell ⟨w.heap.size + 1, 2, none⟩ (.slice A1 k c1)).setCell ⟨w.heap.size + 1 + 1, 0, none⟩ (.int .i64 wN)).setCell ⟨w.heap.size + 1 + 1, 1, none⟩ (.int .i64 hN)).setCell ⟨w.heap.size + 1 + 1, 2, none⟩ (.slice A2 k c2)).setCell ⟨w.heap.size + 1 + 1, 3, none⟩ (.slice A3 k c3)).drew = Zf at *
        have j0 : Zf.cell? ⟨w.heap.size + 1, 0, none⟩ = some (.int .i64 wN) := F1.cell 0
        have j1 : Zf.cell? ⟨w.heap.size + 1, 1, none⟩ = some (.int .i64 hN) := F1.cell 1
        have j2 : Zf.cell? ⟨w.heap.size + 1, 2, none⟩ = some (.slice A1 k c1) := F1.cell 2
        have i0 : Zf.cell? ⟨w.heap.size + 1 + 1, 0, none⟩ = some (.int .i64 wN) := F2.cell 0
        have i1 : Zf.cell? ⟨w.heap.size + 1 + 1, 1, none⟩ = some (.int .i64 hN) := F2.cell 1
        have i2 : Zf.cell? ⟨w.heap.size + 1 + 1, 2, none⟩ = some (.slice A2 k c2) := F2.cell 2
        have i3 : Zf.cell? ⟨w.heap.size + 1 + 1, 3, none⟩ = some (.slice A3 k c3) := F2.cell 3
        have G3 := Lib.hid F3
        have G4 := Lib.hid F4
        clear F1 F2 F3 F4
        go_wp2_with fail
        refine bodyPost_ret (v := .tuple #[.agg #[.int .i64 wN, .int .i64 hN, .slice A1 k c1], .agg #[.int .i64 wN, .int .i64 hN, .slice A2 k c2, .slice A3 k c3]]) (by simp [results, Try.results7, go_sem, j0, j1, j2, i0, i1, i2, i3]) rfl ?_
        unfold SmpT
        rw [← HN.out]
        exact ⟨A1, A2, A3, c1, c2, c3, rfl, us_of_own HNP.out G3.out.oP, us_of_own HNP.out G3.out.oD, us_of_own HNP.out G3.out.oL, G4.out⟩
end Go.Proofs.Ytchplmenkdghcaa
/- The example that the statement asks first (4). -/
namespace Go.Proofs.Ytchplmenkdghcaa
open Go.RowKit
def T3 : List Bool := [true, true, true]
theorem al_min : minuL 5 3 (thinN 5 3 (5 * 3 + 1) (padL 3 1 T3 5 3 1 1)) = [⟨1, 1, 1, 0⟩, ⟨3, 1, 1, 4⟩] := by kernel_rfl
theorem al_smp (A An : Option Addr) (ct cn : Nat) (w : World) (hB : Bls w A T3) (hN : Ns w An [-50, 50, 50]) :
    Calls Try.prog 7 #[.agg #[.int .i64 3, .int .i64 1, .slice A 3 ct], .int .i64 1, .int .i64 1, .int .i64 5, .int .i64 3, .slice An 3 cn, .int .i64 50] w (SmpT 5 3 (sampF 3 1 T3 5 1 1 [-50, 50, 50]) w) :=
  sampled_any 3 1 T3 A ct 1 1 5 3 [-50, 50, 50] An cn (by omega) (by omega) rfl (by omega) (by omega) (by omega) (by omega) (by decide) w hB hN
theorem al_prt (P A B : Option Addr) (cp c d : Nat) (w : World) (hP : Us w P 15 (sampF 3 1 T3 5 1 1 [-50, 50, 50])) (hD : Us w A 15 fun _ => 40) (hL : Us w B 15 fun _ => 200) :
    Calls Try.prog 8 #[.agg #[.int .i64 5, .int .i64 3, .slice P 15 cp], .agg #[.int .i64 5, .int .i64 3, .slice A 15 c, .slice B 15 d]] w (PrtT [⟨1, 1, 1, 0⟩, ⟨3, 1, 1, 4⟩] w) :=
  printed_any 5 3 15 P A B cp c d _ (fun i _ => samp_in _ _ _ _ _ _ _ i) (by omega) (by omega) rfl _ (bin_pad 3 1 T3 5 3 1 1 [-50, 50, 50]) _ al_min w hP hD hL
set_option maxRecDepth 100000 in
set_option maxHeartbeats 4000000 in
theorem alive_any (w : World) : Calls Try.prog 4 #[] w fun e w' => e = .returned (.bool true) ∧ Ext w w' := by
  have HB := Lib.hid (show Bls (((w.alloc (.cells #[.bool true, .bool true, .bool true] 4)).alloc (.cells #[.int .i64 3, .int .i64 1, .slice (some ⟨w.heap.size, 0, none⟩) 3 3] 24)).alloc (.cells #[.int .i8 (-50), .int .i8 50, .int .i8 50] 55)) (some ⟨w.heap.size, 0, none⟩) T3 from
    Slc.sl (sz := 1) (f := blF) (l := T3) (fun _ => rfl) (Slc.of_blk (n := 3) (((Blk.new w 4 #[.bool true, .bool true, .bool true]).alloc _).alloc _) rfl))
  have HN := Lib.hid (show Ns (((w.alloc (.cells #[.bool true, .bool true, .bool true] 4)).alloc (.cells #[.int .i64 3, .int .i64 1, .slice (some ⟨w.heap.size, 0, none⟩) 3 3] 24)).alloc (.cells #[.int .i8 (-50), .int .i8 50, .int .i8 50] 55)) (some ⟨w.heap.size + 1 + 1, 0, none⟩) [-50, 50, 50] from
    Slc.sl (sz := 1) (l := [-50, 50, 50]) (fun _ => rfl) (Slc.of_blk (n := 3) (Blk.new' _ 55 #[.int .i8 (-50), .int .i8 50, .int .i8 50] _ (by simp)) rfl))
  have HE := Lib.hid ((((Ext.refl w).alloc (.cells #[.bool true, .bool true, .bool true] 4)).alloc (.cells #[.int .i64 3, .int .i64 1, .slice (some ⟨w.heap.size, 0, none⟩) 3 3] 24)).alloc (.cells #[.int .i8 (-50), .int .i8 50, .int .i8 50] 55))
  go_enter Try.func4, Try.ntmps4
  go_wp2_with fail
  refine (al_smp _ _ _ _ _ HB.out HN.out).mono ?_
  rintro _ V0 ⟨P, A, B, cp, c, d, rfl, hP, hA, hB, hE⟩
  have K := Lib.hid (HE.out.trans hE)
  have KP := Lib.hid (And.intro hP (And.intro hA hB))
  clear hP hA hB hE HE HB HN
  go_wp2_with fail
  refine (al_prt P A B cp c d _ (KP.out.1.grow ?_) (KP.out.2.1.grow ?_) (KP.out.2.2.grow ?_)).mono ?_
  any_goals (first | exact ((Ext.refl V0).alloc _).alloc _)
  rintro _ V1 ⟨A1, c1, rfl, hpt, hE1⟩
  have K1 := Lib.hid (((K.out.alloc _).alloc _).trans hE1)
  clear hE1 K KP
  rcases hpt with h | ⟨g, off, rfl, hg, hc⟩
  · cases h
  obtain ⟨a0, a1, a2, a3⟩ := hc 0 ⟨21, 21, 1, 0⟩ rfl
  obtain ⟨b0, b1, b2, b3⟩ := hc 1 ⟨23, 21, 1, 4⟩ rfl
  simp only [Nat.zero_mul, Nat.one_mul, Nat.add_zero] at a0 a1 a2 a3 b0 b1 b2 b3
  have og := Old.mk hg
  clear hc hg
  go_wp2_with fail
  go_ret
  exact ⟨rfl, K1.out⟩
end Go.Proofs.Ytchplmenkdghcaa
