/- The order of a key. -/
import Derived.Test.YtfdcapblgdlkaaaDelete
import Derived.Test.YtfdcapblgdlkaaaLeaf
namespace Go.Proofs.Ytfdcapblgdlkaaa
open Go.RowKit

theorem infoI : ElemInfo Try.prog 56 3 1 8 := elemInfo Try.underlying56 (z := .int .i64 0) (by kernel_rfl) rfl (by omega)
theorem nums_of_own {w : World} {base : Nat} {A : Option Addr} {c : Nat} {l : List Nat} (hl : 0 < l.length) (h : w.ownsRow base 3 1 (.slice A l.length c) l.length (intsV l)) : ∃ g, A = some ⟨g, 0, none⟩ ∧ base ≤ g ∧ Nums w g c l := by
  obtain ⟨_, h | ⟨g, cap, cur, hv, hb, hh, hn, hm, hs, ht⟩⟩ := h
  · omega
  · injection hv with h1 h2 h3
    subst h1 h3
    refine ⟨g, rfl, hb, cur, hh, hn, hm, by omega, fun j hj => ?_⟩
    have h4 : (cur.toList.take (l.length * 1))[j]? = (intsV l)[j]? := by rw [ht]
    rw [List.getElem?_take, if_pos (by omega), ints_at, List.getElem?_eq_getElem hj] at h4
    rw [List.getD_eq_getElem?_getD, List.getElem?_eq_getElem hj]
    simpa using h4
theorem Nums.keep {w w' : World} {g c : Nat} {l : List Nat} (h : Nums w g c l) (hb : w'.heap[g]? = w.heap[g]?) : Nums w' g c l := by
  obtain ⟨cur, hB, r⟩ := h
  exact ⟨cur, hb.trans hB, r⟩
theorem Nums.at_ {w : World} {g c : Nat} {l : List Nat} (h : Nums w g c l) (j : Nat) (hj : j < l.length) : w.cell? ⟨g, j, none⟩ = some (.int .i64 ((l.getD j 0 : Nat) : Int)) := by
  obtain ⟨cur, hB, _, _, _, hat⟩ := h
  exact (hB.cell j).trans (hat j hj)
theorem own_turn {w w' : World} {base g : Nat} {e : TypeId} {sz n : Nat} {v : Value} {xs : List Value} (h : w.ownsRow base e sz v n xs) (ht : Turn1 w w' g) (hg : g < base) : w'.ownsRow base e sz v n xs := by
  obtain ⟨h1, h | ⟨k, cap, cur, hv, hb, hh, r⟩⟩ := h
  · exact ⟨h1, .inl h⟩
  · exact ⟨h1, .inr ⟨k, cap, cur, hv, hb, (ht.block k (by omega)).trans hh, r⟩⟩
theorem ext_trunc {a w : World} {n : Nat} (h : Ext a w) (hn : a.heap.size ≤ n) (hw : n ≤ w.heap.size) : Ext a (trunc w n) :=
  ⟨h.os, h.tape, h.output, by rw [trunc_size hw]; exact hn, fun k hk => (trunc_at w _ k (by omega)).trans (h.block k hk)⟩
theorem ext_turn {a w w' : World} {g : Nat} (h : Ext a w) (ht : Turn1 w w' g) (hg : a.heap.size ≤ g) : Ext a w' :=
  ⟨ht.os.trans h.os, ht.tape.trans h.tape, ht.output.trans h.output, by rw [ht.size]; exact h.size, fun k hk => (ht.block k (by omega)).trans (h.block k hk)⟩
set_option maxRecDepth 100000 in
set_option maxHeartbeats 2000000 in
theorem order_any (n p : Nat) (pad : BitVec 16) (hn : 1 ≤ n ∧ n ≤ 15) (hp : p < factN n) (w : World) : Calls Try.prog 69 #[(K.mk n p pad).val] w (RetS 3 1 n (intsV (dec n (List.range n) p)) w) := by
  have hn2 : (n : Int) ≤ 15 := by omega
  go_enter Try.func69, Try.ntmps69
  go_wp2_with fail
  have HB := Lib.hid (Blk.new w 55 #[.int .i64 (n : Int), .int .i64 (p : Int), .int .u16 (uv pad)])
  have HE := Lib.hid ((Ext.refl w).alloc (.cells #[.int .i64 (n : Int), .int .i64 (p : Int), .int .u16 (uv pad)] 55))
  generalize w.alloc (.cells #[.int .i64 (n : Int), .int .i64 (p : Int), .int .u16 (uv pad)] 55) = W at *
  go_loopw [3, 11] (fun o i wr => ∃ (k : Nat) (B : Option Addr) (d : Nat) (z : World), k ≤ n ∧ i = .int .i64 k ∧ o = .slice B k d ∧ wr = ext W z ∧ wr.ownsRow W.heap.size 3 1 (.slice B k d) k (intsV (List.range k))) (fun _ i _ => n - (intOf i).toNat)
  case atStart => exact ⟨0, none, 0, W, Nat.zero_le _, rfl, rfl, (ext_of (Ext.refl W)).symm, own_nil _ _ _ _⟩
  case round =>
    obtain ⟨k, B, d, z, hk, rfl, rfl, rfl, hown⟩ := hrel
    have HO := Lib.hid hown
    clear hown
    by_cases hlt : k < n
    · have hk2 : (k : Int) < (n : Int) := by omega
      go_wp2_with (at_builtin; refine wpList_append_ext rfl W (by exact (Ext.ext_self W z).alloc _) infoI (.tmp 14) (.tmp 16) rfl _ k (intsV (List.range k)) rfl (by exact own_grow HO.out ((Ext.refl _).alloc _)) _ 1 1 [.int .i64 (k : Int)] rfl (Slc.of_blk (cs := #[.int .i64 (k : Int)]) (t := 3) (Blk.new _ _ _) rfl) (by simp [Value.oneCell']) (by omega) (by decide) ?_; intro B' d' z2 hown2)
      go_roundw
      case rel =>
        refine ⟨k + 1, B', d', z2, by omega, by go_num, rfl, rfl, ?_⟩
        have : intsV (List.range (k + 1)) = intsV (List.range k) ++ [.int .i64 (k : Int)] := by simp [intsV, List.range_succ]
        rw [this]; exact hown2
      case measure => simp [intOf]; omega
    · obtain rfl : k = n := by omega
      have b0 : (ext W z).cell? ⟨w.heap.size, 0, none⟩ = some (.int .i64 (k : Int)) := (HB.out.ext z).cell 0
      have b1 : (ext W z).cell? ⟨w.heap.size, 1, none⟩ = some (.int .i64 (p : Int)) := (HB.out.ext z).cell 1
      obtain ⟨g, hg, hbg, hN⟩ := nums_of_own (l := List.range k) (by simp; omega) (by simpa using HO.out)
      have HN := Lib.hid hN
      subst hg
      clear hN
      go_wp2_with fail
      have hgV : g < (ext W z).heap.size := by
        obtain ⟨cur, hBc, _⟩ := HN.out
        exact hBc.lt
      have HEV := Lib.hid (HE.out.ext z)
      clear HO b0 b1
      generalize ext W z = V at *
      go_loopw [3, 4, 6, 7] (fun s3 s4 s6 s7 wr => ∃ (j : Nat) (left outl : List Nat) (pp : Nat), j ≤ k ∧ s7 = .int .i64 ((j : Int) - 1) ∧ s3 = .slice (some ⟨g, 0, none⟩) j d ∧ left.length = j ∧ s6 = .int .i64 (pp : Int) ∧ pp < factN j ∧ outl.length = k - j ∧ outl ++ dec j left pp = dec k (List.range k) p ∧ wr.ownsRow V.heap.size 3 1 s4 (k - j) (intsV outl) ∧ Nums wr g d left ∧ Ext w wr ∧ V.heap.size ≤ wr.heap.size) (fun _ _ _ i _ => (intOf i + 1).toNat)
      case atStart => exact ⟨k, List.range k, [], p, Nat.le_refl _, rfl, rfl, by simp, rfl, hp, by simp, rfl, by rw [Nat.sub_self]; exact own_nil _ _ _ _, HN.out, HEV.out, Nat.le_refl _⟩
      case round =>
        obtain ⟨j, left, outl, pp, hj, rfl, rfl, hll, rfl, hpp, hol, hdec, hown, hNl, hEw, hsz⟩ := hrel
        by_cases hj0 : 0 < j
        · obtain ⟨f, rfl⟩ : ∃ f, j = f + 1 := ⟨j - 1, by omega⟩
          have e7 : (((f + 1 : Nat) : Int) - 1) = (f : Int) := by omega
          rw [e7]
          obtain ⟨F, hF⟩ : ∃ F, F = factN f := ⟨_, rfl⟩
          obtain ⟨q, hqd⟩ : ∃ q, q = pp / factN f := ⟨_, rfl⟩
          obtain ⟨r, hrd⟩ : ∃ r, r = pp % factN f := ⟨_, rfl⟩
          obtain ⟨vv, hvv⟩ : ∃ vv, vv = left.getD q 0 := ⟨_, rfl⟩
          have hfp := fact_le f (by omega)
          have hat := div_lt f pp hpp
          have hmo := Nat.mod_lt pp (fact_pos f)
          have hq : (pp : Int) / (factN f : Int) = ((pp / factN f : Nat) : Int) := (Int.natCast_ediv _ _).symm
          have hr : (pp : Int) % (factN f : Int) = ((pp % factN f : Nat) : Int) := (Int.natCast_emod _ _).symm
          have hC := fact_any f (by omega)
          have HD := Lib.hid (show dec (f + 1) left pp = vv :: dec f (left.eraseIdx q) r by rw [hvv, hqd, hrd]; rfl)
          rw [← hqd, ← hF] at hq
          rw [← hrd, ← hF] at hr
          rw [← hF] at hfp
          rw [← hqd] at hat
          rw [← hrd] at hmo
          rw [← hF] at hC
          have C := Lib.hid hC
          have hf0 : (0 : Int) ≤ (f : Int) := by omega
          have hqlt : q < left.length := by omega
          have cat := hNl.at_ q hqlt
          rw [← hvv] at cat
          have HMO := Lib.hid hmo
          have hmo2 : (r : Int) < F := by omega
          have HPP := Lib.hid hpp
          have HF := Lib.hid hF
          clear hqd hrd hvv hC hmo hpp hF
          have hq1 : (q : Int) < (f : Int) + 1 := by omega
          obtain ⟨T, hT⟩ : ∃ T, T = trunc wr V.heap.size := ⟨_, rfl⟩
          have hTe : Ext T wr := by subst hT; exact trunc_ext hsz
          have hTs : T.heap.size = V.heap.size := by subst hT; exact trunc_size hsz
          have hwT : Ext w T := by subst hT; exact ext_trunc hEw HEV.out.size hsz
          have hTg : T.heap[g]? = wr.heap[g]? := by subst hT; exact trunc_at wr _ _ hgV
          have hown2 := hown
          rw [← hTs] at hown2
          have hde : ∀ (zz : World), Calls Try.prog 93 #[.slice (some ⟨g, 0, none⟩) (f + 1) d, .int .i64 ((q : Nat) : Int), .int .i64 (((q : Nat) : Int) + 1)] (ext T zz) fun e w' => e = .returned (.slice (some ⟨g, 0, none⟩) f d) ∧ Turn1 (ext T zz) w' g ∧ Nums w' g d (left.eraseIdx q) := by
            intro zz
            have hN2 : Nums (ext T zz) g d left := hNl.keep ((Below.block (Ext.ext_self T zz) g (by rw [hTs]; exact hgV)).trans hTg)
            have := delete_nums (ext T zz) g d left q hqlt hN2
            rw [hll] at this
            exact this
          have DE := Lib.hid hde
          have HTE := Lib.hid hTe
          have HWT := Lib.hid hwT
          have HO2 := Lib.hid hown2
          have HDE := Lib.hid hdec
          have HTS := Lib.hid hTs
          clear hde hTe hwT hown2 hown hdec hNl hEw hTs hTg hT e7
          have hsm : k - (f + 1) + 1 ≤ 65536 := by omega
          have hf1 : f + 1 - 1 = f := rfl
          go_wp2_with (first | (go_at_call 54; refine Calls.same (C.out _) ?_) | (at_builtin; refine wpList_append_ext rfl T (by exact HTE.out.alloc _) infoI (.tmp 36) (.tmp 41) rfl _ (k - (f + 1)) (intsV outl) rfl (by exact own_grow HO2.out ((Ext.refl _).alloc _)) _ 1 1 [.int .i64 (vv : Int)] rfl (Slc.of_blk (cs := #[.int .i64 (vv : Int)]) (t := 3) (Blk.new _ _ _) rfl) (by simp [Value.oneCell']) hsm (by decide) ?_; intro B' d' z2 hown2) | (go_at_call 93; refine (DE.out _).mono ?_; rintro e w2 ⟨rfl, ht2, hn2⟩))
          refine ⟨⟨f, left.eraseIdx q, outl ++ [vv], r, by omega, rfl, rfl, by rw [List.length_eraseIdx, if_pos hqlt]; omega, rfl, HMO.out, by simp; omega, ?_, ?_, hn2, ?_, ?_⟩, by simp [intOf]⟩
          · rw [List.append_assoc, List.singleton_append, ← HD.out]; exact HDE.out
          · have e : intsV (outl ++ [vv]) = intsV outl ++ [.int .i64 (vv : Int)] := by simp [intsV]
            have e2 : k - f = k - (f + 1) + 1 := by omega
            rw [e, e2]
            exact own_turn (by rw [← HTS.out]; exact hown2) ht2 hgV
          · exact ext_turn (HWT.out.ext _) ht2 (Nat.le_trans HE.out.size hbg)
          · rw [ht2.size]; exact Nat.le_trans (by rw [HTS.out]; exact Nat.le_refl _) (ext_size T z2)
        · obtain rfl : j = 0 := by omega
          have HOw := Lib.hid hown
          have HDe := Lib.hid hdec
          have HEw := Lib.hid hEw
          clear hown hdec hEw hNl
          have hd0 : outl = dec k (List.range k) p := by have := HDe.out; simpa [dec] using this
          rw [Nat.sub_zero, hd0] at HOw
          obtain ⟨g', cap, hv, hg', hgl⟩ := HOw.out.form (by omega)
          subst hv
          clear hd0
          go_wp2_with fail
          go_ret
          exact ⟨some ⟨g', 0, none⟩, cap, rfl, own_mono HOw.out (Nat.le_trans HEV.out.size (Nat.le_refl _)), HEw.out⟩
end Go.Proofs.Ytfdcapblgdlkaaa
