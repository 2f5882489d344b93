/- The program's greatest number of pairs (match, 85). -/
import Derived.Test.YthejomcibobieaaFind
import Derived.Test.YthejomcibobieaaMatched
namespace Go.Proofs.Ythejomcibobieaa
open Go.RowKit

/-- the partners of each point, as slices -/
structure ParIn (w : World) (gO np n : Nat) (nb : Nat → List Nat) : Prop where
  rows : ∀ i, i < np → ∃ A c, w.cell? ⟨gO, i, none⟩ = some (.slice A (nb i).length c) ∧ (nb i ≠ [] → ∃ g, A = some ⟨g, 0, none⟩ ∧ g < w.heap.size ∧ ∀ (j x : Nat), (nb i)[j]? = some x → w.cell? ⟨g, j, none⟩ = some (.int .i64 (x : Int)))
  out : gO < w.heap.size
  len : ∀ i, i < np → (nb i).length ≤ 1000
theorem ParIn.ok {w w' : World} {gO np n : Nat} {nb : Nat → List Nat} (h : ParIn w gO np n nb) (hlt : ∀ i j, j ∈ nb i → j < n) (hw : Ext w w') {gs gw : Nat} (h1 : w.heap.size ≤ gs) (h2 : w.heap.size ≤ gw) : ParOk w' gs gw gO np n nb := by
  have h0 := h.out
  refine ⟨by omega, fun i hi => ?_, fun i _ j hj => hlt i j hj, h.len⟩
  obtain ⟨A, c, r1, r2⟩ := h.rows i hi
  refine ⟨A, c, by rw [hw.cell (by exact h0)]; exact r1, fun hne => ?_⟩
  obtain ⟨g, e, hg, hc⟩ := r2 hne
  exact ⟨g, e, by omega, by omega, fun j x hx => by rw [hw.cell (by exact hg)]; exact hc j x hx⟩
theorem Two2.ext_ {gs gw : Nat} {w0 a b : World} (h : Ext w0 a) (k : Two2 gs gw a b) (h1 : w0.heap.size ≤ gs) (h2 : w0.heap.size ≤ gw) : Ext w0 b :=
  ⟨k.os.trans h.os, k.tape.trans h.tape, k.output.trans h.output, Nat.le_trans h.size k.size, fun x hx => (k.block x (Nat.lt_of_lt_of_le hx h.size) (by omega) (by omega)).trans (h.block x hx)⟩
theorem Blk.turn {gs gw : Nat} {w w' : World} {g : Nat} {t : TypeId} {c : Array Value} (h : Blk w g t c) (k : Two2 gs gw w w') (h1 : g ≠ gs) (h2 : g ≠ gw) : Blk w' g t c := (k.block g h.lt h1 h2).trans h
set_option maxRecDepth 100000 in
set_option maxHeartbeats 4000000 in
theorem match_any (np n gO cO : Nat) (A : Option Addr) (nb : Nat → List Nat) (hA : 0 < np → A = some ⟨gO, 0, none⟩) (hn : n ≤ 1000) (hnp : np ≤ 1000) (hlt : ∀ i j, j ∈ nb i → j < n) (w : World) (hpar : 0 < np → ParIn w gO np n nb) :
    Calls Try.prog 85 #[.slice A np cO, .int .i64 n] w fun e w' => e = .returned (.int .i64 (mmk nb np [])) ∧ Ext w w' := by
  have HP := Lib.hid hpar
  have HA := Lib.hid hA
  clear hpar hA
  go_enter Try.func85, Try.ntmps85
  go_wp2_with (at_make; refine wpList_make_blk _ rfl (.tmp 11) (.tmp 11) 107 rfl 3 (.int .i64 0) zInfoI n (by omega) rfl rfl ?_; intro z0 hB0; have o0 := Old.mk hB0.lt)
  have hs0 : (w.alloc (.cells #[.slice A np cO] 137)).heap.size = w.heap.size + 1 := by simp
  rw [hs0] at hB0
  have lG := hB0.lt
  have HX := Lib.hid (((Blk.new w 137 #[.slice A np cO]).ext z0).alloc (.cells #[.slice (some ⟨w.heap.size + 1, 0, none⟩) n n] 107))
  have HB := Lib.hid (show Blk ((ext (w.alloc (.cells #[.slice A np cO] 137)) z0).alloc (.cells #[.slice (some ⟨w.heap.size + 1, 0, none⟩) n n] 107)) (w.heap.size + 1) 3 (il (clr 0) n) from by rw [clr_zero]; exact hB0.alloc _)
  have H5 := Lib.hid (Blk.new (ext (w.alloc (.cells #[.slice A np cO] 137)) z0) 107 #[.slice (some ⟨w.heap.size + 1, 0, none⟩) n n])
  have HE := Lib.hid ((((Ext.refl w).alloc (.cells #[.slice A np cO] 137)).ext z0).alloc (.cells #[.slice (some ⟨w.heap.size + 1, 0, none⟩) n n] 107))
  clear hB0 o0
  generalize (ext (w.alloc (.cells #[.slice A np cO] 137)) z0).alloc (.cells #[.slice (some ⟨w.heap.size + 1, 0, none⟩) n n] 107) = V at *
  generalize (ext (w.alloc (.cells #[.slice A np cO] 137)) z0).heap.size = b5 at *
  clear hs0
  go_loopw [6, 15] (fun _ j wr => ∃ k : Nat, k ≤ n ∧ j = .int .i64 k ∧ Blk wr (w.heap.size + 1) 3 (il (clr k) n) ∧ Blk wr w.heap.size 137 #[.slice A np cO] ∧ Blk wr b5 107 #[.slice (some ⟨w.heap.size + 1, 0, none⟩) n n] ∧ Ext w wr) (fun _ j _ => n - (intOf j).toNat)
  case atStart => exact ⟨0, Nat.zero_le _, rfl, HB.out, HX.out, H5.out, HE.out⟩
  case round =>
    obtain ⟨k, hk, rfl, hB, hX, h5, hE⟩ := hrel
    have HB2 := Lib.hid hB
    have HX2 := Lib.hid hX
    have H52 := Lib.hid h5
    have HE2 := Lib.hid hE
    have q5 := h5.cell 0
    replace q5 : wr.cell? ⟨b5, 0, none⟩ = some (.slice (some ⟨w.heap.size + 1, 0, none⟩) n n) := q5
    clear HB HX H5 HE
    by_cases hkn : k < n
    · have hki : (k : Int) < n := by omega
      have c1 : wr.cell? ⟨w.heap.size + 1, k, none⟩ = some (.int .i64 (clr k k)) := by rw [hB.cell]; exact il_at _ hkn
      have f1 := hB.frozen k
      clear hB hE hX h5
      go_wp2_with fail
      refine ⟨⟨k + 1, by omega, by go_num, ?_, HX2.out.far (by show w.heap.size ≠ w.heap.size + 1; omega) _, H52.out.far (by show b5 ≠ w.heap.size + 1; omega) _, HE2.out.setCell (by show w.heap.size ≤ w.heap.size + 1; omega) _⟩, by simp [intOf]; omega⟩
      rw [← clr_set]
      exact HB2.out.set_ k _
    · obtain rfl : k = n := by omega
      have q2 : wr.cell? ⟨w.heap.size, 0, none⟩ = some (.slice A np cO) := hX.cell 0
      clear hB hE hX h5 q5
      have HB3 := Lib.hid (clr_all k ▸ HB2.out)
      clear HB2
      go_wp2_with fail
      clear q2
      go_loopw [7, 8, 9, 10, 24] (fun t _ _ _ j wr => ∃ (i m : Nat) (o : Nat → Int), i ≤ np ∧ j = .int .i64 i ∧ t = .int .i64 m ∧ m ≤ i ∧ Run nb i m o ∧ (∀ j, j < k → -1 ≤ o j ∧ o j < np) ∧ Blk wr (w.heap.size + 1) 3 (il o k) ∧ Blk wr w.heap.size 137 #[.slice A np cO] ∧ Blk wr b5 107 #[.slice (some ⟨w.heap.size + 1, 0, none⟩) k k] ∧ Ext w wr) (fun _ _ _ _ j _ => np - (intOf j).toNat)
      case atStart => exact ⟨0, 0, fun _ => -1, Nat.zero_le _, rfl, rfl, Nat.le_refl _, .zero, fun j _ => by show (-1 : Int) ≤ -1 ∧ (-1 : Int) < np; omega, HB3.out, HX2.out, H52.out, HE2.out⟩
      case round =>
        clear HB3 HE2 HX2 H52
        obtain ⟨i, m, o, hi, rfl, rfl, hmi, hr, ho, hB, hX, h5, hE⟩ := hrel
        have HR := Lib.hid hr
        have HO := Lib.hid ho
        have HB4 := Lib.hid hB
        have HX4 := Lib.hid hX
        have H54 := Lib.hid h5
        have HE4 := Lib.hid hE
        clear hr ho hB hE hX h5
        by_cases hin : i < np
        · have hii : (i : Int) < np := by omega
          have hAA := HA.out (by omega)
          have hPP := HP.out (by omega)
          subst hAA
          have HPP := Lib.hid hPP
          clear HP HA hPP
          go_wp2_with (at_make; refine wpList_make_blk _ rfl (.tmp 27) (.tmp 27) 122 rfl 4 (.bool false) zInfoB k (by omega) rfl rfl ?_; intro z1 hB1; have o1 := Old.mk hB1.lt; have HN := Lib.hid (Blk.new' ((ext wr z1).alloc (.cells #[.slice (some ⟨wr.heap.size, 0, none⟩) k k] 122)) 141 #[.nilFunc] ((ext wr z1).heap.size + 1) (by simp)); have cN : (((ext wr z1).alloc (.cells #[.slice (some ⟨wr.heap.size, 0, none⟩) k k] 122)).alloc (.cells #[.nilFunc] 141)).cell? ⟨(ext wr z1).heap.size + 1, 0, none⟩ = some .nilFunc := HN.out.cell 0; have fN := HN.out.frozen 0; have hoc : Value.oneCell' (.func (.func 91) #[] #[.pointer (some ⟨w.heap.size, 0, none⟩), .pointer (some ⟨(ext wr z1).heap.size, 0, none⟩), .pointer (some ⟨b5, 0, none⟩), .pointer (some ⟨(ext wr z1).heap.size + 1, 0, none⟩)]) = true := rfl)
          rw [run_store _ _ _ _ _ hoc]
          simp only [cN, fN]
          go_wp2_with fail
          have l1 := hB1.lt
          have l2 := HB4.out.lt
          have l5 := H54.out.lt
          have hE3 : Ext w (((ext wr z1).alloc (.cells #[.slice (some ⟨wr.heap.size, 0, none⟩) k k] 122)).alloc (.cells #[(.func (.func 91) #[] #[.pointer (some ⟨w.heap.size, 0, none⟩), .pointer (some ⟨(ext wr z1).heap.size, 0, none⟩), .pointer (some ⟨b5, 0, none⟩), .pointer (some ⟨(ext wr z1).heap.size + 1, 0, none⟩)])] 141)) := (((HE4.out.ext z1).alloc _).alloc _)
          have k2 : Blk (((ext wr z1).alloc (.cells #[.slice (some ⟨wr.heap.size, 0, none⟩) k k] 122)).alloc (.cells #[(.func (.func 91) #[] #[.pointer (some ⟨w.heap.size, 0, none⟩), .pointer (some ⟨(ext wr z1).heap.size, 0, none⟩), .pointer (some ⟨b5, 0, none⟩), .pointer (some ⟨(ext wr z1).heap.size + 1, 0, none⟩)])] 141)) w.heap.size 137 #[.slice (some ⟨gO, 0, none⟩) np cO] := ((HX4.out.ext z1).alloc _).alloc _
          have k5 : Blk (((ext wr z1).alloc (.cells #[.slice (some ⟨wr.heap.size, 0, none⟩) k k] 122)).alloc (.cells #[(.func (.func 91) #[] #[.pointer (some ⟨w.heap.size, 0, none⟩), .pointer (some ⟨(ext wr z1).heap.size, 0, none⟩), .pointer (some ⟨b5, 0, none⟩), .pointer (some ⟨(ext wr z1).heap.size + 1, 0, none⟩)])] 141)) b5 107 #[.slice (some ⟨w.heap.size + 1, 0, none⟩) k k] := ((H54.out.ext z1).alloc _).alloc _
          have k9 : Blk (((ext wr z1).alloc (.cells #[.slice (some ⟨wr.heap.size, 0, none⟩) k k] 122)).alloc (.cells #[(.func (.func 91) #[] #[.pointer (some ⟨w.heap.size, 0, none⟩), .pointer (some ⟨(ext wr z1).heap.size, 0, none⟩), .pointer (some ⟨b5, 0, none⟩), .pointer (some ⟨(ext wr z1).heap.size + 1, 0, none⟩)])] 141)) (ext wr z1).heap.size 122 #[.slice (some ⟨wr.heap.size, 0, none⟩) k k] := (Blk.new (ext wr z1) 122 _).alloc _
          have k10 : Blk (((ext wr z1).alloc (.cells #[.slice (some ⟨wr.heap.size, 0, none⟩) k k] 122)).alloc (.cells #[(.func (.func 91) #[] #[.pointer (some ⟨w.heap.size, 0, none⟩), .pointer (some ⟨(ext wr z1).heap.size, 0, none⟩), .pointer (some ⟨b5, 0, none⟩), .pointer (some ⟨(ext wr z1).heap.size + 1, 0, none⟩)])] 141)) ((ext wr z1).heap.size + 1) 141 #[(.func (.func 91) #[] #[.pointer (some ⟨w.heap.size, 0, none⟩), .pointer (some ⟨(ext wr z1).heap.size, 0, none⟩), .pointer (some ⟨b5, 0, none⟩), .pointer (some ⟨(ext wr z1).heap.size + 1, 0, none⟩)])] := Blk.new' ((ext wr z1).alloc (.cells #[.slice (some ⟨wr.heap.size, 0, none⟩) k k] 122)) 141 _ _ (by simp)
          have ks : Blk (((ext wr z1).alloc (.cells #[.slice (some ⟨wr.heap.size, 0, none⟩) k k] 122)).alloc (.cells #[(.func (.func 91) #[] #[.pointer (some ⟨w.heap.size, 0, none⟩), .pointer (some ⟨(ext wr z1).heap.size, 0, none⟩), .pointer (some ⟨b5, 0, none⟩), .pointer (some ⟨(ext wr z1).heap.size + 1, 0, none⟩)])] 141)) wr.heap.size 4 (bl (fun _ => false) k) := by rw [← seen_none]; exact (hB1.alloc _).alloc _
          have kw : Blk (((ext wr z1).alloc (.cells #[.slice (some ⟨wr.heap.size, 0, none⟩) k k] 122)).alloc (.cells #[(.func (.func 91) #[] #[.pointer (some ⟨w.heap.size, 0, none⟩), .pointer (some ⟨(ext wr z1).heap.size, 0, none⟩), .pointer (some ⟨b5, 0, none⟩), .pointer (some ⟨(ext wr z1).heap.size + 1, 0, none⟩)])] 141)) (w.heap.size + 1) 3 (il o k) := ((HB4.out.ext z1).alloc _).alloc _
          have C := find_any np k gO cO wr.heap.size (w.heap.size + 1) 4 3 w.heap.size (ext wr z1).heap.size b5 ((ext wr z1).heap.size + 1) nb (by omega) hn ⟨by omega, by omega⟩ ⟨by omega, by omega⟩ ⟨by omega, by omega⟩ ⟨by omega, by omega⟩ _ (fun _ => false) o i _ rfl hin HO.out (HPP.out.ok hlt hE3 (by omega) (by omega)) ⟨k2.cell 0, k9.cell 0, k5.cell 0, k10.cell 0⟩ ks kw
          refine Calls.aug C fun r s2 o2 w2 X => ?_
          have K2 := Lib.hid X.own
          have KX := Lib.hid (k2.turn X.turn (by omega) (by omega))
          have K5 := Lib.hid (k5.turn X.turn (by omega) (by omega))
          have KE := Lib.hid (Two2.ext_ hE3 X.turn (by omega) (by omega))
          have K4 := Lib.hid X.rng
          have KA := Lib.hid X.aug
          clear X C hE3 k2 k5 k9 k10 ks kw l1 l2 l5 hB1 o1 HN cN fN hoc
          cases r
          · go_wp2_with fail
            exact ⟨⟨i + 1, m, o2, by omega, by go_num, rfl, by omega, .miss HR.out KA.out, K4.out, K2.out, KX.out, K5.out, KE.out⟩, by simp [intOf]; omega⟩
          · go_wp2_with fail
            exact ⟨⟨i + 1, m + 1, o2, by omega, by go_num, by go_num, by omega, .hit HR.out KA.out, K4.out, K2.out, KX.out, K5.out, KE.out⟩, by simp [intOf]; omega⟩
        · obtain rfl : i = np := by omega
          have HF := Lib.hid (isMax_eq (run_max (n := k) hlt HR.out).1)
          go_wp2_with fail
          go_ret
          exact ⟨ret_of (by rw [HF.out]; rfl), HE4.out⟩
end Go.Proofs.Ythejomcibobieaa
