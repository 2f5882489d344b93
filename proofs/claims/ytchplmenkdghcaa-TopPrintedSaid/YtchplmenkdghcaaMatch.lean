/- The program's search for another partner (find, 91): it is an Aug, too. -/
import Derived.Test.YtchplmenkdghcaaMatched
namespace Go.Proofs.Ytchplmenkdghcaa
open Go.RowKit
/-- the variables that find captures -/
structure Caps (w : World) (b2 b9 b5 b10 gO np cO gs gw n : Nat) : Prop where
  par : w.cell? ⟨b2, 0, none⟩ = some (.slice (some ⟨gO, 0, none⟩) np cO)
  seen : w.cell? ⟨b9, 0, none⟩ = some (.slice (some ⟨gs, 0, none⟩) n n)
  own : w.cell? ⟨b5, 0, none⟩ = some (.slice (some ⟨gw, 0, none⟩) n n)
  self : w.cell? ⟨b10, 0, none⟩ = some (.func (.func 56) #[] #[.pointer (some ⟨b2, 0, none⟩), .pointer (some ⟨b9, 0, none⟩), .pointer (some ⟨b5, 0, none⟩), .pointer (some ⟨b10, 0, none⟩)])
/-- only the blocks of what was seen and of the owners turn -/
structure Two2 (gs gw : Nat) (w w' : World) : Prop where
  os : w'.os = w.os
  tape : w'.tape = w.tape
  output : w'.output = w.output
  size : w.heap.size ≤ w'.heap.size
  block : ∀ b, b < w.heap.size → b ≠ gs → b ≠ gw → w'.heap[b]? = w.heap[b]?
theorem Two2.refl (gs gw : Nat) (w : World) : Two2 gs gw w w := ⟨rfl, rfl, rfl, Nat.le_refl _, fun _ _ _ _ => rfl⟩
theorem Two2.trans {gs gw : Nat} {a b c : World} (h : Two2 gs gw a b) (k : Two2 gs gw b c) : Two2 gs gw a c :=
  ⟨k.os.trans h.os, k.tape.trans h.tape, k.output.trans h.output, Nat.le_trans h.size k.size, fun x hx h1 h2 => (k.block x (Nat.lt_of_lt_of_le hx h.size) h1 h2).trans (h.block x hx h1 h2)⟩
theorem Two2.set_ {gs gw : Nat} {a b : World} (h : Two2 gs gw a b) {p : Addr} (hp : p.block = gs ∨ p.block = gw) (v : Value) : Two2 gs gw a (b.setCell p v) :=
  ⟨h.os, h.tape, h.output, by simpa [World.setCell] using h.size, fun x hx h1 h2 => by
    rw [Below.heap_setCell b p v x (by rcases hp with e | e <;> rw [e] <;> assumption)]
    exact h.block x hx h1 h2⟩
theorem Two2.drew {gs gw : Nat} {a b : World} (h : Two2 gs gw a b) : Two2 gs gw a b.drew := ⟨h.os, h.tape, h.output, h.size, h.block⟩
theorem Two2.cell {gs gw : Nat} {w w' : World} (h : Two2 gs gw w w') {b : Nat} (hb : b < w.heap.size) (h1 : b ≠ gs) (h2 : b ≠ gw) (o : Nat) : w'.cell? ⟨b, o, none⟩ = w.cell? ⟨b, o, none⟩ := by
  unfold World.cell?
  rw [h.block b hb h1 h2]
theorem cell_lt {w : World} {b o : Nat} {v : Value} (h : w.cell? ⟨b, o, none⟩ = some v) : b < w.heap.size := by
  rcases Nat.lt_or_ge b w.heap.size with h1 | h1
  · exact h1
  · unfold World.cell? at h
    rw [Array.getElem?_eq_none h1] at h
    cases h
/-- the partners of each point, as slices, in blocks that are neither gs nor gw -/
structure ParOk (w : World) (gs gw gO np n : Nat) (nb : Nat → List Nat) : Prop where
  out : gO ≠ gs ∧ gO ≠ gw
  rows : ∀ i, i < np → ∃ A c, w.cell? ⟨gO, i, none⟩ = some (.slice A (nb i).length c) ∧ (nb i ≠ [] → ∃ g, A = some ⟨g, 0, none⟩ ∧ g ≠ gs ∧ g ≠ gw ∧ ∀ (j x : Nat), (nb i)[j]? = some x → w.cell? ⟨g, j, none⟩ = some (.int .i64 (x : Int)))
  lt : ∀ i, i < np → ∀ j ∈ nb i, j < n
  len : ∀ i, i < np → (nb i).length ≤ 1000
theorem ParOk.turn {w w' : World} {gs gw gO np n : Nat} {nb : Nat → List Nat} (h : ParOk w gs gw gO np n nb) (hb : Two2 gs gw w w') : ParOk w' gs gw gO np n nb := by
  refine ⟨h.out, fun i hi => ?_, h.lt, h.len⟩
  obtain ⟨A, c, h1, h2⟩ := h.rows i hi
  refine ⟨A, c, by rw [hb.cell (cell_lt h1) h.out.1 h.out.2]; exact h1, fun hne => ?_⟩
  obtain ⟨g, e, hg, hg2, hc⟩ := h2 hne
  exact ⟨g, e, hg, hg2, fun j x hx => by rw [hb.cell (cell_lt (hc j x hx)) hg hg2]; exact hc j x hx⟩
theorem Caps.turn {w w' : World} {b2 b9 b5 b10 gO np cO gs gw n : Nat} (h : Caps w b2 b9 b5 b10 gO np cO gs gw n) (hb : Two2 gs gw w w') (h2 : b2 ≠ gs ∧ b2 ≠ gw) (h9 : b9 ≠ gs ∧ b9 ≠ gw) (h5 : b5 ≠ gs ∧ b5 ≠ gw) (h10 : b10 ≠ gs ∧ b10 ≠ gw) : Caps w' b2 b9 b5 b10 gO np cO gs gw n :=
  ⟨by rw [hb.cell (cell_lt h.par) h2.1 h2.2]; exact h.par, by rw [hb.cell (cell_lt h.seen) h9.1 h9.2]; exact h.seen, by rw [hb.cell (cell_lt h.own) h5.1 h5.2]; exact h.own, by rw [hb.cell (cell_lt h.self) h10.1 h10.2]; exact h.self⟩
/-- what a search returns -/
structure FindRet (nb : Nat → List Nat) (np n gs gw ts tw i : Nat) (js : List Nat) (s : Nat → Bool) (o : Nat → Int) (w : World) (r : Bool) (s' : Nat → Bool) (o' : Nat → Int) (w' : World) : Prop where
  aug : Aug nb i js s o r s' o'
  rng : ∀ j, j < n → -1 ≤ o' j ∧ o' j < np
  seen : Blk w' gs ts (bl s' n)
  own : Blk w' gw tw (il o' n)
  turn : Two2 gs gw w w'
set_option maxRecDepth 100000 in
set_option maxHeartbeats 4000000 in
theorem find_any (np n gO cO gs gw ts tw b2 b9 b5 b10 : Nat) (nb : Nat → List Nat) (hsw : gs ≠ gw) (_ : n ≤ 1000) (hb2 : b2 ≠ gs ∧ b2 ≠ gw) (hb9 : b9 ≠ gs ∧ b9 ≠ gw) (hb5 : b5 ≠ gs ∧ b5 ≠ gw) (hb10 : b10 ≠ gs ∧ b10 ≠ gw) : ∀ (m : Nat) (s : Nat → Bool) (o : Nat → Int) (i : Nat) (w : World), unseen n s = m → i < np →
    (∀ j, j < n → -1 ≤ o j ∧ o j < np) → ParOk w gs gw gO np n nb → Caps w b2 b9 b5 b10 gO np cO gs gw n → Blk w gs ts (bl s n) → Blk w gw tw (il o n) →
    Calls Try.prog 56 #[.int .i64 i, .pointer (some ⟨b2, 0, none⟩), .pointer (some ⟨b9, 0, none⟩), .pointer (some ⟨b5, 0, none⟩), .pointer (some ⟨b10, 0, none⟩)] w fun e w' => ∃ r s' o', e = .returned (.bool r) ∧ FindRet nb np n gs gw ts tw i (nb i) s o w r s' o' w' := by
  intro m
  induction m using Nat.strongRecOn with
  | ind m ih =>
  intro s o i w hm hi ho hpar hcap hS hO
  have IH := Lib.hid ih
  have HO := Lib.hid ho
  have HP := Lib.hid hpar
  have HC := Lib.hid hcap
  have HS := Lib.hid hS
  have HW := Lib.hid hO
  have hii : (i : Int) < np := by omega
  obtain ⟨A, c, r1, r2⟩ := hpar.rows i hi
  have HR2 := Lib.hid r2
  have q1 := hcap.par
  have hlen := hpar.len i hi
  clear ih ho hpar hcap hS hO r2
  go_enter Try.func56, Try.ntmps56
  go_wp2_with fail
  clear q1 r1
  go_loopw [8, 14] (fun x j wr => ∃ (k : Nat) (s1 : Nat → Bool) (o1 : Nat → Int), k ≤ (nb i).length ∧ j = .int .i64 k ∧ Blk wr gs ts (bl s1 n) ∧ Blk wr gw tw (il o1 n) ∧ Two2 gs gw w wr ∧ (∀ j, j < n → -1 ≤ o1 j ∧ o1 j < np) ∧ unseen n s1 ≤ m ∧
      (∀ r s' o', Aug nb i ((nb i).drop k) s1 o1 r s' o' → Aug nb i (nb i) s o r s' o')) (fun _ j _ => (nb i).length - (intOf j).toNat)
  case atStart => exact ⟨0, s, o, Nat.zero_le _, rfl, HS.out, HW.out, Two2.refl _ _ _, HO.out, by omega, fun _ _ _ h => h⟩
  case round =>
    obtain ⟨k, s1, o1, hk, rfl, h1, h2, h3, h4, h5, h6⟩ := hrel
    have G1 := Lib.hid h1
    have G2 := Lib.hid h2
    have G3 := Lib.hid h3
    have G4 := Lib.hid h4
    have G6 := Lib.hid h6
    clear HS HW HO
    by_cases hkn : k < (nb i).length
    · have hki : (k : Int) < (nb i).length := by omega
      have hne : nb i ≠ [] := fun e => by rw [e] at hkn; exact absurd hkn (Nat.not_lt_zero _)
      have hP := HP.out.turn h3
      have hCp := HC.out.turn h3 hb2 hb9 hb5 hb10
      obtain ⟨g, rfl, hg1, hg2, hc0⟩ := HR2.out hne
      obtain ⟨y, hy⟩ : ∃ y, (nb i)[k]? = some y := ⟨_, List.getElem?_eq_getElem hkn⟩
      have hyn : y < n := hP.lt i hi y (List.mem_of_getElem? hy)
      have hyi : (y : Int) < n := by omega
      have c1 : wr.cell? ⟨g, k, none⟩ = some (.int .i64 (y : Int)) := by rw [h3.cell (cell_lt (hc0 k y hy)) hg1 hg2]; exact hc0 k y hy
      have hdrop : (nb i).drop k = y :: (nb i).drop (k + 1) := by
        rw [List.drop_eq_getElem_cons hkn]
        rw [List.getElem?_eq_getElem hkn] at hy
        injection hy with hy
        rw [hy]
      have HD := Lib.hid hdrop
      have q2 := hCp.seen
      have q3 := hCp.own
      have q4 := hCp.self
      have HP2 := Lib.hid hP
      have HC2 := Lib.hid hCp
      have c4 : wr.cell? ⟨gs, y, none⟩ = some (.bool (s1 y)) := by rw [h1.cell]; exact bl_at _ hyn
      have c5 : wr.cell? ⟨gw, y, none⟩ = some (.int .i64 (o1 y)) := by rw [h2.cell]; exact il_at _ hyn
      have f1 := h1.frozen y
      have f2 := h2.frozen y
      have hok := h4 y hyn
      have hn1 : b9 ≠ gs := hb9.1
      have hn2 : b5 ≠ gs := hb5.1
      have hn3 : b10 ≠ gs := hb10.1
      have hn4 : gw ≠ gs := fun e => hsw e.symm
      clear h1 h2 h3 h4 h6 hc0 hy hP hCp hdrop
      cases hsk : s1 y
      rotate_left
      · rw [hsk] at c4
        go_wp2_with fail
        exact ⟨⟨k + 1, s1, o1, by omega, by go_num, G1.out, G2.out, G3.out, G4.out, h5, fun r s' o' h => G6.out r s' o' (by rw [HD.out]; exact .skip hsk h)⟩, by simp [intOf]; omega⟩
      rw [hsk] at c4
      have HS1 := Lib.hid (bl_set s1 n y true)
      have HO1 := Lib.hid (fun (o : Nat → Int) => il_set o n y i)
      have hw1 := Lib.hid (G3.out.set_ (p := ⟨gs, y, none⟩) (.inl rfl) (.bool true))
      have hs1 := Lib.hid (show Blk (wr.setCell ⟨gs, y, none⟩ (.bool true)) gs ts (bl (upd s1 y true) n) from HS1.out ▸ G1.out.set_ y _)
      have ho1 := Lib.hid (show Blk (wr.setCell ⟨gs, y, none⟩ (.bool true)) gw tw (il o1 n) from G2.out.far hn4 _)
      by_cases hneg : o1 y < 0
      · have b1 : decide (o1 y < 0) = true := by simpa using hneg
        go_wp2_with fail
        have HCp := HC.out.turn hw1.out hb2 hb9 hb5 hb10
        have p3 := HCp.own
        have p4 := HCp.self
        have p5 : (wr.setCell ⟨gs, y, none⟩ (.bool true)).cell? ⟨gw, y, none⟩ = some (.int .i64 (o1 y)) := by rw [ho1.out.cell]; exact il_at _ hyn
        have p6 := ho1.out.frozen y
        generalize wr.setCell ⟨gs, y, none⟩ (.bool true) = V1 at *
        clear c1 c4 c5 f1 f2 q2 q3 q4 HCp
        refine wp_region_tail 11 (by kernel_rfl) (by kernel_rfl) ?_
        simp only [List.take_succ_cons, List.take_zero, List.drop_succ_cons, List.drop_zero]
        repeat still_step
        refine wpStill_nil ?_
        go_wp2_with fail
        go_ret
        refine ⟨true, upd s1 y true, upd o1 y i, rfl, G6.out _ _ _ (by rw [HD.out]; exact .free hsk hneg), upd_rng G4.out hi y, (hs1.out.far hsw _).drew, ?_, (hw1.out.set_ (p := ⟨gw, y, none⟩) (.inr rfl) _).drew⟩
        rw [← HO1.out]
        exact (ho1.out.set_ y _).drew
      · have b1 : decide (o1 y < 0) = false := by simpa using hneg
        go_wp2_with fail
        have HCp := HC.out.turn hw1.out hb2 hb9 hb5 hb10
        have p3 := HCp.own
        have p4 := HCp.self
        have p5 : (wr.setCell ⟨gs, y, none⟩ (.bool true)).cell? ⟨gw, y, none⟩ = some (.int .i64 (o1 y)) := by rw [ho1.out.cell]; exact il_at _ hyn
        have p6 := ho1.out.frozen y
        generalize wr.setCell ⟨gs, y, none⟩ (.bool true) = V1 at *
        clear c1 c4 c5 f1 f2 q2 q3 q4 HCp
        refine wp_region_tail 11 (by kernel_rfl) (by kernel_rfl) ?_
        simp only [List.take_succ_cons, List.take_zero, List.drop_succ_cons, List.drop_zero]
        repeat still_step
        refine wpStill_nil ?_
        go_wp2_with fail
        have hoc : ((o1 y).toNat : Int) = o1 y := by omega
        have hlt : unseen n (upd s1 y true) < m := Nat.lt_of_lt_of_le (unseen_upd hyn hsk) h5
        have C := IH.out _ hlt (upd s1 y true) o1 (o1 y).toNat V1.drew rfl (by omega) G4.out (HP.out.turn hw1.out.drew) (HC.out.turn hw1.out.drew hb2 hb9 hb5 hb10) hs1.out.drew ho1.out.drew
        rw [hoc] at C
        refine Calls.aug C fun r s2 o2 w2 X => ?_
        have K1 := Lib.hid X.seen
        have K2 := Lib.hid X.own
        have K3 := Lib.hid (hw1.out.drew.trans X.turn)
        have K4 := Lib.hid X.rng
        have K5 := Lib.hid X.aug
        have e1 := X.aug
        clear X C hlt p3 p4 p5 p6
        have HCp := HC.out.turn K3.out hb2 hb9 hb5 hb10
        have p3 := HCp.own
        have f2 := K2.out.frozen y
        have c5 : ∃ v, w2.cell? ⟨gw, y, none⟩ = some v := ⟨_, by rw [K2.out.cell]; exact il_at _ hyn⟩
        obtain ⟨v5, c5⟩ := c5
        clear HCp
        cases r
        · have K6 := Lib.hid (unseen_mono (n := n) (fun j => aug_seen e1 j))
          have hsu := unseen_upd hyn hsk
          go_wp2_with fail
          exact ⟨⟨k + 1, s2, o2, by omega, by go_num, K1.out, K2.out, K3.out, K4.out, by have := K6.out; omega, fun r s' o' h => G6.out r s' o' (by rw [HD.out]; exact .pass hsk (by omega) K5.out h)⟩, by simp [intOf]; omega⟩
        · go_wp2_with fail
          go_ret
          refine ⟨true, s2, upd o2 y i, rfl, G6.out _ _ _ (by rw [HD.out]; exact .take hsk (by omega) K5.out), upd_rng K4.out hi y, K1.out.far hsw _, ?_, K3.out.set_ (p := ⟨gw, y, none⟩) (.inr rfl) _⟩
          rw [← HO1.out]
          exact K2.out.set_ y _
    · obtain rfl : k = (nb i).length := by omega
      clear h1 h2 h3 h4 h6
      go_wp2_with fail
      go_ret
      exact ⟨false, s1, o1, rfl, G6.out false s1 o1 (by rw [List.drop_length]; exact .nil), G4.out, G1.out, G2.out, G3.out⟩
end Go.Proofs.Ytchplmenkdghcaa
/- The program's greatest number of pairs (match, 85). -/
namespace Go.Proofs.Ytchplmenkdghcaa
open Go.RowKit
/-- the partners of each point, as slices -/
structure ParIn (w : World) (gO np n : Nat) (nb : Nat → List Nat) : Prop where
  rows : ∀ i, i < np → ∃ A c, w.cell? ⟨gO, i, none⟩ = some (.slice A (nb i).length c) ∧ (nb i ≠ [] → ∃ g, A = some ⟨g, 0, none⟩ ∧ g < w.heap.size ∧ ∀ (j x : Nat), (nb i)[j]? = some x → w.cell? ⟨g, j, none⟩ = some (.int .i64 (x : Int)))
  out : gO < w.heap.size
  len : ∀ i, i < np → (nb i).length ≤ 1000
theorem ParIn.ok {w w' : World} {gO np n : Nat} {nb : Nat → List Nat} (h : ParIn w gO np n nb) (hlt : ∀ i j, j ∈ nb i → j < n) (hw : Ext w w') {gs gw : Nat} (h1 : w.heap.size ≤ gs) (h2 : w.heap.size ≤ gw) : ParOk w' gs gw gO np n nb := by
  have h0 := h.out
  refine ⟨by omega, fun i hi => ?_, fun i _ j hj => hlt i j hj, h.len⟩
  obtain ⟨A, c, r1, r2⟩ := h.rows i hi
  refine ⟨A, c, by rw [hw.cell (by exact h0)]; exact r1, fun hne => ?_⟩
  obtain ⟨g, e, hg, hc⟩ := r2 hne
  exact ⟨g, e, by omega, by omega, fun j x hx => by rw [hw.cell (by exact hg)]; exact hc j x hx⟩
theorem Two2.ext_ {gs gw : Nat} {w0 a b : World} (h : Ext w0 a) (k : Two2 gs gw a b) (h1 : w0.heap.size ≤ gs) (h2 : w0.heap.size ≤ gw) : Ext w0 b :=
  ⟨k.os.trans h.os, k.tape.trans h.tape, k.output.trans h.output, Nat.le_trans h.size k.size, fun x hx => (k.block x (Nat.lt_of_lt_of_le hx h.size) (by omega) (by omega)).trans (h.block x hx)⟩
theorem Blk.turn {gs gw : Nat} {w w' : World} {g : Nat} {t : TypeId} {c : Array Value} (h : Blk w g t c) (k : Two2 gs gw w w') (h1 : g ≠ gs) (h2 : g ≠ gw) : Blk w' g t c := (k.block g h.lt h1 h2).trans h
set_option maxRecDepth 100000 in
set_option maxHeartbeats 4000000 in
theorem match_any (np n gO cO : Nat) (A : Option Addr) (nb : Nat → List Nat) (hA : 0 < np → A = some ⟨gO, 0, none⟩) (hn : n ≤ 1000) (hnp : np ≤ 1000) (hlt : ∀ i j, j ∈ nb i → j < n) (w : World) (hpar : 0 < np → ParIn w gO np n nb) :
    Calls Try.prog 51 #[.slice A np cO, .int .i64 n] w fun e w' => e = .returned (.int .i64 (mmk nb np [])) ∧ Ext w w' := by
  have HP := Lib.hid hpar
  have HA := Lib.hid hA
  clear hpar hA
  go_enter Try.func51, Try.ntmps51
  go_wp2_with (at_make; refine wpList_make_blk _ rfl (.tmp 11) (.tmp 11) 72 rfl 3 (.int .i64 0) zInfoI n (by omega) rfl rfl ?_; intro z0 hB0; have o0 := Old.mk hB0.lt)
  have hs0 : (w.alloc (.cells #[.slice A np cO] 111)).heap.size = w.heap.size + 1 := by simp
  rw [hs0] at hB0
  have lG := hB0.lt
  have HX := Lib.hid (((Blk.new w 111 #[.slice A np cO]).ext z0).alloc (.cells #[.slice (some ⟨w.heap.size + 1, 0, none⟩) n n] 72))
  have HB := Lib.hid (show Blk ((ext (w.alloc (.cells #[.slice A np cO] 111)) z0).alloc (.cells #[.slice (some ⟨w.heap.size + 1, 0, none⟩) n n] 72)) (w.heap.size + 1) 3 (il (clr 0) n) from by rw [clr_zero]; exact hB0.alloc _)
  have H5 := Lib.hid (Blk.new (ext (w.alloc (.cells #[.slice A np cO] 111)) z0) 72 #[.slice (some ⟨w.heap.size + 1, 0, none⟩) n n])
  have HE := Lib.hid ((((Ext.refl w).alloc (.cells #[.slice A np cO] 111)).ext z0).alloc (.cells #[.slice (some ⟨w.heap.size + 1, 0, none⟩) n n] 72))
  clear hB0 o0
  generalize (ext (w.alloc (.cells #[.slice A np cO] 111)) z0).alloc (.cells #[.slice (some ⟨w.heap.size + 1, 0, none⟩) n n] 72) = V at *
  generalize (ext (w.alloc (.cells #[.slice A np cO] 111)) z0).heap.size = b5 at *
  clear hs0
  go_loopw [6, 15] (fun _ j wr => ∃ k : Nat, k ≤ n ∧ j = .int .i64 k ∧ Blk wr (w.heap.size + 1) 3 (il (clr k) n) ∧ Blk wr w.heap.size 111 #[.slice A np cO] ∧ Blk wr b5 72 #[.slice (some ⟨w.heap.size + 1, 0, none⟩) n n] ∧ Ext w wr) (fun _ j _ => n - (intOf j).toNat)
  case atStart => exact ⟨0, Nat.zero_le _, rfl, HB.out, HX.out, H5.out, HE.out⟩
  case round =>
    obtain ⟨k, hk, rfl, hB, hX, h5, hE⟩ := hrel
    have HB2 := Lib.hid hB
    have HX2 := Lib.hid hX
    have H52 := Lib.hid h5
    have HE2 := Lib.hid hE
    have q5 := h5.cell 0
    replace q5 : wr.cell? ⟨b5, 0, none⟩ = some (.slice (some ⟨w.heap.size + 1, 0, none⟩) n n) := q5
    clear HB HX H5 HE
    by_cases hkn : k < n
    · have hki : (k : Int) < n := by omega
      have c1 : wr.cell? ⟨w.heap.size + 1, k, none⟩ = some (.int .i64 (clr k k)) := by rw [hB.cell]; exact il_at _ hkn
      have f1 := hB.frozen k
      clear hB hE hX h5
      go_wp2_with fail
      refine ⟨⟨k + 1, by omega, by go_num, ?_, HX2.out.far (by show w.heap.size ≠ w.heap.size + 1; omega) _, H52.out.far (by show b5 ≠ w.heap.size + 1; omega) _, HE2.out.setCell (by show w.heap.size ≤ w.heap.size + 1; omega) _⟩, by simp [intOf]; omega⟩
      rw [← clr_set]
      exact HB2.out.set_ k _
    · obtain rfl : k = n := by omega
      have q2 : wr.cell? ⟨w.heap.size, 0, none⟩ = some (.slice A np cO) := hX.cell 0
      clear hB hE hX h5 q5
      have HB3 := Lib.hid (clr_all k ▸ HB2.out)
      clear HB2
      go_wp2_with fail
      clear q2
      go_loopw [7, 8, 9, 10, 24] (fun t _ _ _ j wr => ∃ (i m : Nat) (o : Nat → Int), i ≤ np ∧ j = .int .i64 i ∧ t = .int .i64 m ∧ m ≤ i ∧ Run nb i m o ∧ (∀ j, j < k → -1 ≤ o j ∧ o j < np) ∧ Blk wr (w.heap.size + 1) 3 (il o k) ∧ Blk wr w.heap.size 111 #[.slice A np cO] ∧ Blk wr b5 72 #[.slice (some ⟨w.heap.size + 1, 0, none⟩) k k] ∧ Ext w wr) (fun _ _ _ _ j _ => np - (intOf j).toNat)
      case atStart => exact ⟨0, 0, fun _ => -1, Nat.zero_le _, rfl, rfl, Nat.le_refl _, .zero, fun j _ => by show (-1 : Int) ≤ -1 ∧ (-1 : Int) < np; omega, HB3.out, HX2.out, H52.out, HE2.out⟩
      case round =>
        clear HB3 HE2 HX2 H52
        obtain ⟨i, m, o, hi, rfl, rfl, hmi, hr, ho, hB, hX, h5, hE⟩ := hrel
        have HR := Lib.hid hr
        have HO := Lib.hid ho
        have HB4 := Lib.hid hB
        have HX4 := Lib.hid hX
        have H54 := Lib.hid h5
        have HE4 := Lib.hid hE
        clear hr ho hB hE hX h5
        by_cases hin : i < np
        · have hii : (i : Int) < np := by omega
          have hAA := HA.out (by omega)
          have hPP := HP.out (by omega)
          subst hAA
          have HPP := Lib.hid hPP
          clear HP HA hPP
          go_wp2_with (at_make; refine wpList_make_blk _ rfl (.tmp 27) (.tmp 27) 22 rfl 4 (.bool false) zInfoB k (by omega) rfl rfl ?_; intro z1 hB1; have o1 := Old.mk hB1.lt; have HN := Lib.hid (Blk.new' ((ext wr z1).alloc (.cells #[.slice (some ⟨wr.heap.size, 0, none⟩) k k] 22)) 117 #[.nilFunc] ((ext wr z1).heap.size + 1) (by simp)); have cN : (((ext wr z1).alloc (.cells #[.slice (some ⟨wr.heap.size, 0, none⟩) k k] 22)).alloc (.cells #[.nilFunc] 117)).cell? ⟨(ext wr z1).heap.size + 1, 0, none⟩ = some .nilFunc := HN.out.cell 0; have fN := HN.out.frozen 0; have hoc : Value.oneCell' (.func (.func 56) #[] #[.pointer (some ⟨w.heap.size, 0, none⟩), .pointer (some ⟨(ext wr z1).heap.size, 0, none⟩), .pointer (some ⟨b5, 0, none⟩), .pointer (some ⟨(ext wr z1).heap.size + 1, 0, none⟩)]) = true := rfl)
          rw [run_store _ _ _ _ _ hoc]
          simp only [cN, fN]
          go_wp2_with fail
          have l1 := hB1.lt
          have l2 := HB4.out.lt
          have l5 := H54.out.lt
          have hE3 : Ext w (((ext wr z1).alloc (.cells #[.slice (some ⟨wr.heap.size, 0, none⟩) k k] 22)).alloc (.cells #[(.func (.func 56) #[] #[.pointer (some ⟨w.heap.size, 0, none⟩), .pointer (some ⟨(ext wr z1).heap.size, 0, none⟩), .pointer (some ⟨b5, 0, none⟩), .pointer (some ⟨(ext wr z1).heap.size + 1, 0, none⟩)])] 117)) := (((HE4.out.ext z1).alloc _).alloc _)
          have k2 : Blk (((ext wr z1).alloc (.cells #[.slice (some ⟨wr.heap.size, 0, none⟩) k k] 22)).alloc (.cells #[(.func (.func 56) #[] #[.pointer (some ⟨w.heap.size, 0, none⟩), .pointer (some ⟨(ext wr z1).heap.size, 0, none⟩), .pointer (some ⟨b5, 0, none⟩), .pointer (some ⟨(ext wr z1).heap.size + 1, 0, none⟩)])] 117)) w.heap.size 111 #[.slice (some ⟨gO, 0, none⟩) np cO] := ((HX4.out.ext z1).alloc _).alloc _
          have k5 : Blk (((ext wr z1).alloc (.cells #[.slice (some ⟨wr.heap.size, 0, none⟩) k k] 22)).alloc (.cells #[(.func (.func 56) #[] #[.pointer (some ⟨w.heap.size, 0, none⟩), .pointer (some ⟨(ext wr z1).heap.size, 0, none⟩), .pointer (some ⟨b5, 0, none⟩), .pointer (some ⟨(ext wr z1).heap.size + 1, 0, none⟩)])] 117)) b5 72 #[.slice (some ⟨w.heap.size + 1, 0, none⟩) k k] := ((H54.out.ext z1).alloc _).alloc _
          have k9 : Blk (((ext wr z1).alloc (.cells #[.slice (some ⟨wr.heap.size, 0, none⟩) k k] 22)).alloc (.cells #[(.func (.func 56) #[] #[.pointer (some ⟨w.heap.size, 0, none⟩), .pointer (some ⟨(ext wr z1).heap.size, 0, none⟩), .pointer (some ⟨b5, 0, none⟩), .pointer (some ⟨(ext wr z1).heap.size + 1, 0, none⟩)])] 117)) (ext wr z1).heap.size 22 #[.slice (some ⟨wr.heap.size, 0, none⟩) k k] := (Blk.new (ext wr z1) 22 _).alloc _
          have k10 : Blk (((ext wr z1).alloc (.cells #[.slice (some ⟨wr.heap.size, 0, none⟩) k k] 22)).alloc (.cells #[(.func (.func 56) #[] #[.pointer (some ⟨w.heap.size, 0, none⟩), .pointer (some ⟨(ext wr z1).heap.size, 0, none⟩), .pointer (some ⟨b5, 0, none⟩), .pointer (some ⟨(ext wr z1).heap.size + 1, 0, none⟩)])] 117)) ((ext wr z1).heap.size + 1) 117 #[(.func (.func 56) #[] #[.pointer (some ⟨w.heap.size, 0, none⟩), .pointer (some ⟨(ext wr z1).heap.size, 0, none⟩), .pointer (some ⟨b5, 0, none⟩), .pointer (some ⟨(ext wr z1).heap.size + 1, 0, none⟩)])] := Blk.new' ((ext wr z1).alloc (.cells #[.slice (some ⟨wr.heap.size, 0, none⟩) k k] 22)) 117 _ _ (by simp)
          have ks : Blk (((ext wr z1).alloc (.cells #[.slice (some ⟨wr.heap.size, 0, none⟩) k k] 22)).alloc (.cells #[(.func (.func 56) #[] #[.pointer (some ⟨w.heap.size, 0, none⟩), .pointer (some ⟨(ext wr z1).heap.size, 0, none⟩), .pointer (some ⟨b5, 0, none⟩), .pointer (some ⟨(ext wr z1).heap.size + 1, 0, none⟩)])] 117)) wr.heap.size 4 (bl (fun _ => false) k) := by rw [← seen_none]; exact (hB1.alloc _).alloc _
          have kw : Blk (((ext wr z1).alloc (.cells #[.slice (some ⟨wr.heap.size, 0, none⟩) k k] 22)).alloc (.cells #[(.func (.func 56) #[] #[.pointer (some ⟨w.heap.size, 0, none⟩), .pointer (some ⟨(ext wr z1).heap.size, 0, none⟩), .pointer (some ⟨b5, 0, none⟩), .pointer (some ⟨(ext wr z1).heap.size + 1, 0, none⟩)])] 117)) (w.heap.size + 1) 3 (il o k) := ((HB4.out.ext z1).alloc _).alloc _
          have C := find_any np k gO cO wr.heap.size (w.heap.size + 1) 4 3 w.heap.size (ext wr z1).heap.size b5 ((ext wr z1).heap.size + 1) nb (by omega) hn ⟨by omega, by omega⟩ ⟨by omega, by omega⟩ ⟨by omega, by omega⟩ ⟨by omega, by omega⟩ _ (fun _ => false) o i _ rfl hin HO.out (HPP.out.ok hlt hE3 (by omega) (by omega)) ⟨k2.cell 0, k9.cell 0, k5.cell 0, k10.cell 0⟩ ks kw
          refine Calls.aug C fun r s2 o2 w2 X => ?_
          have K2 := Lib.hid X.own
          have KX := Lib.hid (k2.turn X.turn (by omega) (by omega))
          have K5 := Lib.hid (k5.turn X.turn (by omega) (by omega))
          have KE := Lib.hid (Two2.ext_ hE3 X.turn (by omega) (by omega))
          have K4 := Lib.hid X.rng
          have KA := Lib.hid X.aug
          clear X C hE3 k2 k5 k9 k10 ks kw l1 l2 l5 hB1 o1 HN cN fN hoc
          cases r
          · go_wp2_with fail
            exact ⟨⟨i + 1, m, o2, by omega, by go_num, rfl, by omega, .miss HR.out KA.out, K4.out, K2.out, KX.out, K5.out, KE.out⟩, by simp [intOf]; omega⟩
          · go_wp2_with fail
            exact ⟨⟨i + 1, m + 1, o2, by omega, by go_num, by go_num, by omega, .hit HR.out KA.out, K4.out, K2.out, KX.out, K5.out, KE.out⟩, by simp [intOf]; omega⟩
        · obtain rfl : i = np := by omega
          have HF := Lib.hid (isMax_eq (run_max (n := k) hlt HR.out).1)
          go_wp2_with fail
          go_ret
          exact ⟨ret_of (by rw [HF.out]; rfl), HE4.out⟩
end Go.Proofs.Ytchplmenkdghcaa
