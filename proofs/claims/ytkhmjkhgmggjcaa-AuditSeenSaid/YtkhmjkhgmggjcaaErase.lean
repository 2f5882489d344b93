/- audit.Erase: what it returns. -/
import Derived.Test.YtkhmjkhgmggjcaaWriteRef
namespace Go.Proofs.Ytkhmjkhgmggjcaa
open Go.RowKit

set_option maxHeartbeats 400000 in
theorem erase1_any (at_ : Int) (g o N : Nat) (n : Int) (w : World) (hgN : g ≠ N) (v2 v3 v4 : Value) (h2 : w.cell? ⟨g, o + 2, none⟩ = some v2) (h3 : w.cell? ⟨g, o + 3, none⟩ = some v3) (h4 : w.cell? ⟨g, o + 4, none⟩ = some v4)
    (hf : ∀ j, w.frozen? ⟨g, j, none⟩ = false) (hN : w.cell? ⟨N, 0, none⟩ = some (.int .i64 n)) (hNf : w.frozen? ⟨N, 0, none⟩ = false) (hn0 : 0 ≤ n) (hn1 : n ≤ 1000) :
    Calls Try.prog 59 #[.int .i64 at_, .pointer (some ⟨g, o, none⟩), .pointer (some ⟨N, 0, none⟩)] w fun e w' => e = .returned (.tuple #[]) ∧
      w' = (((w.setCell ⟨g, o + 2, none⟩ (.int .i64 (-1))).setCell ⟨g, o + 3, none⟩ (.int .u64 0)).setCell ⟨g, o + 4, none⟩ (.int .u64 0)).setCell ⟨N, 0, none⟩ (.int .i64 (n + 1)) := by
  have hd : Nonempty (Diff N g) := ⟨fun h => hgN h.symm⟩
  clear hgN
  go_enter Try.func59, Try.ntmps59
  go_wp2_with fail
  go_end0
  exact ⟨rfl, rfl⟩

def eraseE (x : E) : E := ⟨x.time, x.kind, -1, 0, 0, x.seal_, x.link⟩
def eraseL (l : List E) (p : Int) : List E := l.map fun x => if x.person = p then eraseE x else x
def cntL (l : List E) (p : Int) : Nat := (l.filter fun x => x.person == p).length

theorem flat_cons (x : E) (l : List E) : flat (x :: l) = x.cellsL ++ flat l := by simp [flat]
theorem flat_set (l : List E) (k : Nat) (x : E) (h : l[k]? = some x) :
    (((flat l).set (k * 7 + 2) (.int .i64 (-1))).set (k * 7 + 3) (.int .u64 0)).set (k * 7 + 4) (.int .u64 0) = flat (l.set k (eraseE x)) := by
  induction l generalizing k with
  | nil => simp at h
  | cons y r ih =>
    cases k with
    | zero =>
      have : y = x := by simpa using h
      subst this
      simp [flat_cons, E.cellsL, eraseE]
    | succ k =>
      have := ih k (by simpa using h)
      simp only [flat_cons, List.set_cons_succ]
      rw [← this]
      have hl : y.cellsL.length = 7 := rfl
      rw [List.set_append_right _ _ (by rw [hl]; omega), List.set_append_right _ _ (by rw [hl]; omega), List.set_append_right _ _ (by rw [hl]; omega), hl,
        show (k + 1) * 7 + 2 - 7 = k * 7 + 2 by omega, show (k + 1) * 7 + 3 - 7 = k * 7 + 3 by omega, show (k + 1) * 7 + 4 - 7 = k * 7 + 4 by omega]

/-- the state of a row behind k rounds -/
def eraseK (l : List E) (p : Int) (k : Nat) : List E := eraseL (l.take k) p ++ l.drop k
theorem eraseK_zero (l : List E) (p : Int) : eraseK l p 0 = l := by simp [eraseK, eraseL]
theorem eraseK_all (l : List E) (p : Int) (k : Nat) (h : l.length ≤ k) : eraseK l p k = eraseL l p := by simp [eraseK, List.take_of_length_le h, List.drop_of_length_le h]
theorem eraseK_len (l : List E) (p : Int) (k : Nat) : (eraseK l p k).length = l.length := by simp [eraseK, eraseL]; omega
theorem eraseK_at (l : List E) (p : Int) (k : Nat) (h : k < l.length) : (eraseK l p k)[k]? = some l[k] := by
  have hl : (eraseL (l.take k) p).length = k := by simp [eraseL]; omega
  rw [eraseK, List.getElem?_append_right (by omega), hl, Nat.sub_self, List.getElem?_drop, Nat.add_zero, List.getElem?_eq_getElem h]
theorem eraseK_succ (l : List E) (p : Int) (k : Nat) (h : k < l.length) : eraseK l p (k + 1) = (eraseK l p k).set k (if l[k].person = p then eraseE l[k] else l[k]) := by
  have hl : (eraseL (l.take k) p).length = k := by simp [eraseL]; omega
  rw [eraseK, eraseK, List.take_succ_eq_append_getElem h, List.drop_eq_getElem_cons h]
  rw [List.set_append_right _ _ (by omega), hl, Nat.sub_self, List.set_cons_zero]
  simp only [eraseL, List.map_append, List.map_cons, List.map_nil, List.append_assoc, List.cons_append, List.nil_append]
theorem eraseK_same (l : List E) (p : Int) (k : Nat) (h : k < l.length) (hp : ¬ l[k].person = p) : eraseK l p (k + 1) = eraseK l p k := by
  rw [eraseK_succ l p k h, if_neg hp]
  apply List.ext_getElem?
  intro i
  rw [List.getElem?_set]
  split
  · rename_i e; subst e; rw [eraseK_at l p k h, if_pos (by rw [eraseK_len]; exact h)]
  · rfl
theorem cnt_succ (l : List E) (p : Int) (k : Nat) (h : k < l.length) : cntL (l.take (k + 1)) p = cntL (l.take k) p + if l[k].person = p then 1 else 0 := by
  rw [cntL, List.take_succ_eq_append_getElem h, List.filter_append, List.length_append]
  by_cases hp : l[k].person = p <;> simp [hp, cntL]
theorem cnt_le (l : List E) (p : Int) (k : Nat) : cntL (l.take k) p ≤ l.length := by
  have h1 := List.length_filter_le (fun x : E => x.person == p) (l.take k)
  have h2 := List.length_take_le k l
  have h3 : (l.take k).length ≤ l.length := by simp; omega
  unfold cntL; omega

theorem own_far {w : World} {base : Nat} {e : TypeId} {sz n g c N : Nat} {xs : List Value} (h : w.ownsRow base e sz (.slice (some ⟨g, 0, none⟩) n c) n xs) (hne : g ≠ N) (u : Value) {j : Nat} {sp : Option Nat} :
    (w.setCell ⟨N, j, sp⟩ u).ownsRow base e sz (.slice (some ⟨g, 0, none⟩) n c) n xs := by
  refine ⟨h.1, ?_⟩
  rcases h.2 with h2 | ⟨g', cap, cur, hv, hb, hh, r⟩
  · exact .inl h2
  · obtain ⟨rfl, -, -⟩ : g = g' ∧ True ∧ c = cap := by simpa using hv
    exact .inr ⟨g, cap, cur, hv, hb, Blk.far (t := e) (p := ⟨N, j, sp⟩) hh hne u, r⟩

set_option maxRecDepth 100000 in
set_option maxHeartbeats 1000000 in
theorem each_erase (W0 : World) (A : Option Addr) (c N : Nat) (l : List E) (p : Int) (w : World) (hn : l.length ≤ 200) (hW : Ext W0 w) (hown : w.ownsRow W0.heap.size 54 7 (.slice A l.length c) l.length (flat l))
    (hN : W0.heap.size ≤ N) (hB : Blk w N 3 #[.int .i64 0]) :
    Calls Try.prog 58 #[.slice A l.length c, .int .i64 p, .func (.func 59) #[] #[.pointer (some ⟨N, 0, none⟩)]] w fun e w' => e = .returned (.tuple #[]) ∧
      Ext W0 w' ∧ w'.ownsRow W0.heap.size 54 7 (.slice A l.length c) l.length (flat (eraseL l p)) ∧ Blk w' N 3 #[.int .i64 (cntL l p)] := by
  go_enter Try.func58, Try.ntmps58
  go_wp2_with fail
  go_loopw [9] (fun i wr => ∃ (k : Nat), k ≤ l.length ∧ i = .int .i64 k ∧ Ext W0 wr ∧ wr.ownsRow W0.heap.size 54 7 (.slice A l.length c) l.length (flat (eraseK l p k)) ∧ Blk wr N 3 #[.int .i64 (cntL (l.take k) p)]) (fun i _ => l.length - (intOf i).toNat)
  case atStart => exact ⟨0, Nat.zero_le _, rfl, hW, by rw [eraseK_zero]; exact hown, by simpa [cntL] using hB⟩
  case round =>
    obtain ⟨k, hk, rfl, hW, hown, hB⟩ := hrel
    by_cases hlt : k < l.length
    · obtain ⟨g, cap, hv, hg, hgl⟩ := hown.form (by omega)
      obtain ⟨rfl, -, rfl⟩ : A = some ⟨g, 0, none⟩ ∧ l.length = l.length ∧ c = cap := by simpa using hv
      have hne : g ≠ N := fun e => by
        subst e
        rcases hown.2 with ⟨h, _⟩ | ⟨g', cap', cur, h, _, hh, _⟩
        · cases h
        · obtain ⟨rfl, -, -⟩ : g = g' ∧ True ∧ c = cap' := by simpa using h
          unfold Blk at hB
          rw [hh] at hB
          injection hB with hB
          injection hB with _ hB
          cases hB
      have hcell := fun (j : Nat) (hj : j < 7) => (hown.cellAt (k * 7 + j) (by omega)).trans (flat_at _ k _ (eraseK_at l p k hlt) j hj)
      have c2 := hcell 2 (by omega)
      have c3 := hcell 3 (by omega)
      have c4 := hcell 4 (by omega)
      simp only [E.cellsL, List.getElem?_cons_zero, List.getElem?_cons_succ] at c2 c3 c4
      have hf := hown.frozenAt
      have hNc := hB.cell 0
      have hNf := hB.frozen 0
      simp only [List.getElem?_toArray, List.getElem?_cons_zero] at hNc
      have hcl := cnt_le l p k
      have Hsame := Lib.hid (eraseK_same l p k hlt)
      have Hsucc := Lib.hid (eraseK_succ l p k hlt)
      have Hat := Lib.hid (eraseK_at l p k hlt)
      have Hcnt := Lib.hid (cnt_succ l p k hlt)
      have HO := Lib.hid hown
      have HB := Lib.hid hB
      have HW := Lib.hid hW
      have HG := Lib.hid hg
      have HN := Lib.hid hN
      clear hcell hown hB hW hg hv hN hgl
      by_cases hp : l[k].person = p
      · have hp' : (l[k].person == p) = true := by simpa using hp
        have Hp := Lib.hid hp
        clear hp
        generalize l[k] = x at *
        go_wp2_with fail
        refine (erase1_any _ g (k * 7) N (cntL (l.take k) p) wr hne _ _ _ c2 c3 c4 hf hNc hNf (by omega) (by omega)).mono ?_
        rintro e w' ⟨rfl, rfl⟩
        go_wp2_with fail
        go_roundw
        case rel =>
          have s1 := (HO.out.stored (k * 7 + 2) (.int .i64 (-1))).1
          have s2 := (s1.stored (k * 7 + 3) (.int .u64 0)).1
          have s3 := (s2.stored (k * 7 + 4) (.int .u64 0)).1
          rw [flat_set _ k x Hat.out] at s3
          refine ⟨k + 1, by omega, by go_num, ?_, ?_, ?_⟩
          · exact (((HW.out.setCell HG.out _).setCell HG.out _).setCell HG.out _).setCell HN.out _
          · rw [Hsucc.out, if_pos Hp.out]
            exact own_far s3 hne _
          · rw [Hcnt.out, if_pos Hp.out]
            exact (((HB.out.far (p := ⟨g, _, none⟩) (Ne.symm hne) _).far (p := ⟨g, _, none⟩) (Ne.symm hne) _).far (p := ⟨g, _, none⟩) (Ne.symm hne) _).set_ 0 _
        case measure => simp [intOf]; omega
      · have hp' : (l[k].person == p) = false := by simpa using hp
        have Hp := Lib.hid hp
        clear hp
        generalize l[k] = x at *
        go_wp2_with fail
        go_roundw
        case rel =>
          refine ⟨k + 1, by omega, by go_num, HW.out, ?_, ?_⟩
          · rw [Hsame.out Hp.out]; exact HO.out
          · rw [Hcnt.out, if_neg Hp.out]; exact HB.out
        case measure => simp [intOf]; omega
    · have hkl : k = l.length := by omega
      go_wp2_with fail
      go_end0
      refine ⟨rfl, hW, ?_, ?_⟩
      · rw [← eraseK_all l p k (by omega)]; exact hown
      · rw [List.take_of_length_le (by omega)] at hB; exact hB

def knownI (l : List E) (p : Int) : Int := if okB l then if fromB 0 63 p then 0 else 2 else 110
theorem known_any (A : Option Addr) (c : Nat) (l : List E) (p : Int) (w : World) (hl : Log w A l) (hn : l.length ≤ 100) :
    Calls Try.prog 57 #[.slice A l.length c, .int .i64 p] w fun e w' => e = .returned (.int .i64 (knownI l p)) ∧ Ext w w' := by
  cases hg : okB l
  · have Hv := Lib.hid (show knownI l p = 110 by simp [knownI, hg])
    have hck : checkI l = 110 := by simp [checkI_eq, hg]
    go_enter Try.func57, Try.ntmps57
    go_wp2_with (go_at_call 30; refine Calls.ext (check_any A c l _ hl hn) fun z => ?_)
    go_ret
    exact ⟨ret_of (by rw [Hv.out]; rfl), (Ext.refl _).ext _⟩
  · have hck : checkI l = 0 := by simp [checkI_eq, hg]
    cases hf : fromB 0 63 p
    · have Hv := Lib.hid (show knownI l p = 2 by simp [knownI, hg, hf])
      go_enter Try.func57, Try.ntmps57
      go_wp2_with (first | (go_at_call 30; refine Calls.ext (check_any A c l _ hl hn) fun z => ?_) | (go_at_call 51; refine Calls.same (from_any _ _ _ _) ?_))
      go_ret
      exact ⟨ret_of (by rw [Hv.out]; rfl), (Ext.refl _).ext _⟩
    · have Hv := Lib.hid (show knownI l p = 0 by simp [knownI, hg, hf])
      go_enter Try.func57, Try.ntmps57
      go_wp2_with (first | (go_at_call 30; refine Calls.ext (check_any A c l _ hl hn) fun z => ?_) | (go_at_call 51; refine Calls.same (from_any _ _ _ _) ?_))
      go_ret
      exact ⟨ret_of (by rw [Hv.out]; rfl), (Ext.refl _).ext _⟩

def erasedL (l : List E) (p : Int) : List E := if knownI l p = 0 then eraseL l p else []
def erasedN (l : List E) (p : Int) : Int := if knownI l p = 0 then cntL l p else 0

set_option maxRecDepth 100000 in
set_option maxHeartbeats 1000000 in
theorem erase_any (A : Option Addr) (c : Nat) (l : List E) (p : Int) (w : World) (hl : Log w A l) (hn : l.length ≤ 100) :
    Calls Try.prog 33 #[.slice A l.length c, .int .i64 p] w (RetS3 54 7 (erasedL l p).length (flat (erasedL l p)) (.int .i64 (erasedN l p)) (.int .i64 (knownI l p)) w) := by
  by_cases hk : knownI l p = 0
  · have Hv := Lib.hid (show erasedL l p = eraseL l p ∧ erasedN l p = cntL l p by simp [erasedL, erasedN, hk])
    have hk' : (knownI l p != 0) = false := by simpa using hk
    have Hk := Lib.hid hk
    clear hk
    have HL := Lib.hid hl
    clear hl
    go_enter Try.func33, Try.ntmps33
    go_wp2_with (go_at_call 57; refine Calls.ext (known_any A c l p _ HL.out hn) fun z1 => ?_)
    refine calls_slice (clone_any A c l _ (HL.out.grow (Ext.ext_self w z1)) (by omega)) fun A1 c1 z2 hown => ?_
    have HO := Lib.hid hown
    clear hown
    go_wp2_with fail
    refine (each_erase w A1 c1 (ext (ext w z1) z2).heap.size l p _ (by omega) ((((Ext.refl w).ext _).ext _).alloc _) (own_mono (own_grow HO.out ((Ext.refl _).alloc _)) (ext_size w z1)) (((Ext.refl w).ext z1).ext z2).size (Blk.new _ _ _)).mono ?_
    rintro e w' ⟨rfl, hE, hO, hB⟩
    obtain ⟨z3, rfl⟩ : ∃ z, w' = ext w z := ⟨w', (ext_of hE).symm⟩
    have HO2 := Lib.hid hO
    have hBc := hB.cell 0
    have hBo := Old.mk hB.lt
    simp only [List.getElem?_toArray, List.getElem?_cons_zero] at hBc
    clear hO hE hB HO
    go_wp2_with fail
    refine wp_region_ext (by kernel_rfl) (by kernel_rfl) ?_
    repeat (go_big_quiet_step (fail))
    refine wpQuiet_nil ?_
    rintro _ ⟨z4, rfl⟩
    go_wp2_with fail
    go_ret3
    rw [Hv.out.1, Hv.out.2, Hk.out, show (eraseL l p).length = l.length by simp [eraseL]]
    exact ⟨A1, c1, rfl, own_grow HO2.out (Ext.ext_self _ _), ((Ext.refl w).ext _).ext _⟩
  · have Hv := Lib.hid (show erasedL l p = [] ∧ erasedN l p = 0 by simp [erasedL, erasedN, hk])
    have hk' : (knownI l p != 0) = true := by simpa using hk
    clear hk
    go_enter Try.func33, Try.ntmps33
    go_wp2_with (go_at_call 57; refine Calls.ext (known_any A c l p _ hl hn) fun z1 => ?_)
    go_ret3
    rw [Hv.out.1, Hv.out.2]
    exact ⟨none, 0, rfl, own_nil _ _ _ _, (Ext.refl w).ext _⟩
end Go.Proofs.Ytkhmjkhgmggjcaa
