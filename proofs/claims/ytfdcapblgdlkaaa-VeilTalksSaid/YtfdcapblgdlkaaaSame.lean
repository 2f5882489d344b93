/- Equal lists of numbers. -/
import Derived.Test.YtfdcapblgdlkaaaExp
namespace Go.Proofs.Ytfdcapblgdlkaaa
open Go.RowKit

theorem ext_ex {w w' : World} (h : Ext w w') : ∃ z, w' = ext w z := ⟨w', (ext_of h).symm⟩
/-- a slice that holds the numbers l (nil, if there are none) -/
def LstA (w : World) (A : Option Addr) (c : Nat) (l : List Nat) : Prop := 0 < l.length → ∃ g, A = some ⟨g, 0, none⟩ ∧ Lst 3 w g c (intsV l)
theorem LstA.grow {w w' : World} {A : Option Addr} {c : Nat} {l : List Nat} (h : LstA w A c l) (he : Ext w w') : LstA w' A c l := fun h0 => by
  obtain ⟨g, h1, h2⟩ := h h0
  exact ⟨g, h1, h2.grow he⟩
theorem take_eq_succ {l l' : List Nat} {k : Nat} (hk : k < l.length) (hk' : k < l'.length) (h : l.take k = l'.take k) : (l.take (k + 1) = l'.take (k + 1)) ↔ l.getD k 0 = l'.getD k 0 := by
  rw [List.take_succ_eq_append_getElem hk, List.take_succ_eq_append_getElem hk', h, List.getD_eq_getElem?_getD, List.getD_eq_getElem?_getD, List.getElem?_eq_getElem hk, List.getElem?_eq_getElem hk']
  simp only [List.append_cancel_left_eq, List.cons.injEq, and_true, Option.getD_some]
set_option maxRecDepth 100000 in
set_option maxHeartbeats 2000000 in
theorem same_any (l l' : List Nat) (hb : l.length ≤ 65536) (A A' : Option Addr) (c c' : Nat) (w : World) (h : LstA w A c l) (h' : LstA w A' c' l') :
    Calls Try.prog 29 #[.slice A l.length c, .slice A' l'.length c'] w fun e w' => e = .returned (.bool (decide (l = l'))) ∧ Ext w w' := by
  by_cases hne : l.length = l'.length
  · generalize hn : l.length = n at *
    have hl' : l'.length = n := hne.symm
    have hi : ((n : Int) == (n : Int)) = true := by simp
    rw [← hne]
    have HR := Lib.hid (fun hk : 0 < n => h (by omega))
    have HR' := Lib.hid (fun hk : 0 < n => h' (by omega))
    have HN := Lib.hid hn
    have HN' := Lib.hid hl'
    clear h h' hn hl' hne
    have hb2 : (n : Int) ≤ 65536 := by omega
    go_enter Try.func29, Try.ntmps29
    go_wp2_with fail
    go_loopw [5] (fun i wr => ∃ (k : Nat) (z : World), k ≤ n ∧ i = .int .i64 k ∧ wr = ext w z ∧ l.take k = l'.take k) (fun i _ => n - (intOf i).toNat)
    case atStart => exact ⟨0, w, Nat.zero_le _, rfl, (ext_of (Ext.refl w)).symm, rfl⟩
    case round =>
      obtain ⟨k, z, hk, rfl, rfl, ht⟩ := hrel
      have HT := Lib.hid ht
      clear ht
      by_cases hkn : k < n
      · have hk2 : (k : Int) < (n : Int) := by omega
        obtain ⟨g, rfl, hL⟩ := HR.out (by omega)
        obtain ⟨g', rfl, hL'⟩ := HR'.out (by omega)
        have c1 := lst_int hL k (by rw [HN.out]; exact hkn)
        have c2 := lst_int hL' k (by rw [HN'.out]; exact hkn)
        have o1 := Old.mk hL.lt
        have o2 := Old.mk hL'.lt
        have HTS := Lib.hid (take_eq_succ (l := l) (l' := l') (by rw [HN.out]; exact hkn) (by rw [HN'.out]; exact hkn) HT.out)
        have hd : (((l.getD k 0 : Nat) : Int) == ((l'.getD k 0 : Nat) : Int)) = decide (l.getD k 0 = l'.getD k 0) := by rw [Bool.eq_iff_iff]; simp; omega
        have HNE := Lib.hid (show l.getD k 0 ≠ l'.getD k 0 → l ≠ l' from fun h e => h (by rw [e]))
        clear hL hL'
        generalize l.getD k 0 = x at *
        generalize l'.getD k 0 = y at *
        by_cases hxy : x = y
        · have hq : ((x : Int) == (y : Int)) = true := by rw [hd]; simpa using hxy
          have HX := Lib.hid hxy
          clear hxy hd
          go_wp2_with fail
          refine wp_region_ext (by kernel_rfl) (by kernel_rfl) ?_
          repeat (go_big_quiet_step (fail))
          refine wpQuiet_nil ?_
          rintro _ ⟨z2, rfl⟩
          go_wp2_with fail
          refine ⟨⟨k + 1, _, by omega, by go_num, (ext_of ((Ext.ext_self w z).ext z2)).symm, HTS.out.2 HX.out⟩, by simp [intOf]; omega⟩
        · have hq : ((x : Int) == (y : Int)) = false := by rw [hd]; simpa using hxy
          have HF := Lib.hid (show decide (l = l') = false by simpa using HNE.out hxy)
          clear hxy hd
          go_wp2_with fail
          refine wp_region_ext (by kernel_rfl) (by kernel_rfl) ?_
          repeat (go_big_quiet_step (fail))
          refine wpQuiet_nil ?_
          rintro _ ⟨z2, rfl⟩
          go_wp2_with fail
          go_ret
          exact ⟨ret_of (by rw [HF.out]; rfl), (Ext.ext_self w z).ext z2⟩
      · obtain rfl : k = n := by omega
        have HF := Lib.hid (show decide (l = l') = true by
          have h1 := HT.out
          rw [List.take_of_length_le (by rw [HN.out]; exact Nat.le_refl _), List.take_of_length_le (by rw [HN'.out]; exact Nat.le_refl _)] at h1
          simpa using h1)
        go_wp2_with fail
        go_ret
        exact ⟨ret_of (by rw [HF.out]; rfl), Ext.ext_self _ _⟩
  · have HF := Lib.hid (show decide (l = l') = false by simp; intro e; exact hne (by rw [e]))
    have hi : ((l.length : Int) == (l'.length : Int)) = false := by simp; omega
    generalize l.length = n at *
    generalize l'.length = m at *
    clear h h'
    go_enter Try.func29, Try.ntmps29
    go_wp2_with fail
    go_ret
    exact ⟨ret_of (by rw [HF.out]; rfl), Ext.refl _⟩
end Go.Proofs.Ytfdcapblgdlkaaa
