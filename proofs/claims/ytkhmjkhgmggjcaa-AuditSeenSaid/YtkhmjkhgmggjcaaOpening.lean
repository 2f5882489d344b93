/- Open and its reference. -/
import Derived.Test.YtkhmjkhgmggjcaaAbout
namespace Go.Proofs.Ytkhmjkhgmggjcaa
open Go.RowKit

def openV (l : List E) (at_ : Int) : Value :=
  if okB l then if fromB 0 ((l.length : Int) - 1) at_ then if (l.getD at_.toNat E.zero).person < 0 then .tuple #[.int .u64 0, .int .i64 6] else .tuple #[.int .u64 (l.getD at_.toNat E.zero).detail, .int .i64 0]
  else .tuple #[.int .u64 0, .int .i64 2] else .tuple #[.int .u64 0, .int .i64 110]

theorem chk_fits (l : List E) : ∀ (q : E), chkB q l = true → ∀ x ∈ l, fitsB x = true := by
  induction l with
  | nil => intro q _ x hx; cases hx
  | cons y m ih =>
    intro q h x hx
    simp only [chkB, Bool.and_eq_true] at h
    rcases List.mem_cons.1 hx with rfl | hx
    · exact h.1.1.1
    · exact ih y h.2 x hx
theorem ok_fits {l : List E} (h : okB l = true) : ∀ x ∈ l, fitsB x = true := by
  simp only [okB, Bool.and_eq_true] at h
  exact chk_fits l E.zero h.2
theorem ok_person {l : List E} (h : okB l = true) : ∀ x ∈ l, -1 ≤ x.person ∧ x.person ≤ 63 := by
  intro x hx
  have := ok_fits h x hx
  simp [fitsB, fromB] at this
  omega

set_option maxRecDepth 100000 in
set_option maxHeartbeats 1000000 in
theorem open_any (A : Option Addr) (c : Nat) (l : List E) (at_ : Int) (w : World) (hl : Log w A l) (hn : l.length ≤ 100) :
    Calls Try.prog 37 #[.slice A l.length c, .int .i64 at_] w fun e w' => e = .returned (openV l at_) ∧ Ext w w' := by
  have HL := Lib.hid hl
  cases hg : okB l
  · have Hv := Lib.hid (show openV l at_ = .tuple #[.int .u64 0, .int .i64 110] by simp [openV, hg])
    have hck : checkI l = 110 := by simp [checkI_eq, hg]
    go_enter Try.func37, Try.ntmps37
    go_wp2_with (go_at_call 30; refine Calls.ext (check_any A c l _ HL.out hn) fun z => ?_)
    go_ret2
    exact ⟨ret_of Hv.out.symm, (Ext.refl _).ext _⟩
  · have hck : checkI l = 0 := by simp [checkI_eq, hg]
    cases hf : fromB 0 ((l.length : Int) - 1) at_
    · have Hv := Lib.hid (show openV l at_ = .tuple #[.int .u64 0, .int .i64 2] by simp [openV, hg, hf])
      go_enter Try.func37, Try.ntmps37
      go_wp2_with (first | (go_at_call 30; refine Calls.ext (check_any A c l _ HL.out hn) fun z => ?_) | (go_at_call 51; refine Calls.same (from_any _ _ _ _) ?_))
      go_ret2
      exact ⟨ret_of Hv.out.symm, (Ext.refl _).ext _⟩
    · obtain ⟨h0, h1⟩ : 0 ≤ at_ ∧ at_ ≤ (l.length : Int) - 1 := by simpa [fromB] using hf
      obtain ⟨k, rfl⟩ := Int.eq_ofNat_of_zero_le h0
      have hk : k < l.length := by omega
      rcases hl with rfl | ⟨b, off, rfl, hb, hc⟩
      · simp at hk
      have hbo := Old.mk hb
      obtain ⟨c0, c1, c2, c3, -⟩ := hc k l[k] (List.getElem?_eq_getElem hk)
      have hx : l.getD ((k : Int).toNat) E.zero = l[k] := by simp [List.getElem?_eq_getElem hk]
      clear hc c0 c1 hb
      by_cases hp : l[k].person < 0
      · have Hv := Lib.hid (show openV l k = .tuple #[.int .u64 0, .int .i64 6] by simp only [openV, hg, hf, hx, if_true, if_pos hp])
        clear hx
        generalize l[k] = x at *
        go_enter Try.func37, Try.ntmps37
        go_wp2_with (first | (go_at_call 30; refine Calls.ext (check_any _ c l _ HL.out hn) fun z => ?_) | (go_at_call 51; refine Calls.same (from_any _ _ _ _) ?_))
        go_ret2
        exact ⟨ret_of Hv.out.symm, (Ext.refl _).ext _⟩
      · have Hv := Lib.hid (show openV l k = .tuple #[.int .u64 l[k].detail, .int .i64 0] by simp only [openV, hg, hf, hx, if_true, if_neg hp])
        clear hx
        generalize l[k] = x at *
        go_enter Try.func37, Try.ntmps37
        go_wp2_with (first | (go_at_call 30; refine Calls.ext (check_any _ c l _ HL.out hn) fun z => ?_) | (go_at_call 51; refine Calls.same (from_any _ _ _ _) ?_))
        go_ret2
        exact ⟨ret_of Hv.out.symm, (Ext.refl _).ext _⟩

set_option maxRecDepth 100000 in
set_option maxHeartbeats 1000000 in
theorem refOpen_any (A : Option Addr) (c : Nat) (l : List E) (at_ : Int) (w : World) (hl : Log w A l) (hok : ∀ x ∈ l, x.ok) (hn : l.length ≤ 100) :
    Calls Try.prog 38 #[.slice A l.length c, .int .i64 at_] w fun e w' => e = .returned (openV l at_) ∧ Ext w w' := by
  have HL := Lib.hid hl
  have HOK := Lib.hid hok
  clear hok
  cases hg : okB l
  · have Hv := Lib.hid (show openV l at_ = .tuple #[.int .u64 0, .int .i64 110] by simp [openV, hg])
    go_enter Try.func38, Try.ntmps38
    go_wp2_with (go_at_call 49; refine Calls.ext (chained_any A c l _ HL.out HOK.out hn) fun z => ?_)
    go_ret2
    exact ⟨ret_of Hv.out.symm, (Ext.refl _).ext _⟩
  · cases hf : fromB 0 ((l.length : Int) - 1) at_
    · have Hv := Lib.hid (show openV l at_ = .tuple #[.int .u64 0, .int .i64 2] by simp [openV, hg, hf])
      go_enter Try.func38, Try.ntmps38
      go_wp2_with (first | (go_at_call 49; refine Calls.ext (chained_any A c l _ HL.out HOK.out hn) fun z => ?_) | (go_at_call 52; refine Calls.same (within_any _ _ _ _) ?_))
      go_ret2
      exact ⟨ret_of Hv.out.symm, (Ext.refl _).ext _⟩
    · obtain ⟨h0, h1⟩ : 0 ≤ at_ ∧ at_ ≤ (l.length : Int) - 1 := by simpa [fromB] using hf
      obtain ⟨k, rfl⟩ := Int.eq_ofNat_of_zero_le h0
      have hk : k < l.length := by omega
      rcases hl with rfl | ⟨b, off, rfl, hb, hc⟩
      · simp at hk
      have hbo := Old.mk hb
      obtain ⟨c0, c1, c2, c3, -⟩ := hc k l[k] (List.getElem?_eq_getElem hk)
      have hx : l.getD ((k : Int).toNat) E.zero = l[k] := by simp [List.getElem?_eq_getElem hk]
      have hper := ok_person hg l[k] (List.getElem_mem hk)
      clear hc c0 c1 hb
      by_cases hp : l[k].person < 0
      · have Hv := Lib.hid (show openV l k = .tuple #[.int .u64 0, .int .i64 6] by simp only [openV, hg, hf, hx, if_true, if_pos hp])
        have hp' : (l[k].person == -1) = true := by simp; omega
        clear hx
        generalize l[k] = x at *
        go_enter Try.func38, Try.ntmps38
        go_wp2_with (first | (go_at_call 49; refine Calls.ext (chained_any _ c l _ HL.out HOK.out hn) fun z => ?_) | (go_at_call 52; refine Calls.same (within_any _ _ _ _) ?_))
        go_ret2
        exact ⟨ret_of Hv.out.symm, (Ext.refl _).ext _⟩
      · have Hv := Lib.hid (show openV l k = .tuple #[.int .u64 l[k].detail, .int .i64 0] by simp only [openV, hg, hf, hx, if_true, if_neg hp])
        have hp' : (l[k].person == -1) = false := by simp; omega
        clear hx
        generalize l[k] = x at *
        go_enter Try.func38, Try.ntmps38
        go_wp2_with (first | (go_at_call 49; refine Calls.ext (chained_any _ c l _ HL.out HOK.out hn) fun z => ?_) | (go_at_call 52; refine Calls.same (within_any _ _ _ _) ?_))
        go_ret2
        exact ⟨ret_of Hv.out.symm, (Ext.refl _).ext _⟩
end Go.Proofs.Ytkhmjkhgmggjcaa
