/- About, its reference, and lists of numbers compared. -/
import Derived.Test.YtkhmjkhgmggjcaaEraseRef
namespace Go.Proofs.Ytkhmjkhgmggjcaa
open Go.RowKit

def aboutR (l : List E) (p : Int) : List Int := if knownI l p = 0 then aboutL l p else []

theorem Log.shrink {w w' : World} {A : Option Addr} {l : List E} (h : Log w A l) (hg : ∀ p : Addr, p.block < w.heap.size → w'.cell? p = w.cell? p) (hs : w.heap.size ≤ w'.heap.size) : Log w' A l := by
  rcases h with h | ⟨b, off, rfl, hb, hc⟩
  · exact .inl h
  · refine .inr ⟨b, off, rfl, by omega, fun k x hk => ?_⟩
    obtain ⟨c0, c1, c2, c3, c4, c5, c6⟩ := hc k x hk
    exact ⟨(hg _ hb).trans c0, (hg _ hb).trans c1, (hg _ hb).trans c2, (hg _ hb).trans c3, (hg _ hb).trans c4, (hg _ hb).trans c5, (hg _ hb).trans c6⟩

set_option maxRecDepth 100000 in
set_option maxHeartbeats 1000000 in
theorem about_any (A : Option Addr) (c : Nat) (l : List E) (p : Int) (w : World) (hl : Log w A l) (hn : l.length ≤ 100) :
    Calls Try.prog 35 #[.slice A l.length c, .int .i64 p] w (RetS2 3 1 (aboutR l p).length (intsV (aboutR l p)) (.int .i64 (knownI l p)) w) := by
  by_cases hk : knownI l p = 0
  · have Hv := Lib.hid (show aboutR l p = aboutL l p by simp [aboutR, hk])
    have hk' : (knownI l p != 0) = false := by simpa using hk
    have Hk := Lib.hid hk
    have HL := Lib.hid hl
    clear hk hl
    go_enter Try.func35, Try.ntmps35
    go_wp2_with (go_at_call 57; refine Calls.ext (known_any A c l p _ HL.out hn) fun z1 => ?_)
    have hTE : Ext w (trunc ((ext w z1).alloc (.cells #[.slice none 0 0] 60)) (ext w z1).heap.size) := by
      refine ((Ext.refl w).ext z1).trans ⟨rfl, rfl, rfl, ?_, fun k hk => ?_⟩
      · rw [trunc_size (by simp)]; exact Nat.le_refl _
      · rw [trunc_at _ _ _ hk]; exact Below.heap_alloc _ _ _ hk
    have HTE := Lib.hid hTE
    clear hTE
    refine (each_about A c (ext w z1).heap.size l p _ (by omega) (by simp) (HL.out.grow HTE.out) (Blk.new _ _ _)).mono ?_
    rintro e w' ⟨B, d, rfl, hB, hO, hE⟩
    have HE := Lib.hid (HTE.out.trans hE)
    have HO := Lib.hid hO
    have hBc := hB.cell 0
    simp only [List.getElem?_toArray, List.getElem?_cons_zero] at hBc
    clear hO hE hB
    go_wp2_with fail
    go_ret2
    rw [Hv.out, Hk.out]
    refine ⟨B, d, rfl, own_mono HO.out ?_, HE.out⟩
    have := ext_size w z1
    omega
  · have Hv := Lib.hid (show aboutR l p = [] by simp [aboutR, hk])
    have hk' : (knownI l p != 0) = true := by simpa using hk
    clear hk
    go_enter Try.func35, Try.ntmps35
    go_wp2_with (go_at_call 57; refine Calls.ext (known_any A c l p _ hl hn) fun z1 => ?_)
    go_ret2
    rw [Hv.out]
    exact ⟨none, 0, rfl, own_nil _ _ _ _, (Ext.refl w).ext _⟩

set_option maxRecDepth 100000 in
set_option maxHeartbeats 1000000 in
theorem refAbout_any (A : Option Addr) (c : Nat) (l : List E) (p : Int) (w : World) (hl : Log w A l) (hok : ∀ x ∈ l, x.ok) (hn : l.length ≤ 100) :
    Calls Try.prog 36 #[.slice A l.length c, .int .i64 p] w (RetS2 3 1 (aboutR l p).length (intsV (aboutR l p)) (.int .i64 (knownI l p)) w) := by
  have HOK := Lib.hid hok
  have HL := Lib.hid hl
  clear hok
  cases hg : okB l
  · have Hv := Lib.hid (show knownI l p = 110 ∧ aboutR l p = [] by simp [knownI, aboutR, hg])
    go_enter Try.func36, Try.ntmps36
    go_wp2_with (go_at_call 49; refine Calls.ext (chained_any A c l _ HL.out HOK.out hn) fun z1 => ?_)
    go_ret2
    rw [Hv.out.1, Hv.out.2]
    exact ⟨none, 0, rfl, own_nil _ _ _ _, (Ext.refl w).ext _⟩
  · cases hf : fromB 0 63 p
    · have Hv := Lib.hid (show knownI l p = 2 ∧ aboutR l p = [] by simp [knownI, aboutR, hg, hf])
      go_enter Try.func36, Try.ntmps36
      go_wp2_with (first | (go_at_call 49; refine Calls.ext (chained_any A c l _ HL.out HOK.out hn) fun z1 => ?_) | (go_at_call 52; refine Calls.same (within_any _ _ _ _) ?_))
      go_ret2
      rw [Hv.out.1, Hv.out.2]
      exact ⟨none, 0, rfl, own_nil _ _ _ _, (Ext.refl w).ext _⟩
    · have Hv := Lib.hid (show knownI l p = 0 ∧ aboutR l p = aboutL l p by simp [knownI, aboutR, hg, hf])
      go_enter Try.func36, Try.ntmps36
      go_wp2_with (first | (go_at_call 49; refine Calls.ext (chained_any A c l _ HL.out HOK.out hn) fun z1 => ?_) | (go_at_call 52; refine Calls.same (within_any _ _ _ _) ?_))
      go_loopw [6, 7] (fun o i wr => ∃ (k : Nat) (B : Option Addr) (d : Nat) (z : World), k ≤ l.length ∧ i = .int .i64 k ∧ o = .slice B (aboutK l p k).length d ∧ wr = ext w z ∧ wr.ownsRow w.heap.size 3 1 (.slice B (aboutK l p k).length d) (aboutK l p k).length (intsV (aboutK l p k))) (fun _ i _ => l.length - (intOf i).toNat)
      case atStart => exact ⟨0, none, 0, z1, Nat.zero_le _, rfl, rfl, rfl, own_nil _ _ _ _⟩
      case round =>
        obtain ⟨k, B, d, z, hk, rfl, rfl, rfl, hown⟩ := hrel
        by_cases hlt : k < l.length
        · rcases hl with rfl | ⟨b, off, rfl, hb, hc⟩
          · simp at hlt
          have hbo := Old.mk hb
          obtain ⟨c0, c1, c2, -⟩ := hc k l[k] (List.getElem?_eq_getElem hlt)
          have hal := aboutK_le l p k
          have Hs := Lib.hid (aboutK_succ l p k hlt)
          have HO := Lib.hid hown
          clear hc c0 c1 hown hb
          by_cases hp : l[k].person = p
          · have hp' : (l[k].person == p) = true := by simpa using hp
            rw [if_pos hp] at Hs
            clear hp
            generalize l[k] = x at *
            go_wp2_with (at_builtin; refine wpList_append_ext rfl w (by exact (Ext.ext_self w z).alloc _) infoI (.tmp 27) (.tmp 29) rfl _ (aboutK l p k).length (intsV (aboutK l p k)) rfl (by exact own_grow HO.out ((Ext.refl _).alloc _)) _ 1 1 [.int .i64 (k : Int)] rfl (Slc.of_blk (cs := #[.int .i64 (k : Int)]) (t := 3) (Blk.new _ _ _) rfl) (by simp [Value.oneCell']) (by omega) (by omega) ?_; intro B' d' z2 hown2)
            go_roundw
            case rel =>
              have hlen : (aboutK l p (k + 1)).length = (aboutK l p k).length + 1 := by rw [Hs.out]; simp
              refine ⟨k + 1, B', d', z2, by omega, by go_num, by rw [hlen], rfl, ?_⟩
              rw [hlen, Hs.out]
              have : intsV (aboutK l p k ++ [(k : Int)]) = intsV (aboutK l p k) ++ [.int .i64 (k : Int)] := by simp [intsV]
              rw [this]; exact hown2
            case measure => simp [intOf]; omega
          · have hp' : (l[k].person == p) = false := by simpa using hp
            rw [if_neg hp, List.append_nil] at Hs
            clear hp
            generalize l[k] = x at *
            go_wp2_with fail
            go_roundw
            case rel => exact ⟨k + 1, B, d, z, by omega, by go_num, by rw [Hs.out], rfl, by rw [Hs.out]; exact HO.out⟩
            case measure => simp [intOf]; omega
        · have hkl : k = l.length := by omega
          subst hkl
          go_wp2_with fail
          go_ret2
          rw [Hv.out.1, Hv.out.2]
          exact ⟨B, d, rfl, hown, Ext.ext_self _ _⟩

set_option maxHeartbeats 1000000 in
theorem sameInts_same (A B : Option Addr) (c d : Nat) (l : List Int) (w : World) (ha : Slc w 1 A l.length (intsV l)) (hb : Slc w 1 B l.length (intsV l)) (hn : l.length ≤ 1000) :
    Calls Try.prog 39 #[.slice A l.length c, .slice B l.length d] w fun e w' => e = .returned (.bool true) ∧ Ext w w' := by
  go_enter Try.func39, Try.ntmps39
  go_wp2_with fail
  go_loopw [5] (fun i wr => ∃ (k : Nat) (z : World), k ≤ l.length ∧ i = .int .i64 k ∧ wr = ext w z) (fun i _ => l.length - (intOf i).toNat)
  case atStart => exact ⟨0, w, Nat.zero_le _, rfl, (ext_of (Ext.refl w)).symm⟩
  case round =>
    obtain ⟨k, z, hk, rfl, rfl⟩ := hrel
    by_cases hlt : k < l.length
    · obtain ⟨b, off, rfl, hb1, hc⟩ := ha.2 (by omega)
      obtain ⟨b2, off2, rfl, hb2, hc2⟩ := hb.2 (by omega)
      have ho1 := Old.mk hb1
      have ho2 := Old.mk hb2
      have hx : (intsV l)[k]? = some (.int .i64 l[k]) := by simp [intsV, List.getElem?_eq_getElem hlt]
      have c0 := hc k _ hx
      have d0 := hc2 k _ hx
      clear hc hc2 hx ha hb
      generalize l[k] = x at *
      go_wp2_with fail
      refine wp_region_ext (by kernel_rfl) (by kernel_rfl) ?_
      repeat (go_big_quiet_step (fail))
      refine wpQuiet_nil ?_
      rintro _ ⟨z2, rfl⟩
      go_wp2_with fail
      go_roundw
      case rel => exact ⟨k + 1, _, by omega, by go_num, (ext_of (((Ext.refl w).ext z).ext z2)).symm⟩
      case measure => simp [intOf]; omega
    · go_wp2_with fail
      go_ret
      exact ⟨rfl, (Ext.refl w).ext z⟩
end Go.Proofs.Ytkhmjkhgmggjcaa
