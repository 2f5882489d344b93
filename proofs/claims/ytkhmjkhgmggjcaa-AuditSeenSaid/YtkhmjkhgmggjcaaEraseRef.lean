/- The reference of Erase; the closure of About. -/
import Derived.Test.YtkhmjkhgmggjcaaErase
namespace Go.Proofs.Ytkhmjkhgmggjcaa
open Go.RowKit

set_option maxRecDepth 100000 in
set_option maxHeartbeats 1000000 in
theorem refErase_any (A : Option Addr) (c : Nat) (l : List E) (p : Int) (w : World) (hl : Log w A l) (hok : ∀ x ∈ l, x.ok) (hn : l.length ≤ 100) :
    Calls Try.prog 34 #[.slice A l.length c, .int .i64 p] w (RetS3 54 7 (erasedL l p).length (flat (erasedL l p)) (.int .i64 (erasedN l p)) (.int .i64 (knownI l p)) w) := by
  have HOK := Lib.hid hok
  have HL := Lib.hid hl
  clear hok
  cases hg : okB l
  · have Hv := Lib.hid (show knownI l p = 110 ∧ erasedL l p = [] ∧ erasedN l p = 0 by simp [knownI, erasedL, erasedN, hg])
    go_enter Try.func34, Try.ntmps34
    go_wp2_with (go_at_call 49; refine Calls.ext (chained_any A c l _ HL.out HOK.out hn) fun z1 => ?_)
    go_ret3
    rw [Hv.out.1, Hv.out.2.1, Hv.out.2.2]
    exact ⟨none, 0, rfl, own_nil _ _ _ _, (Ext.refl w).ext _⟩
  · cases hf : fromB 0 63 p
    · have Hv := Lib.hid (show knownI l p = 2 ∧ erasedL l p = [] ∧ erasedN l p = 0 by simp [knownI, erasedL, erasedN, hg, hf])
      go_enter Try.func34, Try.ntmps34
      go_wp2_with (first | (go_at_call 49; refine Calls.ext (chained_any A c l _ HL.out HOK.out hn) fun z1 => ?_) | (go_at_call 52; refine Calls.same (within_any _ _ _ _) ?_))
      go_ret3
      rw [Hv.out.1, Hv.out.2.1, Hv.out.2.2]
      exact ⟨none, 0, rfl, own_nil _ _ _ _, (Ext.refl w).ext _⟩
    · have Hv := Lib.hid (show knownI l p = 0 ∧ erasedL l p = eraseL l p ∧ erasedN l p = cntL l p by simp [knownI, erasedL, erasedN, hg, hf])
      have HS := Lib.hid hl.slc
      clear hl
      go_enter Try.func34, Try.ntmps34
      go_wp2_with (first | (go_at_call 49; refine Calls.ext (chained_any A c l _ HL.out HOK.out hn) fun z1 => ?_) | (go_at_call 52; refine Calls.same (within_any _ _ _ _) ?_) | (at_builtin; refine wpList_append_new rfl infoE (.tmp 16) (.tmp 17) rfl w.heap.size (by have := ext_size w z1; simp; omega) _ rfl (own_empty 7 (ext_size w z1) (Blk.new _ 54 #[])) A l.length c (flat l) rfl (by exact HS.out.grow (((Ext.refl w).ext z1).alloc _)) (flat_one' l) (by omega) (by omega) ?_; intro A1 c1 z2 hown1))
      have HE := Lib.hid ((((Ext.refl w).ext z1).alloc (.cells #[] 54)).ext z2)
      have HO := Lib.hid hown1
      clear hown1
      generalize ext ((ext w z1).alloc (.cells #[] 54)) z2 = W at *
      go_loopw [8, 9] (fun nn i wr => ∃ (k : Nat) (z : World), k ≤ l.length ∧ i = .int .i64 k ∧ nn = .int .i64 (cntL (l.take k) p) ∧ wr = ext w z ∧ wr.ownsRow w.heap.size 54 7 (.slice A1 l.length c1) l.length (flat (eraseK l p k))) (fun _ i _ => l.length - (intOf i).toNat)
      case atStart => exact ⟨0, W, Nat.zero_le _, rfl, rfl, (ext_of HE.out).symm, by rw [eraseK_zero]; exact HO.out⟩
      case round =>
        obtain ⟨k, z, hk, rfl, rfl, rfl, hown⟩ := hrel
        by_cases hlt : k < l.length
        · obtain ⟨g, cap, hv, hg', hgl⟩ := hown.form (by omega)
          obtain ⟨rfl, -, rfl⟩ : A1 = some ⟨g, 0, none⟩ ∧ l.length = l.length ∧ c1 = cap := by simpa using hv
          have hcell := fun (j : Nat) (hj : j < 7) => (hown.cellAt (k * 7 + j) (by omega)).trans (flat_at _ k _ (eraseK_at l p k hlt) j hj)
          have c2 := hcell 2 (by omega)
          have c3 := hcell 3 (by omega)
          have c4 := hcell 4 (by omega)
          simp only [E.cellsL, List.getElem?_cons_zero, List.getElem?_cons_succ] at c2 c3 c4
          have hF := hown.frozenAt
          have hcl := cnt_le l p k
          have Hsame := Lib.hid (eraseK_same l p k hlt)
          have Hsucc := Lib.hid (eraseK_succ l p k hlt)
          have Hat := Lib.hid (eraseK_at l p k hlt)
          have Hcnt := Lib.hid (cnt_succ l p k hlt)
          have HO' := Lib.hid hown
          have HG := Lib.hid hg'
          have hgo := Old.mk hgl
          clear hcell hown hg' hv hgl
          by_cases hp : l[k].person = p
          · have hp' : (l[k].person == p) = true := by simpa using hp
            have Hp := Lib.hid hp
            clear hp
            generalize l[k] = x at *
            go_wp2_with fail
            go_roundw
            case rel =>
              have s1 := (HO'.out.stored (k * 7 + 2) (.int .i64 (-1))).1
              have s2 := (s1.stored (k * 7 + 3) (.int .u64 0)).1
              have s3 := (s2.stored (k * 7 + 4) (.int .u64 0)).1
              rw [flat_set _ k x Hat.out] at s3
              refine ⟨k + 1, _, by omega, by go_num, ?_, (ext_of ((((Ext.ext_self w z).setCell HG.out _).setCell HG.out _).setCell HG.out _)).symm, ?_⟩
              · rw [Hcnt.out, if_pos Hp.out]; rfl
              · rw [Hsucc.out, if_pos Hp.out]
                exact s3
            case measure => simp [intOf]; omega
          · have hp' : (l[k].person == p) = false := by simpa using hp
            have Hp := Lib.hid hp
            clear hp
            generalize l[k] = x at *
            go_wp2_with fail
            go_roundw
            case rel =>
              refine ⟨k + 1, z, by omega, by go_num, ?_, rfl, ?_⟩
              · rw [Hcnt.out, if_neg Hp.out]; rfl
              · rw [Hsame.out Hp.out]; exact HO'.out
            case measure => simp [intOf]; omega
        · go_wp2_with fail
          go_ret3
          rw [Hv.out.1, Hv.out.2.1, Hv.out.2.2, show (eraseL l p).length = l.length by simp [eraseL]]
          rw [eraseK_all l p k (by omega)] at hown
          rw [List.take_of_length_le (by omega)]
          exact ⟨A1, c1, rfl, hown, Ext.ext_self _ _⟩

theorem infoI : ElemInfo Try.prog 60 3 1 8 := elemInfo Try.underlying60 (z := .int .i64 0) (by kernel_rfl) rfl (by omega)

def intsV (l : List Int) : List Value := l.map (Value.int .i64)
theorem intsV_one (l : List Int) : ∀ u ∈ intsV l, u.oneCell' = true := by
  intro u hu
  obtain ⟨n, _, rfl⟩ := List.mem_map.1 hu
  rfl

/-- What the closure of About leaves. -/
def About1 (N n : Nat) (xs : List Value) (w : World) (e : Ending) (w' : World) : Prop :=
  ∃ A c, e = .returned (.tuple #[]) ∧ Blk w' N 60 #[.slice A n c] ∧ w'.ownsRow (N + 1) 3 1 (.slice A n c) n xs ∧ Ext (trunc w N) w'

set_option maxHeartbeats 400000 in
theorem about1_any (at_ : Int) (q : Value) (N n c : Nat) (A : Option Addr) (xs : List Value) (w : World) (hn : n ≤ 1000) (hB : Blk w N 60 #[.slice A n c]) (hown : w.ownsRow (N + 1) 3 1 (.slice A n c) n xs) :
    Calls Try.prog 60 #[.int .i64 at_, q, .pointer (some ⟨N, 0, none⟩)] w (About1 N (n + 1) (xs ++ [.int .i64 at_]) w) := by
  have hlt := hB.lt
  have hc := hB.cell 0
  have hNo := Old.mk hlt
  simp only [List.getElem?_toArray, List.getElem?_cons_zero] at hc
  have hT : (trunc w (N + 1)).heap.size = N + 1 := trunc_size (by omega)
  have HT := Lib.hid (trunc_ext (w := w) (n := N + 1) (by omega))
  have HTB := Lib.hid (trunc_blk hB (Nat.lt_succ_self N))
  have HT0 := Lib.hid hT
  have HO := Lib.hid hown
  have HB := Lib.hid hB
  clear hown hB hT
  go_enter Try.func60, Try.ntmps60
  go_wp2_with (at_builtin; refine wpList_append_ext rfl (trunc w (N + 1)) (by exact HT.out.alloc _) infoI (.tmp 5) (.tmp 7) rfl _ n xs rfl (by rw [HT0.out]; exact own_grow HO.out ((Ext.refl _).alloc _)) _ 1 1 [.int .i64 at_] rfl (Slc.of_blk (cs := #[.int .i64 at_]) (t := 3) (Blk.new _ _ _) rfl) (by simp [Value.oneCell']) (by omega) (by omega) ?_; intro A1 c1 z1 hown1; have hcc := (HTB.out.ext z1).cell 0; have hff := (HTB.out.ext z1).frozen 0; simp only [List.getElem?_toArray, List.getElem?_cons_zero] at hcc)
  go_end0
  rw [HT0.out] at hown1
  refine ⟨A1, c1, rfl, (HTB.out.ext z1).set_ 0 _, ?_, ?_⟩
  · obtain ⟨g, cap, hv, hg, hgl⟩ := hown1.form (by omega)
    obtain ⟨rfl, -, rfl⟩ : A1 = some ⟨g, 0, none⟩ ∧ True ∧ c1 = cap := by simpa using hv
    exact own_far hown1 (by omega) _
  · have h1 : Ext (trunc w N) (trunc w (N + 1)) := ⟨rfl, rfl, rfl, by rw [trunc_size (by omega), HT0.out]; omega, fun k hk => by
      rw [trunc_size (by omega)] at hk
      rw [trunc_at w _ k hk, trunc_at w _ k (by omega)]⟩
    exact (h1.ext z1).setCell (by rw [trunc_size (by omega)]; exact Nat.le_refl _) _

/-- the indices of the entries about a person -/
def aboutK (l : List E) (p : Int) (k : Nat) : List Int := ((List.range k).filter fun i => (l.getD i E.zero).person == p).map fun (i : Nat) => (i : Int)
theorem aboutK_succ (l : List E) (p : Int) (k : Nat) (h : k < l.length) : aboutK l p (k + 1) = aboutK l p k ++ if l[k].person = p then [(k : Int)] else [] := by
  unfold aboutK
  rw [List.range_succ, List.filter_append, List.map_append]
  by_cases hp : l[k].person = p <;> simp [List.getElem?_eq_getElem h, hp]
theorem aboutK_le (l : List E) (p : Int) (k : Nat) : (aboutK l p k).length ≤ k := by
  unfold aboutK
  rw [List.length_map]
  have := List.length_filter_le (fun i => (l.getD i E.zero).person == p) (List.range k)
  simpa using this
def aboutL (l : List E) (p : Int) : List Int := aboutK l p l.length

def EachAbout (N : Nat) (xs : List Int) (w : World) (e : Ending) (w' : World) : Prop :=
  ∃ A c, e = .returned (.tuple #[]) ∧ Blk w' N 60 #[.slice A xs.length c] ∧ w'.ownsRow (N + 1) 3 1 (.slice A xs.length c) xs.length (intsV xs) ∧ Ext (trunc w N) w'

theorem trunc_trunc {w w' : World} {N : Nat} (hN : N ≤ w.heap.size) (h : Ext (trunc w N) w') : trunc w' N = trunc w' N ∧ Ext (trunc w N) (trunc w' N) := by
  refine ⟨rfl, h.os, h.tape, h.output, ?_, fun k hk => ?_⟩
  · have := h.size
    rw [trunc_size hN] at this ⊢
    rw [trunc_size this]; exact Nat.le_refl _
  · have h2 := h.block k hk
    rw [trunc_size hN] at hk
    rw [trunc_at w' N k hk]; exact h2

set_option maxRecDepth 100000 in
set_option maxHeartbeats 1000000 in
theorem each_about (A : Option Addr) (c N : Nat) (l : List E) (p : Int) (w : World) (hn : l.length ≤ 200) (hNl : N < w.heap.size) (hl : Log (trunc w N) A l) (hB : Blk w N 60 #[.slice none 0 0]) :
    Calls Try.prog 58 #[.slice A l.length c, .int .i64 p, .func (.func 60) #[] #[.pointer (some ⟨N, 0, none⟩)]] w (EachAbout N (aboutL l p) w) := by
  have HBw := Lib.hid hB
  have HNl := Lib.hid hNl
  clear hB hNl
  go_enter Try.func58, Try.ntmps58
  go_wp2_with fail
  go_loopw [9] (fun i wr => ∃ (k : Nat) (B : Option Addr) (d : Nat), k ≤ l.length ∧ i = .int .i64 k ∧ Ext (trunc w N) wr ∧ Blk wr N 60 #[.slice B (aboutK l p k).length d] ∧ wr.ownsRow (N + 1) 3 1 (.slice B (aboutK l p k).length d) (aboutK l p k).length (intsV (aboutK l p k))) (fun i _ => l.length - (intOf i).toNat)
  case atStart => exact ⟨0, none, 0, Nat.zero_le _, rfl, trunc_ext (Nat.le_of_lt HNl.out), HBw.out, own_nil _ _ _ _⟩
  case round =>
    obtain ⟨k, B, d, hk, rfl, hE, hB, hown⟩ := hrel
    by_cases hlt : k < l.length
    · rcases hl with rfl | ⟨b, off, rfl, hb, hc⟩
      · simp at hlt
      obtain ⟨c0, c1, c2, -⟩ := hc k l[k] (List.getElem?_eq_getElem hlt)
      have c2' : wr.cell? ⟨b, off + k * 7 + 2, none⟩ = some (.int .i64 l[k].person) := (hE.cell hb).trans c2
      have hal := aboutK_le l p k
      have Hs := Lib.hid (aboutK_succ l p k hlt)
      have HE := Lib.hid hE
      have HB := Lib.hid hB
      have HO := Lib.hid hown
      clear hc c0 c1 c2 hE hB hown hb
      by_cases hp : l[k].person = p
      · have hp' : (l[k].person == p) = true := by simpa using hp
        rw [if_pos hp] at Hs
        clear hp
        generalize l[k] = x at *
        go_wp2_with fail
        refine (about1_any _ _ N _ d B _ wr (by omega) HB.out HO.out).mono ?_
        rintro e w' ⟨B', d', rfl, hB', hO', hE'⟩
        have HB' := Lib.hid hB'
        have HO' := Lib.hid hO'
        have HE' := Lib.hid hE'
        clear hB' hO' hE'
        go_wp2_with fail
        go_roundw
        case rel =>
          have hlen : (aboutK l p (k + 1)).length = (aboutK l p k).length + 1 := by rw [Hs.out]; simp
          refine ⟨k + 1, B', d', by omega, by go_num, ?_, ?_, ?_⟩
          · exact (trunc_trunc (Nat.le_of_lt HNl.out) HE.out).2.trans HE'.out
          · rw [hlen]; exact HB'.out
          · rw [hlen, Hs.out]
            have : intsV (aboutK l p k ++ [(k : Int)]) = intsV (aboutK l p k) ++ [.int .i64 (k : Int)] := by simp [intsV]
            rw [this]; exact HO'.out
        case measure => simp [intOf]; omega
      · have hp' : (l[k].person == p) = false := by simpa using hp
        rw [if_neg hp, List.append_nil] at Hs
        clear hp
        generalize l[k] = x at *
        go_wp2_with fail
        go_roundw
        case rel => exact ⟨k + 1, B, d, by omega, by go_num, HE.out, by rw [Hs.out]; exact HB.out, by rw [Hs.out]; exact HO.out⟩
        case measure => simp [intOf]; omega
    · have hkl : k = l.length := by omega
      subst hkl
      go_wp2_with fail
      go_end0
      exact ⟨B, d, rfl, hB, hown, hE⟩
end Go.Proofs.Ytkhmjkhgmggjcaa
