/- Proved: for every log l, every number person and all details, the call of whorllaw11.AuditErased returns true and leaves its arguments as they were. No conditions. -/
import Derived.Test.YtkhmjkhgmggjcaaAlive
import Derived.Test.YtkhmjkhgmggjcaaPure3
import Derived.Test.YtkhmjkhgmggjcaaOpen2
import Derived.Test.YtkhmjkhgmggjcaaLogs
namespace Go.Proofs.Ytkhmjkhgmggjcaa
open Go.Joins Go.ChangeShapes Go.WideShapes Go.RowKit Go.Deep Go.ChangeAt

/-- A slice of u64 that starts at D has the numbers ds. -/
def Nums (w : World) (D : Option Addr) (ds : List Int) : Prop :=
  ds = [] ∨ ∃ b off, D = some ⟨b, off, none⟩ ∧ b < w.heap.size ∧ ∀ (i : Nat) n, ds[i]? = some n → w.cell? ⟨b, off + i, none⟩ = some (.int .u64 n)

theorem cell_next {w W : World} {g k : Nat} {l : List E} {x : E} {n cap base : Nat} (hw : Ext w W) (hown : W.ownsRow base 54 7 (.slice (some ⟨g, 0, none⟩) n cap) n (flat l)) (hn : l.length = n) (hx : l[k]? = some x) :
    W.cell? ⟨g, k * 7 + 2, none⟩ = some (.int .i64 x.person) ∧ W.cell? ⟨g, k * 7 + 3, none⟩ = some (.int .u64 x.detail) ∧ W.cell? ⟨g, k * 7 + 4, none⟩ = some (.int .u64 x.salt) ∧ W.cell? ⟨g, k * 7 + 5, none⟩ = some (.int .u64 x.seal_) := by
  have hk : k < n := by rw [← hn]; exact (List.getElem?_eq_some_iff.1 hx).1
  have hcell := fun (j : Nat) (hj : j < 7) => (hown.cellAt (k * 7 + j) (by omega)).trans (flat_at _ k _ hx j hj)
  have c2 := hcell 2 (by omega)
  have c3 := hcell 3 (by omega)
  have c4 := hcell 4 (by omega)
  have c5 := hcell 5 (by omega)
  simp only [E.cellsL, List.getElem?_cons_zero, List.getElem?_cons_succ] at c2 c3 c4 c5
  exact ⟨c2, c3, c4, c5⟩

theorem set_self (l : List E) (k : Nat) (x : E) (h : l[k]? = some x) : l.set k x = l := by
  apply List.ext_getElem?
  intro i
  rw [List.getElem?_set]
  split
  · rename_i e; subst e
    rw [if_pos (List.getElem?_eq_some_iff.1 h).1, h]
  · rfl

set_option maxRecDepth 100000 in
set_option maxHeartbeats 2000000 in
theorem erased_ok (A D : Option Addr) (c dc : Nat) (l : List E) (ds : List Int) (p : Int) (w : World) (hl : Log w A l) (hd : Nums w D ds) (hdl : ds.length ≤ 9223372036854775807) (hn : l.length ≤ 60) (hg : okB l = true) (hp0 : 0 ≤ p) (hk0 : knownI l p = 0) (hfit : ∀ x ∈ l, x.ok) (hdf : ∀ d ∈ ds, 0 ≤ d ∧ d < 18446744073709551616) :
    Calls Try.prog 10 #[.slice A l.length c, .int .i64 p, .slice D ds.length dc] w fun e w' => e = .returned (.bool true) ∧ Ext w w' := by
  have tw := twins_other l p ds hfit hp0 hdf
  have hg2 := tw.ok hg
  have hk2 : knownI (otherK l p ds l.length) p = 0 := by
    have : fromB 0 63 p = true := by
      simp only [knownI, hg, if_true] at hk0
      cases h : fromB 0 63 p
      · simp [h] at hk0
      · rfl
    simp [knownI, hg2, this]
  have e1 : erasedL l p = eraseL l p := by simp [erasedL, hk0]
  have e1n : erasedN l p = cntL l p := by simp [erasedN, hk0]
  have e2 : erasedL (otherK l p ds l.length) p = eraseL l p := by simp [erasedL, hk2, tw.erase]
  have e2n : erasedN (otherK l p ds l.length) p = cntL l p := by simp [erasedN, hk2, tw.cnt]
  have hg3 := ok_erase p hg
  have hk3 : knownI (eraseL l p) p = 0 := by
    have : fromB 0 63 p = true := by
      simp only [knownI, hg, if_true] at hk0
      cases h : fromB 0 63 p
      · simp [h] at hk0
      · rfl
    simp [knownI, hg3, this]
  have e3 : aboutR (eraseL l p) p = [] := by simp [aboutR, hk3, about_erased l p hp0]
  have hel : (eraseL l p).length = l.length := by simp [eraseL]
  have hol : (otherK l p ds l.length).length = l.length := otherK_len _ _ _ _
  have C1 := Lib.hid (fun A c w hl => hel ▸ e1 ▸ e1n ▸ hk0 ▸ erase_any A c l p w hl (by omega))
  have C2 := Lib.hid (fun A c w hl => hel ▸ hol ▸ e2 ▸ e2n ▸ hk2 ▸ erase_any A c (otherK l p ds l.length) p w hl (by omega))
  have C3 := Lib.hid (fun A c w hl => hel ▸ e3 ▸ hk3 ▸ about_any A c (eraseL l p) p w hl (by omega))
  have C4 := Lib.hid (fun A c w hl => hol ▸ (by simp [checkI_eq, hg2] : checkI (otherK l p ds l.length) = 0) ▸ check_any A c (otherK l p ds l.length) w hl (by omega))
  have C5 := Lib.hid (fun A c w hl => hel ▸ (by simp [checkI_eq, hg3] : checkI (eraseL l p) = 0) ▸ check_any A c (eraseL l p) w hl (by omega))
  have C6 := Lib.hid (fun A B c d w ha hb => hel ▸ sameLog_same A B c d (eraseL l p) w ha hb (by omega))
  have Hel := Lib.hid hel
  have Hol := Lib.hid hol
  have HL := Lib.hid hl
  have HD := Lib.hid hd
  have HS := Lib.hid hl.slc
  have HK := Lib.hid (otherK_at l p ds)
  have HKL := Lib.hid (otherK_len l p ds)
  clear e1 e1n e2 e2n e3 hg2 hg3 hk2 hk3 hk0 tw hel hol hl hd hfit hdf hg
  have hle1 : decide ((60 : Int) < (l.length : Int)) = false := by simp; omega
  have hps : decide (p < 0) = false := by simp; omega
  have hnn : ((l.length : Int) != (l.length : Int)) = false := by simp
  go_enter Try.func10, Try.ntmps10
  go_wp2_with (go_at_call 40; refine Calls.ext (alive_any _) fun z1 => ?_)
  refine calls_slice3 (C1.out A c _ (HL.out.grow (Ext.ext_self w z1))) fun A1 c1 z2 hown1 => ?_
  have HX := Lib.hid (Slc.log (l := eraseL l p) (by rw [Hel.out]; exact Slc.of_own hown1))
  have HE := Lib.hid (((Ext.refl w).ext z1).ext z2)
  clear hown1
  generalize ext (ext w z1) z2 = W at *
  go_wp2_with (at_builtin; refine wpList_append_new rfl infoE (.tmp 56) (.tmp 57) rfl W.heap.size (by simp) _ rfl (own_empty 7 (Nat.le_refl _) (Blk.new W 54 #[])) A l.length c (flat l) rfl (by exact HS.out.grow (HE.out.alloc _)) (flat_one' l) (by omega) (by omega) ?_; intro A2 c2 z3 hown2)
  have hE2 : Ext W (ext (W.alloc (.cells #[] 54)) z3) := ((Ext.refl W).alloc _).ext _
  generalize ext (W.alloc (.cells #[] 54)) z3 = W2 at *
  go_loopw [12, 61] (fun n i wr => ∃ (k : Nat), k ≤ l.length ∧ i = .int .i64 k ∧ n = .int .i64 (cntL (l.take k) p) ∧ Ext W wr ∧ wr.ownsRow W.heap.size 54 7 (.slice A2 l.length c2) l.length (flat (otherK l p ds k))) (fun _ i _ => l.length - (intOf i).toNat)
  case atStart => exact ⟨0, Nat.zero_le _, rfl, by simp [cntL], hE2, hown2⟩
  case round =>
    clear hE2 hown2
    obtain ⟨k, hk, rfl, rfl, hW, hown⟩ := hrel
    by_cases hlt : k < l.length
    · obtain ⟨g, cap, hv, hg, hgl⟩ := hown.form (by omega)
      obtain ⟨rfl, -, rfl⟩ : A2 = some ⟨g, 0, none⟩ ∧ l.length = l.length ∧ c2 = cap := by simpa using hv
      have hat := HK.out k k hlt
      rw [if_neg (by omega)] at hat
      obtain ⟨o2, o3, o4, o5⟩ := cell_next hW hown (HKL.out k) hat
      have hf := hown.frozenAt
      -- the cells of l and of x
      rcases HL.out.grow HE.out with h | ⟨b, off, rfl, hb, hc⟩
      · subst h; simp at hlt
      obtain ⟨a0, a1, a2, a3, a4, a5, a6⟩ := hc k l[k] (List.getElem?_eq_getElem hlt)
      rcases HX.out with h | ⟨bx, offx, rfl, hbx, hcx⟩
      · exfalso; have := Hel.out; rw [h] at this; simp at this; omega
      have hxk : (eraseL l p)[k]? = some (if l[k].person = p then eraseE l[k] else l[k]) := by simp [eraseL, List.getElem?_eq_getElem hlt]
      obtain ⟨x0, x1, x2, x3, x4, x5, x6⟩ := hcx k _ hxk
      have Hcnt := Lib.hid (cnt_succ l p k hlt)
      have hcl := cnt_le l p k
      have HO := Lib.hid hown
      have HW := Lib.hid hW
      have HG := Lib.hid hg
      have Hat := Lib.hid hat
      have Hoth := Lib.hid (show otherK l p ds (k + 1) = (otherK l p ds k).set k (otherE p ds k l[k]) by simp [otherK, List.getElem?_eq_getElem hlt])
      have hbo := Old.mk hb
      have hbxo := Old.mk hbx
      have hdb : Nonempty (Diff b g) := ⟨by unfold Diff; omega⟩
      have hdx : Nonempty (Diff bx g) := ⟨by unfold Diff; omega⟩
      have hWsz := hW.size
      clear hc hcx hown hW hg hat hv hb hbx hxk
      generalize l[k] = x at *
      obtain ⟨z, rfl⟩ : ∃ z, wr = ext W z := ⟨wr, (ext_of HW.out).symm⟩
      by_cases hp : x.person = p
      · simp only [if_pos hp, eraseE] at x0 x1 x2 x3 x4 x5 x6
        have hp' : (x.person != p) = false := by simpa using hp
        rw [if_pos hp] at Hcnt
        by_cases hkd : k < ds.length
        · rcases HD.out with h | ⟨bd, offd, rfl, hbd, hcd⟩
          · subst h; simp at hkd
          have cd0 := (HE.out.cell (p := ⟨bd, offd + k, none⟩) hbd).trans (hcd k ds[k] (List.getElem?_eq_getElem hkd))
          have hbdo := Old.mk (Nat.lt_of_lt_of_le hbd HE.out.size)
          have hdd : Nonempty (Diff bd g) := ⟨by have := old_lt hbdo; have := HG.out; unfold Diff; omega⟩
          have Hne := Lib.hid (show otherE p ds k x = redetail x ds[k] by simp [otherE, hp, List.getElem?_eq_getElem hkd])
          clear hcd hbd hp
          generalize ds[k] = d at *
          have hkd' : decide (k < ds.length) = true := by simpa using hkd
          go_wp2_with fail
          have p5 : ((ext W z).setCell ⟨g, k * 7 + 3, none⟩ (.int .u64 d)).cell? ⟨g, k * 7 + 5, none⟩ = some (.int .u64 x.seal_) := (World.cell?_setCell_other _ _ _ _ (by intro e; injection e; omega)).trans o5
          have p4 : ((ext W z).setCell ⟨g, k * 7 + 3, none⟩ (.int .u64 d)).cell? ⟨g, k * 7 + 4, none⟩ = some (.int .u64 x.salt) := (World.cell?_setCell_other _ _ _ _ (by intro e; injection e; omega)).trans o4
          have HO5 := Lib.hid (HO.out.stored (k * 7 + 3) (.int .u64 d)).1
          have hf5 := HO5.out.frozenAt
          have HE5 := Lib.hid (HW.out.setCell (p := ⟨g, k * 7 + 3, none⟩) HG.out (.int .u64 d))
          clear o2 o3 o4 o5 hf HO HW hgl hWsz
          generalize hW5 : (ext W z).setCell ⟨g, k * 7 + 3, none⟩ (.int .u64 d) = W5 at *
          clear hW5 z
          obtain ⟨z, rfl⟩ : ∃ z, W5 = ext W z := ⟨W5, (ext_of HE5.out).symm⟩
          refine wp_region_tail 14 (by kernel_rfl) (by kernel_rfl) ?_
          simp only [List.take_succ_cons, List.take_zero, List.drop_succ_cons, List.drop_zero]
          repeat still_step
          still_call ((salt_any _ _ _).mono fun _ _ ⟨h1, h2⟩ => ⟨h1, h2.symm⟩)
          repeat still_step
          refine wpStill_nil ?_
          go_wp2_with fail
          have HO6 : Hid (((ext W z).setCell ⟨g, k * 7 + 4, none⟩ (.int .u64 (bits .xor .u64 x.seal_ d))).drew.ownsRow W.heap.size 54 7 (.slice (some ⟨g, 0, none⟩) l.length c2) l.length (flat (otherK l p ds (k + 1)))) := Lib.hid (by
            have := (HO5.out.stored (k * 7 + 4) (.int .u64 (bits .xor .u64 x.seal_ d))).1
            rw [flat_set1 _ k x Hat.out] at this
            rw [Hoth.out, Hne.out]
            exact this)
          have HE6 := Lib.hid (HE5.out.setCell (p := ⟨g, k * 7 + 4, none⟩) HG.out (.int .u64 (bits .xor .u64 x.seal_ d))).drew
          clear HO5 HE5 p4 p5 hf5
          generalize hW6 : ((ext W z).setCell ⟨g, k * 7 + 4, none⟩ (.int .u64 (bits .xor .u64 x.seal_ d))).drew = W6 at *
          clear hW6 z
          obtain ⟨z, rfl⟩ : ∃ z, W6 = ext W z := ⟨W6, (ext_of HE6.out).symm⟩
          refine wp_region_ext (by kernel_rfl) (by kernel_rfl) ?_
          repeat (go_big_quiet_step (fail))
          refine wpQuiet_nil ?_
          rintro _ ⟨z5, rfl⟩
          go_wp2_with fail
          go_roundw
          case rel => exact ⟨k + 1, by omega, by go_num, by rw [Hcnt.out]; simp, HE6.out.ext z5, own_grow HO6.out (Ext.ext_self _ z5)⟩
          case measure => simp [intOf]; omega
        · have Hne := Lib.hid (show otherE p ds k x = x by simp [otherE, hp, List.getElem?_eq_none (Nat.le_of_not_lt hkd)])
          have hkd' : decide (k < ds.length) = false := by simpa using hkd
          clear hp
          go_wp2_with fail
          refine wp_region_ext (by kernel_rfl) (by kernel_rfl) ?_
          repeat (go_big_quiet_step (fail))
          refine wpQuiet_nil ?_
          rintro _ ⟨z5, rfl⟩
          go_wp2_with fail
          go_roundw
          case rel =>
            refine ⟨k + 1, by omega, by go_num, by rw [Hcnt.out]; simp, HW.out.ext z5, own_grow ?_ (Ext.ext_self _ z5)⟩
            rw [Hoth.out, Hne.out, set_self _ k x Hat.out]
            exact HO.out
          case measure => simp [intOf]; omega
      · simp only [if_neg hp] at x0 x1 x2 x3 x4 x5 x6
        have hp' : (x.person != p) = true := by simpa using hp
        rw [if_neg hp] at Hcnt
        have Hne := Lib.hid (show otherE p ds k x = x by simp [otherE, hp])
        clear hp
        go_wp2_with fail
        refine wp_region_ext (by kernel_rfl) (by kernel_rfl) ?_
        repeat (go_big_quiet_step (fail))
        refine wpQuiet_nil ?_
        rintro _ ⟨z5, rfl⟩
        go_wp2_with fail
        go_roundw
        case rel =>
          refine ⟨k + 1, by omega, by go_num, by rw [Hcnt.out]; simp, HW.out.ext z5, own_grow ?_ (Ext.ext_self _ z5)⟩
          rw [Hoth.out, Hne.out, set_self _ k x Hat.out]
          exact HO.out
        case measure => simp [intOf]; omega
    · have hkl : k = l.length := by omega
      subst hkl
      rw [List.take_of_length_le (Nat.le_refl _)]
      have HO3 := Lib.hid (Slc.log (l := otherK l p ds l.length) (by rw [Hol.out]; exact Slc.of_own hown))
      have HW := Lib.hid hW
      clear hown hW
      go_wp2_with fail
      refine calls_slice3 (C2.out _ c2 _ HO3.out) fun A3 c3 z4 hown3 => ?_
      have HY := Lib.hid (Slc.log (l := eraseL l p) (by rw [Hel.out]; exact Slc.of_own hown3))
      have HW4 := Lib.hid (HW.out.ext z4)
      have HO4 := Lib.hid (HO3.out.grow (Ext.ext_self _ z4))
      clear hown3 HW HO3
      generalize ext wr z4 = W4 at *
      go_wp2_with fail
      refine calls_slice2 (C3.out _ c1 _ (HX.out.grow HW4.out)) fun A4 c4 z5 hown4 => ?_
      clear hown4
      have heq : ((cntL l p : Int) == (cntL l p : Int)) = true := by simp
      go_wp2_with fail
      refine Calls.ext (C4.out _ c2 _ (HO4.out.grow (Ext.ext_self _ _))) fun z6 => ?_
      go_wp2_with fail
      refine Calls.ext (C6.out _ _ c1 c3 _ (HX.out.grow ((HW4.out.ext _).ext _)) (HY.out.grow (((Ext.refl _).ext _).ext _))) fun z7 => ?_
      go_wp2_with fail
      refine Calls.ext (C5.out _ c1 _ (HX.out.grow (((HW4.out.ext _).ext _).ext _))) fun z8 => ?_
      go_wp2_with fail
      go_ret
      exact ⟨rfl, HE.out.trans ((((HW4.out.ext _).ext _).ext _).ext _)⟩

set_option maxRecDepth 100000 in
set_option maxHeartbeats 2000000 in
theorem auditErased_walk (A D : Option Addr) (c dc : Nat) (l : List E) (ds : List Int) (p : Int) (w : World) (hl : Log w A l) (hd : Nums w D ds) (hdl : ds.length ≤ 9223372036854775807) (hfit : ∀ x ∈ l, x.ok) (hdf : ∀ d ∈ ds, 0 ≤ d ∧ d < 18446744073709551616) :
    Calls Try.prog 10 #[.slice A l.length c, .int .i64 p, .slice D ds.length dc] w fun e w' => e = .returned (.bool true) ∧ Ext w w' := by
  by_cases hn : l.length ≤ 60
  · by_cases hk0 : knownI l p = 0
    · have hg : okB l = true := by
        cases h : okB l
        · simp [knownI, h] at hk0
        · rfl
      have hp0 : 0 ≤ p := by
        simp only [knownI, hg, if_true] at hk0
        cases h : fromB 0 63 p
        · simp [h] at hk0
        · simp [fromB] at h; omega
      exact erased_ok A D c dc l ds p w hl hd hdl hn hg hp0 hk0 hfit hdf
    · obtain ⟨e, he⟩ : ∃ e, knownI l p = e := ⟨_, rfl⟩
      have e1 : erasedL l p = [] := by simp [erasedL, hk0]
      have e1n : erasedN l p = 0 := by simp [erasedN, hk0]
      have C1 := Lib.hid (fun A c w hl => e1 ▸ e1n ▸ he ▸ erase_any A c l p w hl (by omega))
      have he' : (e != 0) = true := by rw [← he]; simpa using hk0
      clear e1 e1n he hk0
      have HL := Lib.hid hl
      clear hl hd hfit hdf
      have hle1 : decide ((60 : Int) < (l.length : Int)) = false := by simp; omega
      go_enter Try.func10, Try.ntmps10
      go_wp2_with (go_at_call 40; refine Calls.ext (alive_any _) fun z1 => ?_)
      refine calls_slice3 (C1.out A c _ (HL.out.grow (Ext.ext_self w z1))) fun A1 c1 z2 hown1 => ?_
      clear hown1
      go_wp2_with fail
      go_ret
      exact ⟨rfl, ((Ext.refl w).ext _).ext _⟩
  · have hgt : (60 : Int) < (l.length : Int) := by omega
    have hgt' : decide ((60 : Int) < (l.length : Int)) = true := by simpa using hgt
    clear hl hd hfit hdf
    go_enter Try.func10, Try.ntmps10
    go_wp2_with (go_at_call 40; refine Calls.ext (alive_any _) fun z1 => ?_)
    go_ret
    exact ⟨rfl, (Ext.refl w).ext _⟩

set_option maxRecDepth 100000 in
theorem auditErased_lifted (os : Os) (started : os.Started) (H : Type) (enc : TypeId × Value → H) :
    ReturnsInHanded {} Try.checked os 10 .any (Rows.auditErasedSpec.pre6 enc Try.prog Try.f10 Rows.auditErasedRow.domain false) (Rows.auditErasedSpec.post enc Try.prog Try.f10 false true false false) := by
  refine returnsInHanded_of_change (C := Try.checked) own started (by kernel_rfl) Try.func10
    (ChangeSpec.witness6 (enc := enc) (C := Try.checked) false ⟨#[], #[.slice none 0 0, .int .i64 0, .slice none 0 0], []⟩ 8 (by kernel_rfl) (by kernel_rfl) (by kernel_rfl) (by kernel_rfl)) ?_
  intro W base args ds gs before hval0 hW hcnd _
  have hval : ∀ (j : Nat) t v, Try.f10.params[j]? = some t → args[j]? = some v → Value.okWide Try.prog W .any base t v := hval0
  have hW' := hW
  obtain ⟨p, q, hA0, hV, rfl, hfz, hnd⟩ := hW
  have hA : DataW.TrodAll enc Try.prog W 0 (fun _ => true) true Try.f10.params.toList args.toList ds p := hA0
  rw [Try.params10] at hA hval
  obtain ⟨v0, vs0, d0, ds0, p0, q0, hargs, rfl, rfl, h0, r0⟩ := trodAll_cons hA
  obtain ⟨v1, vs1, d1, ds1, p1, q1, rfl, rfl, rfl, h1, r1⟩ := trodAll_cons r0
  obtain ⟨v2, vs2, d2, ds2, p2, q2, rfl, rfl, rfl, h2, r2⟩ := trodAll_cons r1
  obtain ⟨rfl, rfl, rfl⟩ := trodAll_nil r2
  obtain rfl : args = #[v0, v1, v2] := by cases args; simp_all
  obtain ⟨rfl, rfl⟩ := trodVars_none hV
  have k0 := h0
  have lt0 : ∀ x ∈ p0, x.block < W.heap.size := by obtain ⟨m, hm⟩ := k0; exact DataW.trod_lt m _ _ _ hm
  obtain ⟨A0, rows0, cap0, rfl, hlc0, hcm0, hwf0, hrow0⟩ := open_rows (ks := [.i64, .i64, .i64, .u64, .u64, .u64, .u64]) Try.underlying39 Try.underlying54 (by kernel_rfl) (by kernel_rfl) (kindsOf_of (by kernel_rfl)) (by decide) (hval 0 39 v0 rfl rfl) h0
  have k1 := h1
  have lt1 : ∀ x ∈ p1, x.block < W.heap.size := by obtain ⟨m, hm⟩ := k1; exact DataW.trod_lt m _ _ _ hm
  obtain ⟨a1, rfl, _, _, w1⟩ := open_int Try.underlying3 (hval 1 3 v1 rfl rfl) h1
  have k2 := h2
  have lt2 : ∀ x ∈ p2, x.block < W.heap.size := by obtain ⟨m, hm⟩ := k2; exact DataW.trod_lt m _ _ _ hm
  obtain ⟨A2, ns2, cap2, rfl, hlc2, hcm2, hwf2, hrow2⟩ := open_nslice Try.underlying73 Try.underlying24 (by kernel_rfl) (hval 2 73 v2 rfl rfl) h2
  clear hA0 hval0
  obtain ⟨l, hle, hlog, hfit, hcap⟩ := log_of_rows hwf0 hrow0 hlc0
  refine (hle ▸ auditErased_walk A0 A2 cap0 cap2 l ns2 a1 W hlog hrow2 (by unfold maxLen at hcm2; omega) (fun x hx => (hfit x hx).ok) (fun d hd => wf_u64 (hwf2 d hd))).mono fun e W' ⟨he, bel⟩ => ?_
  subst he
  exact ⟨_, rfl, _, _, _, [], _, [], hW', trodAll_mk1 (shut_bool Try.underlying4 _), (trodAll_cons_mk (Below.trod laidOut (by kernel_rfl) (of_decide_eq_true (by kernel_rfl)) k0 bel lt0) (trodAll_cons_mk (Below.trod laidOut (by kernel_rfl) (of_decide_eq_true (by kernel_rfl)) k1 bel lt1) (trodAll_cons_mk (Below.trod laidOut (by kernel_rfl) (of_decide_eq_true (by kernel_rfl)) k2 bel lt2) trodAll_mk0))), rfl, Below.frame bel _, fun h => by cases h⟩

theorem auditErased_holds : Rows.AuditErasedSaid :=
  OpenClaim.holds_of_wide 10 Try.f10 rfl rfl rfl rfl rfl rfl rfl ⟨rfl, rfl, rfl, rfl, rfl⟩ rfl rfl rfl rfl rfl (by kernel_rfl) Try.func10 (by kernel_rfl)
    (of_decide_eq_true (by kernel_rfl)) (by unfold Func.isWrapper; first | (rw [if_pos (by decide +kernel)]; kernel_rfl) | (rw [if_neg (by decide +kernel)]; exact ⟨rfl, rfl⟩))
    (fun os started H enc _ => auditErased_lifted os started H enc)
end Go.Proofs.Ytkhmjkhgmggjcaa
