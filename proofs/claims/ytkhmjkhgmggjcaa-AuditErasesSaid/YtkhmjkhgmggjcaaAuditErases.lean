/- Proved: for every log l and all numbers person and at, the call of whorllaw11.AuditErases returns true and leaves its arguments as they were. No conditions. -/
import Derived.Test.YtkhmjkhgmggjcaaOpening
import Derived.Test.YtkhmjkhgmggjcaaLogs
namespace Go.Proofs.Ytkhmjkhgmggjcaa
open Go.Joins Go.ChangeShapes Go.WideShapes Go.RowKit Go.Deep Go.ChangeAt

/-- The time of an entry of a slice of the call's own is set. -/
theorem own_put {W wr : World} {A : Option Addr} {n c k : Nat} {ys : List Value} (hW : Ext W wr) (h : wr.ownsRow W.heap.size 54 7 (.slice A n c) n ys) (hk : k < n) :
    ∃ g, A = some ⟨g, 0, none⟩ ∧ W.heap.size ≤ g ∧ (∀ j, j < n * 7 → (wr.cell? ⟨g, j, none⟩).isSome = true) ∧ (∀ j, wr.frozen? ⟨g, j, none⟩ = false) ∧
      ∀ (j : Nat) (u : Value), (wr.setCell ⟨g, j, none⟩ u).ownsRow W.heap.size 54 7 (.slice A n c) n (ys.set j u) ∧ Ext W (wr.setCell ⟨g, j, none⟩ u) := by
  obtain ⟨g, cap, hv, hb, hlt⟩ := h.form (by omega)
  obtain ⟨rfl, -, rfl⟩ : A = some ⟨g, 0, none⟩ ∧ n = n ∧ c = cap := by simpa using hv
  refine ⟨g, rfl, hb, fun j hj => ?_, fun j => h.frozenAt j, fun j u => ⟨(h.stored j u).1, hW.setCell hb u⟩⟩
  rw [h.cellAt j hj]
  have : j < ys.length := by rw [h.1]; exact hj
  rw [List.getElem?_eq_getElem this]; rfl

set_option maxRecDepth 100000 in
set_option maxHeartbeats 2000000 in
theorem auditErases_walk (A : Option Addr) (c : Nat) (l : List E) (p q : Int) (w : World) (hl : Log w A l) (hok : ∀ x ∈ l, x.ok) :
    Calls Try.prog 6 #[.slice A l.length c, .int .i64 p, .int .i64 q] w fun e w' => e = .returned (.bool true) ∧ Ext w w' := by
  by_cases hn : l.length ≤ 100
  · have HOK := Lib.hid hok
    clear hok
    have HL := Lib.hid hl
    have HS := Lib.hid hl.slc
    clear hl
    obtain ⟨o0, o1, ho⟩ : ∃ a b, openV l q = .tuple #[.int .u64 a, .int .i64 b] := by unfold openV; split; split; split; all_goals exact ⟨_, _, rfl⟩
    obtain ⟨m, hm⟩ : ∃ m, erasedL l p = m := ⟨_, rfl⟩
    obtain ⟨nn, hnn⟩ : ∃ m, erasedN l p = m := ⟨_, rfl⟩
    obtain ⟨e, he⟩ : ∃ m, knownI l p = m := ⟨_, rfl⟩
    obtain ⟨ab, hab⟩ : ∃ m, aboutR l p = m := ⟨_, rfl⟩
    have hmn : m.length ≤ 200 := by
      rw [← hm]; unfold erasedL; split
      · simp [eraseL]; omega
      · simp
    have hbn : ab.length ≤ 1000 := by
      rw [← hab]; unfold aboutR; split
      · have := aboutK_le l p l.length; unfold aboutL; omega
      · simp
    have C1 := Lib.hid (fun A c w hl => hm ▸ hnn ▸ he ▸ erase_any A c l p w hl hn)
    have C2 := Lib.hid (fun A c w hl => hm ▸ hnn ▸ he ▸ refErase_any A c l p w hl HOK.out hn)
    have C3 := Lib.hid (fun A c w hl => hab ▸ he ▸ about_any A c l p w hl hn)
    have C4 := Lib.hid (fun A c w hl => hab ▸ he ▸ refAbout_any A c l p w hl HOK.out hn)
    have C5 := Lib.hid (fun A c w hl => ho ▸ open_any A c l q w hl hn)
    have C6 := Lib.hid (fun A c w hl => ho ▸ refOpen_any A c l q w hl HOK.out hn)
    clear hm hnn he hab ho
    go_enter Try.func6, Try.ntmps6
    go_wp2_with (at_builtin; refine wpList_append_new rfl infoE (.tmp 27) (.tmp 28) rfl w.heap.size (by simp) _ rfl (own_empty 7 (Nat.le_refl _) (Blk.new w 54 #[])) A l.length c (flat l) rfl (by exact HS.out.grow ((Ext.refl w).alloc _)) (flat_one' l) (by omega) (by omega) ?_; intro A1 c1 z1 hown1)
    have hE1 : Ext w (ext (w.alloc (.cells #[] 54)) z1) := ((Ext.refl w).alloc _).ext _
    generalize ext (w.alloc (.cells #[] 54)) z1 = W1 at *
    have HL1 := Lib.hid (Slc.of_own hown1).log
    have HE1 := Lib.hid hE1
    clear hE1 hown1
    refine calls_slice3 (C1.out A1 c1 W1 HL1.out) fun A2 c2 z2 hown2 => ?_
    have HO2 := Lib.hid hown2
    clear hown2
    go_wp2_with fail
    refine calls_slice3 (C2.out A c _ (HL.out.grow (HE1.out.ext z2))) fun A3 c3 z3 hown3 => ?_
    have HO3 := Lib.hid hown3
    clear hown3
    have HO2' := Lib.hid (own_grow HO2.out (Ext.ext_self _ z3))
    have HE3 := Lib.hid (((Ext.refl W1).ext z2).ext z3)
    have HL3 := Lib.hid (Slc.of_own HO3.out).log
    generalize ext (ext W1 z2) z3 = W3 at *
    go_wp2_with fail
    refine calls_slice2 (C3.out A1 c1 W3 (HL1.out.grow HE3.out)) fun A4 c4 z4 hown4 => ?_
    have HO4 := Lib.hid hown4
    clear hown4
    go_wp2_with fail
    refine calls_slice2 (C4.out A c _ (HL.out.grow (HE1.out.trans (HE3.out.ext z4)))) fun A5 c5 z5 hown5 => ?_
    have HO5 := Lib.hid (Slc.of_own hown5)
    have HO4' := Lib.hid ((Slc.of_own HO4.out).grow (Ext.ext_self _ z5))
    have HE5 := Lib.hid (((Ext.refl W3).ext z4).ext z5)
    clear hown5 HO4
    generalize ext (ext W3 z4) z5 = W5 at *
    go_wp2_with fail
    refine Calls.ext (C5.out A1 c1 W5 (HL1.out.grow (HE3.out.trans HE5.out))) fun z6 => ?_
    go_wp2_with fail
    refine Calls.ext (C6.out A c _ (HL.out.grow ((HE1.out.trans (HE3.out.trans HE5.out)).ext z6))) fun z7 => ?_
    have HE7 := Lib.hid (((Ext.refl W5).ext z6).ext z7)
    generalize ext (ext W5 z6) z7 = W7 at *
    go_wp2_with (first | (go_at_call 32; refine Calls.ext (sameLog_same A2 A3 c2 c3 m _ (by exact (Slc.of_own HO2'.out).log.grow (HE5.out.trans HE7.out)) (by exact HL3.out.grow (HE5.out.trans HE7.out)) hmn) fun z8 => ?_) | (go_at_call 39; refine Calls.ext (sameInts_same A4 A5 c4 c5 ab _ (by exact HO4'.out.grow (HE7.out.ext _)) (by exact HO5.out.grow (HE7.out.ext _)) hbn) fun z9 => ?_))
    have HE9 := Lib.hid ((HE3.out.trans (HE5.out.trans HE7.out)).ext z8 |>.ext z9)
    have HO9 := Lib.hid (own_grow HO2'.out ((HE5.out.trans HE7.out).ext z8 |>.ext z9))
    generalize ext (ext W7 z8) z9 = W9 at *
    clear HO2 HO2' HO3 HL3 HE3 C1 C2 C3 C4 C5 C6 HO4' HO5 HE5 HE7
    go_loopw [103] (fun i wr => ∃ (k : Nat) (z : World) (ys : List Value), k ≤ m.length ∧ i = .int .i64 k ∧ wr = ext W1 z ∧ wr.ownsRow W1.heap.size 54 7 (.slice A2 m.length c2) m.length ys) (fun i _ => m.length - (intOf i).toNat)
    case atStart => exact ⟨0, W9, _, Nat.zero_le _, rfl, (ext_of HE9.out).symm, HO9.out⟩
    case round =>
      obtain ⟨k, z, ys, hk, rfl, rfl, hown⟩ := hrel
      by_cases hlt : k < m.length
      · obtain ⟨g, rfl, hg, hc, hf, hst⟩ := own_put (Ext.ext_self W1 z) hown hlt
        have h0 := hc (k * 7) (by omega)
        obtain ⟨u0, h0'⟩ := Option.isSome_iff_exists.1 h0
        have HST := Lib.hid (hst (k * 7) (.int .i64 (-7)))
        have HG := Lib.hid hg
        clear hc h0 hst hown hg
        go_wp2_with fail
        go_roundw
        case rel => exact ⟨k + 1, _, _, by omega, by go_num, (ext_of HST.out.2).symm, HST.out.1⟩
        case measure => simp [intOf]; omega
      · clear hown
        go_wp2_with (go_at_call 32; refine Calls.ext (sameLog_same A1 A c1 c l _ (by exact HL1.out.grow (Ext.ext_self _ _)) (by exact HL.out.grow (HE1.out.ext _)) (by omega)) fun z6 => ?_)
        go_ret
        exact ⟨rfl, (HE1.out.ext _).ext _⟩
  · go_enter Try.func6, Try.ntmps6
    go_wp2_with fail
    go_ret
    exact ⟨rfl, Ext.refl _⟩

set_option maxRecDepth 100000 in
theorem auditErases_lifted (os : Os) (started : os.Started) (H : Type) (enc : TypeId × Value → H) :
    ReturnsInHanded {} Try.checked os 6 .any (Rows.auditErasesSpec.pre6 enc Try.prog Try.f6 Rows.auditErasesRow.domain false) (Rows.auditErasesSpec.post enc Try.prog Try.f6 false true false false) := by
  refine returnsInHanded_of_change (C := Try.checked) own started (by kernel_rfl) Try.func6
    (ChangeSpec.witness6 (enc := enc) (C := Try.checked) false ⟨#[], #[.slice none 0 0, .int .i64 0, .int .i64 0], []⟩ 8 (by kernel_rfl) (by kernel_rfl) (by kernel_rfl) (by kernel_rfl)) ?_
  intro W base args ds gs before hval0 hW hcnd _
  have hval : ∀ (j : Nat) t v, Try.f6.params[j]? = some t → args[j]? = some v → Value.okWide Try.prog W .any base t v := hval0
  have hW' := hW
  obtain ⟨p, q, hA0, hV, rfl, hfz, hnd⟩ := hW
  have hA : DataW.TrodAll enc Try.prog W 0 (fun _ => true) true Try.f6.params.toList args.toList ds p := hA0
  rw [Try.params6] at hA hval
  obtain ⟨v0, vs0, d0, ds0, p0, q0, hargs, rfl, rfl, h0, r0⟩ := trodAll_cons hA
  obtain ⟨v1, vs1, d1, ds1, p1, q1, rfl, rfl, rfl, h1, r1⟩ := trodAll_cons r0
  obtain ⟨v2, vs2, d2, ds2, p2, q2, rfl, rfl, rfl, h2, r2⟩ := trodAll_cons r1
  obtain ⟨rfl, rfl, rfl⟩ := trodAll_nil r2
  obtain rfl : args = #[v0, v1, v2] := by cases args; simp_all
  obtain ⟨rfl, rfl⟩ := trodVars_none hV
  have k0 := h0
  have lt0 : ∀ x ∈ p0, x.block < W.heap.size := by obtain ⟨m, hm⟩ := k0; exact DataW.trod_lt m _ _ _ hm
  obtain ⟨A0, rows0, cap0, rfl, hlc0, hcm0, hwf0, hrow0⟩ := open_rows (ks := [.i64, .i64, .i64, .u64, .u64, .u64, .u64]) Try.underlying39 Try.underlying54 (by kernel_rfl) (by kernel_rfl) (kindsOf_of (by kernel_rfl)) (by decide) (hval 0 39 v0 rfl rfl) h0
  have k1 := h1
  have lt1 : ∀ x ∈ p1, x.block < W.heap.size := by obtain ⟨m, hm⟩ := k1; exact DataW.trod_lt m _ _ _ hm
  obtain ⟨a1, rfl, _, _, w1⟩ := open_int Try.underlying3 (hval 1 3 v1 rfl rfl) h1
  have k2 := h2
  have lt2 : ∀ x ∈ p2, x.block < W.heap.size := by obtain ⟨m, hm⟩ := k2; exact DataW.trod_lt m _ _ _ hm
  obtain ⟨a2, rfl, _, _, w2⟩ := open_int Try.underlying3 (hval 2 3 v2 rfl rfl) h2
  clear hA0 hval0
  obtain ⟨l, hle, hlog, hfit, hcap⟩ := log_of_rows hwf0 hrow0 hlc0
  refine (hle ▸ auditErases_walk A0 cap0 l a1 a2 W hlog (fun x hx => (hfit x hx).ok)).mono fun e W' ⟨he, bel⟩ => ?_
  subst he
  exact ⟨_, rfl, _, _, _, [], _, [], hW', trodAll_mk1 (shut_bool Try.underlying4 _), (trodAll_cons_mk (Below.trod laidOut (by kernel_rfl) (of_decide_eq_true (by kernel_rfl)) k0 bel lt0) (trodAll_cons_mk (Below.trod laidOut (by kernel_rfl) (of_decide_eq_true (by kernel_rfl)) k1 bel lt1) (trodAll_cons_mk (Below.trod laidOut (by kernel_rfl) (of_decide_eq_true (by kernel_rfl)) k2 bel lt2) trodAll_mk0))), rfl, Below.frame bel _, fun h => by cases h⟩

theorem auditErases_holds : Rows.AuditErasesSaid :=
  OpenClaim.holds_of_wide 6 Try.f6 rfl rfl rfl rfl rfl rfl rfl ⟨rfl, rfl, rfl, rfl, rfl⟩ rfl rfl rfl rfl rfl (by kernel_rfl) Try.func6 (by kernel_rfl)
    (of_decide_eq_true (by kernel_rfl)) (by unfold Func.isWrapper; first | (rw [if_pos (by decide +kernel)]; kernel_rfl) | (rw [if_neg (by decide +kernel)]; exact ⟨rfl, rfl⟩))
    (fun os started H enc _ => auditErases_lifted os started H enc)
end Go.Proofs.Ytkhmjkhgmggjcaa
