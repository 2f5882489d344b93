/- Proved: for every log l and all numbers, the call of whorllaw11.AuditWritten returns true and leaves its arguments as they were. No conditions. -/
import Derived.Test.YtkhmjkhgmggjcaaAlive
import Derived.Test.YtkhmjkhgmggjcaaPure
import Derived.Test.YtkhmjkhgmggjcaaLogs
namespace Go.Proofs.Ytkhmjkhgmggjcaa
open Go.Joins Go.ChangeShapes Go.WideShapes Go.RowKit Go.Deep Go.ChangeAt

set_option maxRecDepth 100000 in
set_option maxHeartbeats 4000000 in
theorem written_ok (A : Option Addr) (c : Nat) (l : List E) (t k p d s : Int) (w : World) (hl : Log w A l) (hn : l.length ≤ 60) (hg : okB l = true) (hw : wargB l t k p = true) (h60 : l.length ≠ 60) (hd0 : 0 ≤ d) (hd1 : d < 18446744073709551616) (hs0 : 0 ≤ s) (hs1 : s < 18446744073709551616) :
    Calls Try.prog 13 #[.slice A l.length c, .int .i64 t, .int .i64 k, .int .i64 p, .int .u64 d, .int .u64 s] w fun e w' => e = .returned (.bool true) ∧ Ext w w' := by
  have hok := ok_write l t k p d s hg hw h60 hd0 hd1 hs0 hs1
  have e1 : writeL l t k p d s = l ++ [newE l t k p d s] := by simp [writeL, hg, hw, h60]
  have e2 : writeI l t k p = 0 := by simp [writeI, hg, hw, h60]
  have hp : 0 ≤ p := by
    simp only [wargB, Bool.and_eq_true] at hw
    have := hw.2
    simp [fromB] at this; omega
  have e3 : openV (l ++ [newE l t k p d s]) (l.length : Int) = .tuple #[.int .u64 d, .int .i64 0] := by
    have hf : fromB 0 (((l ++ [newE l t k p d s]).length : Int) - 1) (l.length : Int) = true := by simp [fromB]
    have hx : (l ++ [newE l t k p d s]).getD ((l.length : Int).toNat) E.zero = newE l t k p d s := by simp
    have hnp : ¬ (newE l t k p d s).person < 0 := by show ¬ p < 0; omega
    simp only [openV, hok, hf, hx, if_true, if_neg hnp]
    rfl
  have e4 : tipV (l ++ [newE l t k p d s]) = .tuple #[.int .u64 (newE l t k p d s).link, .int .i64 0] := by
    have : lastE (l ++ [newE l t k p d s]) = newE l t k p d s := by simp [lastE]
    simp [tipV, hok, this]
  have e5 : checkI (l ++ [newE l t k p d s]) = 0 := by simp [checkI_eq, hok]
  have hlen : (l ++ [newE l t k p d s]).length = l.length + 1 := by simp
  have C1 := Lib.hid (fun A c w hl => hlen ▸ e1 ▸ e2 ▸ write_any A c l t k p d s w hl (by omega))
  have C2 := Lib.hid (fun A c w hl => e5 ▸ hlen ▸ check_any A c (l ++ [newE l t k p d s]) w hl (by omega))
  have C3 := Lib.hid (fun A c w hl => e3 ▸ hlen ▸ open_any A c (l ++ [newE l t k p d s]) (l.length : Int) w hl (by omega))
  have C4 := Lib.hid (fun A c w hl => e4 ▸ hlen ▸ tip_any A c (l ++ [newE l t k p d s]) w hl (by omega))
  have y0 : ((newE l t k p d s).time == t) = true := by simp [newE]
  have y1' : ((newE l t k p d s).kind == k) = true := by simp [newE]
  have y2' : ((newE l t k p d s).person == p) = true := by simp [newE]
  have y3 : ((newE l t k p d s).salt == s) = true := by simp [newE]
  have y4 : ((newE l t k p d s).seal_ == bits .xor .u64 d s) = true := by simp [newE]
  have hgets : (l ++ [newE l t k p d s])[l.length]? = some (newE l t k p d s) := by simp
  have hct : (l ++ [newE l t k p d s]).take l.length = l := by simp
  clear e1 e2 e3 e4 e5 hok
  generalize newE l t k p d s = y at *
  have HL := Lib.hid hl
  have Hlen := Lib.hid hlen
  have Hct := Lib.hid hct
  have Hgets := Lib.hid hgets
  clear hl hlen hct hgets hw h60
  go_enter Try.func13, Try.ntmps13
  go_wp2_with (go_at_call 40; refine Calls.ext (alive_any _) fun z1 => ?_)
  refine calls_slice2 (C1.out A c _ (HL.out.grow (Ext.ext_self w z1))) fun A1 c1 z2 hown => ?_
  have hc1 : l.length + 1 ≤ c1 := by
    rcases hown.2 with ⟨_, h⟩ | ⟨g', cap', cur, h, _, _, hle, _⟩
    · omega
    · have : c1 = cap' := by simp at h; exact h.2
      omega
  have HLx := Lib.hid (Slc.log (l := l ++ [y]) (by rw [Hlen.out]; exact Slc.of_own hown))
  have HL0 := Lib.hid (Hct.out ▸ HLx.out.take l.length)
  have hfacts := HLx.out
  rcases hfacts with h | ⟨b, off, rfl, hb, hcell⟩
  · simp at h
  obtain ⟨f0, f1, f2, f3, f4, f5, f6⟩ := hcell l.length y Hgets.out
  have hbo := Old.mk hb
  have HE := Lib.hid (((Ext.refl w).ext z1).ext z2)
  clear hcell hb hown
  generalize ext (ext w z1) z2 = W at *
  have hne : ((l.length : Int) + 1 != (l.length : Int) + 1) = false := by simp
  go_wp2_with (first | (go_at_call 32; refine Calls.ext (sameLog_same _ A c1 c l _ (by exact HL0.out) (by exact HL.out.grow HE.out) (by omega)) fun z3 => ?_) | (go_at_call 30; refine Calls.ext (C2.out _ c1 _ (by exact HLx.out.grow (Ext.ext_self _ _))) fun z4 => ?_))
  refine Calls.ext (C3.out _ c1 _ (by exact HLx.out.grow (((Ext.refl W).ext _).ext _))) fun z5 => ?_
  go_wp2_with fail
  refine Calls.ext (C4.out _ c1 _ (by exact HLx.out.grow ((((Ext.refl W).ext _).ext _).ext _))) fun z6 => ?_
  go_wp2_with fail
  go_ret
  refine ⟨rfl, HE.out.trans ?_⟩
  repeat' (first | with_reducible exact Ext.refl _ | with_reducible refine Ext.alloc ?_ _ | with_reducible refine Ext.ext ?_ _)

set_option maxRecDepth 100000 in
set_option maxHeartbeats 4000000 in
theorem auditWritten_walk (A : Option Addr) (c : Nat) (l : List E) (t k p d s : Int) (w : World) (hl : Log w A l) (hd0 : 0 ≤ d) (hd1 : d < 18446744073709551616) (hs0 : 0 ≤ s) (hs1 : s < 18446744073709551616) :
    Calls Try.prog 13 #[.slice A l.length c, .int .i64 t, .int .i64 k, .int .i64 p, .int .u64 d, .int .u64 s] w fun e w' => e = .returned (.bool true) ∧ Ext w w' := by
  by_cases hn : l.length ≤ 60
  · by_cases hgood : okB l = true ∧ wargB l t k p = true ∧ l.length ≠ 60
    · exact written_ok A c l t k p d s w hl hn hgood.1 hgood.2.1 hgood.2.2 hd0 hd1 hs0 hs1
    · have hne : writeL l t k p d s = [] ∧ writeI l t k p ≠ 0 := by
        by_cases h1 : okB l = true <;> by_cases h2 : wargB l t k p = true <;> by_cases h3 : l.length = 60 <;> simp_all [writeL, writeI]
      obtain ⟨e, he⟩ : ∃ e, writeI l t k p = e := ⟨_, rfl⟩
      have C1 := Lib.hid (fun A c w hl => hne.1 ▸ he ▸ write_any A c l t k p d s w hl (by omega))
      have he' : (e != 0) = true := by rw [← he]; simpa using hne.2
      clear hgood hne he
      have HL := Lib.hid hl
      clear hl
      go_enter Try.func13, Try.ntmps13
      go_wp2_with (go_at_call 40; refine Calls.ext (alive_any _) fun z1 => ?_)
      refine calls_slice2 (C1.out A c _ (HL.out.grow (Ext.ext_self w z1))) fun A1 c1 z2 hown => ?_
      clear hown
      go_wp2_with fail
      go_ret
      exact ⟨rfl, ((Ext.refl w).ext _).ext _⟩
  · have hgt : (60 : Int) < (l.length : Int) := by omega
    have hgt' : decide ((60 : Int) < (l.length : Int)) = true := by simpa using hgt
    go_enter Try.func13, Try.ntmps13
    go_wp2_with (go_at_call 40; refine Calls.ext (alive_any _) fun z1 => ?_)
    go_ret
    exact ⟨rfl, (Ext.refl w).ext _⟩

set_option maxRecDepth 100000 in
theorem auditWritten_lifted (os : Os) (started : os.Started) (H : Type) (enc : TypeId × Value → H) :
    ReturnsInHanded {} Try.checked os 13 .any (Rows.auditWrittenSpec.pre6 enc Try.prog Try.f13 Rows.auditWrittenRow.domain false) (Rows.auditWrittenSpec.post enc Try.prog Try.f13 false true false false) := by
  refine returnsInHanded_of_change (C := Try.checked) own started (by kernel_rfl) Try.func13
    (ChangeSpec.witness6 (enc := enc) (C := Try.checked) false ⟨#[], #[.slice none 0 0, .int .i64 0, .int .i64 0, .int .i64 0, .int .u64 0, .int .u64 0], []⟩ 8 (by kernel_rfl) (by kernel_rfl) (by kernel_rfl) (by kernel_rfl)) ?_
  intro W base args ds gs before hval0 hW hcnd _
  have hval : ∀ (j : Nat) t v, Try.f13.params[j]? = some t → args[j]? = some v → Value.okWide Try.prog W .any base t v := hval0
  have hW' := hW
  obtain ⟨p, q, hA0, hV, rfl, hfz, hnd⟩ := hW
  have hA : DataW.TrodAll enc Try.prog W 0 (fun _ => true) true Try.f13.params.toList args.toList ds p := hA0
  rw [Try.params13] at hA hval
  obtain ⟨v0, vs0, d0, ds0, p0, q0, hargs, rfl, rfl, h0, r0⟩ := trodAll_cons hA
  obtain ⟨v1, vs1, d1, ds1, p1, q1, rfl, rfl, rfl, h1, r1⟩ := trodAll_cons r0
  obtain ⟨v2, vs2, d2, ds2, p2, q2, rfl, rfl, rfl, h2, r2⟩ := trodAll_cons r1
  obtain ⟨v3, vs3, d3, ds3, p3, q3, rfl, rfl, rfl, h3, r3⟩ := trodAll_cons r2
  obtain ⟨v4, vs4, d4, ds4, p4, q4, rfl, rfl, rfl, h4, r4⟩ := trodAll_cons r3
  obtain ⟨v5, vs5, d5, ds5, p5, q5, rfl, rfl, rfl, h5, r5⟩ := trodAll_cons r4
  obtain ⟨rfl, rfl, rfl⟩ := trodAll_nil r5
  obtain rfl : args = #[v0, v1, v2, v3, v4, v5] := by cases args; simp_all
  obtain ⟨rfl, rfl⟩ := trodVars_none hV
  have k0 := h0
  have lt0 : ∀ x ∈ p0, x.block < W.heap.size := by obtain ⟨m, hm⟩ := k0; exact DataW.trod_lt m _ _ _ hm
  obtain ⟨A0, rows0, cap0, rfl, hlc0, hcm0, hwf0, hrow0⟩ := open_rows (ks := [.i64, .i64, .i64, .u64, .u64, .u64, .u64]) Try.underlying39 Try.underlying54 (by kernel_rfl) (by kernel_rfl) (kindsOf_of (by kernel_rfl)) (by decide) (hval 0 39 v0 rfl rfl) h0
  have k1 := h1
  have lt1 : ∀ x ∈ p1, x.block < W.heap.size := by obtain ⟨m, hm⟩ := k1; exact DataW.trod_lt m _ _ _ hm
  obtain ⟨a1, rfl, _, _, w1⟩ := open_int Try.underlying3 (hval 1 3 v1 rfl rfl) h1
  have k2 := h2
  have lt2 : ∀ x ∈ p2, x.block < W.heap.size := by obtain ⟨m, hm⟩ := k2; exact DataW.trod_lt m _ _ _ hm
  obtain ⟨a2, rfl, _, _, w2⟩ := open_int Try.underlying3 (hval 2 3 v2 rfl rfl) h2
  have k3 := h3
  have lt3 : ∀ x ∈ p3, x.block < W.heap.size := by obtain ⟨m, hm⟩ := k3; exact DataW.trod_lt m _ _ _ hm
  obtain ⟨a3, rfl, _, _, w3⟩ := open_int Try.underlying3 (hval 3 3 v3 rfl rfl) h3
  have k4 := h4
  have lt4 : ∀ x ∈ p4, x.block < W.heap.size := by obtain ⟨m, hm⟩ := k4; exact DataW.trod_lt m _ _ _ hm
  obtain ⟨a4, rfl, _, _, w4⟩ := open_int Try.underlying24 (hval 4 24 v4 rfl rfl) h4
  have k5 := h5
  have lt5 : ∀ x ∈ p5, x.block < W.heap.size := by obtain ⟨m, hm⟩ := k5; exact DataW.trod_lt m _ _ _ hm
  obtain ⟨a5, rfl, _, _, w5⟩ := open_int Try.underlying24 (hval 5 24 v5 rfl rfl) h5
  clear hA0 hval0
  obtain ⟨l, hle, hlog, hfit, hcap⟩ := log_of_rows hwf0 hrow0 hlc0
  have x4 := wf_u64 w4
  have x5 := wf_u64 w5
  refine (hle ▸ auditWritten_walk A0 cap0 l a1 a2 a3 a4 a5 W hlog x4.1 x4.2 x5.1 x5.2).mono fun e W' ⟨he, bel⟩ => ?_
  subst he
  exact ⟨_, rfl, _, _, _, [], _, [], hW', trodAll_mk1 (shut_bool Try.underlying4 _), (trodAll_cons_mk (Below.trod laidOut (by kernel_rfl) (of_decide_eq_true (by kernel_rfl)) k0 bel lt0) (trodAll_cons_mk (Below.trod laidOut (by kernel_rfl) (of_decide_eq_true (by kernel_rfl)) k1 bel lt1) (trodAll_cons_mk (Below.trod laidOut (by kernel_rfl) (of_decide_eq_true (by kernel_rfl)) k2 bel lt2) (trodAll_cons_mk (Below.trod laidOut (by kernel_rfl) (of_decide_eq_true (by kernel_rfl)) k3 bel lt3) (trodAll_cons_mk (Below.trod laidOut (by kernel_rfl) (of_decide_eq_true (by kernel_rfl)) k4 bel lt4) (trodAll_cons_mk (Below.trod laidOut (by kernel_rfl) (of_decide_eq_true (by kernel_rfl)) k5 bel lt5) trodAll_mk0)))))), rfl, Below.frame bel _, fun h => by cases h⟩

theorem auditWritten_holds : Rows.AuditWrittenSaid :=
  OpenClaim.holds_of_wide 13 Try.f13 rfl rfl rfl rfl rfl rfl rfl ⟨rfl, rfl, rfl, rfl, rfl⟩ rfl rfl rfl rfl rfl (by kernel_rfl) Try.func13 (by kernel_rfl)
    (of_decide_eq_true (by kernel_rfl)) (by unfold Func.isWrapper; first | (rw [if_pos (by decide +kernel)]; kernel_rfl) | (rw [if_neg (by decide +kernel)]; exact ⟨rfl, rfl⟩))
    (fun os started H enc _ => auditWritten_lifted os started H enc)
end Go.Proofs.Ytkhmjkhgmggjcaa
