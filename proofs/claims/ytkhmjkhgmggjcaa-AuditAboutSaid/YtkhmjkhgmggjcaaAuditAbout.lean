/- Proved: for every log l and every number person, the call of whorllaw11.AuditAbout returns true and leaves its arguments as they were. No conditions. -/
import Derived.Test.YtkhmjkhgmggjcaaAlive
import Derived.Test.YtkhmjkhgmggjcaaPure
import Derived.Test.YtkhmjkhgmggjcaaLogs
namespace Go.Proofs.Ytkhmjkhgmggjcaa
open Go.Joins Go.ChangeShapes Go.WideShapes Go.RowKit Go.Deep Go.ChangeAt

theorem aboutK_prefix (l : List E) (p : Int) (i : Nat) : ∀ n, i ≤ n → n ≤ l.length → ∃ r, aboutK l p n = aboutK l p i ++ r := by
  intro n
  induction n with
  | zero => intro h _; obtain rfl : i = 0 := by omega
            exact ⟨[], by simp⟩
  | succ n ih =>
    intro h hn
    rcases Nat.eq_or_lt_of_le h with rfl | h
    · exact ⟨[], by simp⟩
    · obtain ⟨r, hr⟩ := ih (by omega) (by omega)
      exact ⟨r ++ if l[n].person = p then [(n : Int)] else [], by rw [aboutK_succ l p n (by omega), hr, List.append_assoc]⟩
theorem about_at (l : List E) (p : Int) (i : Nat) (h : i < l.length) (hp : l[i].person = p) : (aboutL l p)[(aboutK l p i).length]? = some (i : Int) := by
  obtain ⟨r, hr⟩ := aboutK_prefix l p (i + 1) l.length (by omega) (Nat.le_refl _)
  rw [aboutK_succ l p i h, if_pos hp] at hr
  rw [aboutL, hr]; simp
theorem open_at (l : List E) (i : Nat) (h : i < l.length) (hg : okB l = true) : openV l (i : Int) = if l[i].person < 0 then .tuple #[.int .u64 0, .int .i64 6] else .tuple #[.int .u64 l[i].detail, .int .i64 0] := by
  have hf : fromB 0 ((l.length : Int) - 1) (i : Int) = true := by simp [fromB]; omega
  have hx : l.getD ((i : Int).toNat) E.zero = l[i] := by simp [List.getElem?_eq_getElem h]
  simp only [openV, hg, hf, hx, if_true]

set_option maxRecDepth 100000 in
set_option maxHeartbeats 4000000 in
theorem auditAbout_walk (A : Option Addr) (c : Nat) (l : List E) (p : Int) (w : World) (hl : Log w A l) :
    Calls Try.prog 14 #[.slice A l.length c, .int .i64 p] w fun e w' => e = .returned (.bool true) ∧ Ext w w' := by
  by_cases hn : l.length ≤ 60
  · by_cases hk0 : knownI l p = 0
    · have hg : okB l = true := by
        cases h : okB l
        · simp [knownI, h] at hk0
        · rfl
      have hp0 : 0 ≤ p := by
        simp only [knownI, hg, if_true] at hk0
        cases h : fromB 0 63 p
        · simp [h] at hk0
        · simp [fromB] at h; omega
      have hR : aboutR l p = aboutL l p := by simp [aboutR, hk0]
      have C1 := Lib.hid (fun A c w hl => hR ▸ hk0 ▸ about_any A c l p w hl (by omega))
      have HOP := Lib.hid (fun i (h : i < l.length) => open_at l i h hg)
      have HAT := Lib.hid (fun i (h : i < l.length) hp => about_at l p i h hp)
      have HPR := Lib.hid (fun i (h : i ≤ l.length) => aboutK_prefix l p i l.length h (Nat.le_refl _))
      have HPE := Lib.hid (ok_person hg)
      clear hR hk0 hg
      have HL := Lib.hid hl
      go_enter Try.func14, Try.ntmps14
      go_wp2_with (go_at_call 40; refine Calls.ext (alive_any _) fun z1 => ?_)
      refine calls_slice2 (C1.out A c _ (HL.out.grow (Ext.ext_self w z1))) fun B d z2 hown => ?_
      have HS := Lib.hid (Slc.of_own hown)
      have HE := Lib.hid (((Ext.refl w).ext z1).ext z2)
      clear hown
      generalize ext (ext w z1) z2 = W at *
      have hal : (aboutL l p).length ≤ l.length := aboutK_le l p l.length
      go_wp2_with fail
      go_loopw [8, 38] (fun kk i wr => ∃ (j : Nat) (z : World), j ≤ l.length ∧ i = .int .i64 j ∧ kk = .int .i64 (aboutK l p j).length ∧ wr = ext W z) (fun _ i _ => l.length - (intOf i).toNat)
      case atStart => exact ⟨0, W, Nat.zero_le _, rfl, rfl, (ext_of (Ext.refl W)).symm⟩
      case round =>
        obtain ⟨j, z, hj, rfl, rfl, rfl⟩ := hrel
        by_cases hlt : j < l.length
        · rcases HL.out.grow HE.out with h | ⟨b, off, rfl, hb, hc⟩
          · subst h; simp at hlt
          have hbo := Old.mk hb
          obtain ⟨c0, c1, c2, c3, c4, c5, c6⟩ := hc j l[j] (List.getElem?_eq_getElem hlt)
          have hjl := aboutK_le l p j
          have Hs := Lib.hid (aboutK_succ l p j hlt)
          have hop := HOP.out j hlt
          have hat := HAT.out j hlt
          have hper := HPE.out l[j] (List.getElem_mem hlt)
          clear hc hb
          generalize l[j] = x at *
          by_cases hxp : x.person = p
          · have hx0 : ¬ x.person < 0 := by omega
            rw [if_neg hx0] at hop
            have hat' := hat hxp
            have hkl : (aboutK l p j).length < (aboutL l p).length := (List.getElem?_eq_some_iff.1 hat').1
            obtain ⟨ba, offa, rfl, hba, hca⟩ := HS.out.2 (by omega)
            have hbao := Old.mk hba
            have ca := hca (aboutK l p j).length (.int .i64 (j : Int)) (by rw [intsV, List.getElem?_map, hat']; rfl)
            have C3 := Lib.hid (fun A c w hl => hop ▸ open_any A c l (j : Int) w hl (by omega))
            have hxp' : (x.person == p) = true := by simpa using hxp
            have hx1 : (x.person == -1) = false := by simp; omega
            rw [if_pos hxp] at Hs
            clear hop hat hat' hca hba hxp
            go_wp2_with (go_at_call 37; refine Calls.ext (C3.out _ c _ (by exact HL.out.grow ((HE.out.ext _).alloc _))) fun z4 => ?_)
            go_roundw
            case rel => exact ⟨j + 1, _, by omega, by go_num, by rw [Hs.out]; simp, (ext_of (((Ext.ext_self W z).alloc _).ext z4)).symm⟩
            case measure => simp [intOf]; omega
          · have hxp' : (x.person == p) = false := by simpa using hxp
            rw [if_neg hxp, List.append_nil] at Hs
            clear hat hxp
            by_cases hx0 : x.person < 0
            · rw [if_pos hx0] at hop
              have C3 := Lib.hid (fun A c w hl => hop ▸ open_any A c l (j : Int) w hl (by omega))
              have hx1 : (x.person == -1) = true := by simp; omega
              clear hop
              go_wp2_with (go_at_call 37; refine Calls.ext (C3.out _ c _ (by exact HL.out.grow ((HE.out.ext _).alloc _))) fun z4 => ?_)
              go_roundw
              case rel => exact ⟨j + 1, _, by omega, by go_num, by rw [Hs.out], (ext_of (((Ext.ext_self W z).alloc _).ext z4)).symm⟩
              case measure => simp [intOf]; omega
            · rw [if_neg hx0] at hop
              have C3 := Lib.hid (fun A c w hl => hop ▸ open_any A c l (j : Int) w hl (by omega))
              have hx1 : (x.person == -1) = false := by simp; omega
              clear hop
              go_wp2_with (go_at_call 37; refine Calls.ext (C3.out _ c _ (by exact HL.out.grow ((HE.out.ext _).alloc _))) fun z4 => ?_)
              go_roundw
              case rel => exact ⟨j + 1, _, by omega, by go_num, by rw [Hs.out], (ext_of (((Ext.ext_self W z).alloc _).ext z4)).symm⟩
              case measure => simp [intOf]; omega
        · have hjl : j = l.length := by omega
          subst hjl
          have hle : (aboutK l p l.length).length = (aboutL l p).length := rfl
          rw [hle]
          go_wp2_with fail
          go_ret
          exact ⟨rfl, HE.out.ext z⟩
    · obtain ⟨e, he⟩ : ∃ e, knownI l p = e := ⟨_, rfl⟩
      have hR : aboutR l p = [] := by simp [aboutR, hk0]
      have C1 := Lib.hid (fun A c w hl => hR ▸ he ▸ about_any A c l p w hl (by omega))
      have he' : (e != 0) = true := by rw [← he]; simpa using hk0
      clear hR he hk0
      have HL := Lib.hid hl
      clear hl
      have hle : (l.length : Int) ≤ 60 := by omega
      have hle' : decide ((60 : Int) < (l.length : Int)) = false := by simp; omega
      go_enter Try.func14, Try.ntmps14
      go_wp2_with (go_at_call 40; refine Calls.ext (alive_any _) fun z1 => ?_)
      refine calls_slice2 (C1.out A c _ (HL.out.grow (Ext.ext_self w z1))) fun B d z2 hown => ?_
      clear hown
      go_wp2_with fail
      go_ret
      exact ⟨rfl, ((Ext.refl w).ext _).ext _⟩
  · have hgt : (60 : Int) < (l.length : Int) := by omega
    have hgt' : decide ((60 : Int) < (l.length : Int)) = true := by simpa using hgt
    go_enter Try.func14, Try.ntmps14
    go_wp2_with (go_at_call 40; refine Calls.ext (alive_any _) fun z1 => ?_)
    go_ret
    exact ⟨rfl, (Ext.refl w).ext _⟩

set_option maxRecDepth 100000 in
theorem auditAbout_lifted (os : Os) (started : os.Started) (H : Type) (enc : TypeId × Value → H) :
    ReturnsInHanded {} Try.checked os 14 .any (Rows.auditAboutSpec.pre6 enc Try.prog Try.f14 Rows.auditAboutRow.domain false) (Rows.auditAboutSpec.post enc Try.prog Try.f14 false true false false) := by
  refine returnsInHanded_of_change (C := Try.checked) own started (by kernel_rfl) Try.func14
    (ChangeSpec.witness6 (enc := enc) (C := Try.checked) false ⟨#[], #[.slice none 0 0, .int .i64 0], []⟩ 8 (by kernel_rfl) (by kernel_rfl) (by kernel_rfl) (by kernel_rfl)) ?_
  intro W base args ds gs before hval0 hW hcnd _
  have hval : ∀ (j : Nat) t v, Try.f14.params[j]? = some t → args[j]? = some v → Value.okWide Try.prog W .any base t v := hval0
  have hW' := hW
  obtain ⟨p, q, hA0, hV, rfl, hfz, hnd⟩ := hW
  have hA : DataW.TrodAll enc Try.prog W 0 (fun _ => true) true Try.f14.params.toList args.toList ds p := hA0
  rw [Try.params14] at hA hval
  obtain ⟨v0, vs0, d0, ds0, p0, q0, hargs, rfl, rfl, h0, r0⟩ := trodAll_cons hA
  obtain ⟨v1, vs1, d1, ds1, p1, q1, rfl, rfl, rfl, h1, r1⟩ := trodAll_cons r0
  obtain ⟨rfl, rfl, rfl⟩ := trodAll_nil r1
  obtain rfl : args = #[v0, v1] := by cases args; simp_all
  obtain ⟨rfl, rfl⟩ := trodVars_none hV
  have k0 := h0
  have lt0 : ∀ x ∈ p0, x.block < W.heap.size := by obtain ⟨m, hm⟩ := k0; exact DataW.trod_lt m _ _ _ hm
  obtain ⟨A0, rows0, cap0, rfl, hlc0, hcm0, hwf0, hrow0⟩ := open_rows (ks := [.i64, .i64, .i64, .u64, .u64, .u64, .u64]) Try.underlying39 Try.underlying54 (by kernel_rfl) (by kernel_rfl) (kindsOf_of (by kernel_rfl)) (by decide) (hval 0 39 v0 rfl rfl) h0
  have k1 := h1
  have lt1 : ∀ x ∈ p1, x.block < W.heap.size := by obtain ⟨m, hm⟩ := k1; exact DataW.trod_lt m _ _ _ hm
  obtain ⟨a1, rfl, _, _, w1⟩ := open_int Try.underlying3 (hval 1 3 v1 rfl rfl) h1
  clear hA0 hval0
  obtain ⟨l, hle, hlog, hfit, hcap⟩ := log_of_rows hwf0 hrow0 hlc0
  refine (hle ▸ auditAbout_walk A0 cap0 l a1 W hlog).mono fun e W' ⟨he, bel⟩ => ?_
  subst he
  exact ⟨_, rfl, _, _, _, [], _, [], hW', trodAll_mk1 (shut_bool Try.underlying4 _), (trodAll_cons_mk (Below.trod laidOut (by kernel_rfl) (of_decide_eq_true (by kernel_rfl)) k0 bel lt0) (trodAll_cons_mk (Below.trod laidOut (by kernel_rfl) (of_decide_eq_true (by kernel_rfl)) k1 bel lt1) trodAll_mk0)), rfl, Below.frame bel _, fun h => by cases h⟩

theorem auditAbout_holds : Rows.AuditAboutSaid :=
  OpenClaim.holds_of_wide 14 Try.f14 rfl rfl rfl rfl rfl rfl rfl ⟨rfl, rfl, rfl, rfl, rfl⟩ rfl rfl rfl rfl rfl (by kernel_rfl) Try.func14 (by kernel_rfl)
    (of_decide_eq_true (by kernel_rfl)) (by unfold Func.isWrapper; first | (rw [if_pos (by decide +kernel)]; kernel_rfl) | (rw [if_neg (by decide +kernel)]; exact ⟨rfl, rfl⟩))
    (fun os started H enc _ => auditAbout_lifted os started H enc)
end Go.Proofs.Ytkhmjkhgmggjcaa
