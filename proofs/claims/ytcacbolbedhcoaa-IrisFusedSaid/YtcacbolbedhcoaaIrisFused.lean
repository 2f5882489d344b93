/- Proved: for all lists of codes l, needs and places, the call of whorllaw03.IrisFused returns true and leaves its arguments as they were. No conditions (but the form's own reach). -/
import Derived.Test.YtcacbolbedhcoaaFusedP
namespace Go.Proofs.Ytcacbolbedhcoaa
open Go.Joins Go.ChangeShapes Go.WideShapes Go.RowKit Go.Deep Go.ChangeAt

theorem uw_not (s : BitVec 64) : bits BinOp.xor IntKind.u64 IntKind.u64.max (uw s) = uw (~~~s) := by
  have h : IntKind.u64.max = uw ones64 := by decide
  rw [h, uw_xor]
  have e : ones64 ^^^ s = ~~~s := by
    apply BitVec.eq_of_getLsbD_eq
    intro i hi
    rw [BitVec.getLsbD_xor, ones_get i hi, BitVec.getLsbD_not]
    simp [hi]
  rw [e]
set_option maxRecDepth 100000 in
set_option maxHeartbeats 4000000 in
theorem irisFused_out (A : Option Addr) (c : Nat) (l : List Ir) (need more at_ : Int) (w : World) (hl : Irs w A l) (hn : l.length * 16 ≤ 140737488351232) (h : ¬ ((1 ≤ l.length ∧ l.length ≤ 64) ∧ allI l = true ∧ 1 ≤ need ∧ need ≤ 64)) :
    Calls Try.prog 13 #[.slice A l.length c, .int .i64 need, .int .i64 more, .int .i64 at_] w fun e w' => e = .returned (.bool true) ∧ Ext w w' := by
  have hn9 : l.length ≤ 9000000000000 := by omega
  have HL := Lib.hid hl
  obtain ⟨e, he, hv⟩ := fuse_out h
  have C1 := Lib.hid (fun A c w hl => hv ▸ Fuse_any A c need l w hl hn9)
  clear hv h hl hn hn9
  rcases he with rfl | rfl | rfl
  · go_enter Try.func13, Try.ntmps13
    go_wp2_with (go_at_call 38; refine Calls.ext (alive_any _) fun z => ?_)
    refine Calls.ext (C1.out _ c _ (HL.out.grow ((Ext.refl w).ext z))) fun z2 => ?_
    go_wp2_with fail
    go_ret
    refine ⟨rfl, ?_⟩
    repeat' (first | with_reducible exact Ext.refl _ | with_reducible refine Ext.alloc ?_ _ | with_reducible refine Ext.ext ?_ _)
  · go_enter Try.func13, Try.ntmps13
    go_wp2_with (go_at_call 38; refine Calls.ext (alive_any _) fun z => ?_)
    refine Calls.ext (C1.out _ c _ (HL.out.grow ((Ext.refl w).ext z))) fun z2 => ?_
    go_wp2_with fail
    go_ret
    refine ⟨rfl, ?_⟩
    repeat' (first | with_reducible exact Ext.refl _ | with_reducible refine Ext.alloc ?_ _ | with_reducible refine Ext.ext ?_ _)
  · go_enter Try.func13, Try.ntmps13
    go_wp2_with (go_at_call 38; refine Calls.ext (alive_any _) fun z => ?_)
    refine Calls.ext (C1.out _ c _ (HL.out.grow ((Ext.refl w).ext z))) fun z2 => ?_
    go_wp2_with fail
    go_ret
    refine ⟨rfl, ?_⟩
    repeat' (first | with_reducible exact Ext.refl _ | with_reducible refine Ext.alloc ?_ _ | with_reducible refine Ext.ext ?_ _)

set_option maxRecDepth 100000 in
set_option maxHeartbeats 4000000 in
theorem irisFused_off (A : Option Addr) (c : Nat) (l : List Ir) (need more at_ : Int) (w : World) (hl : Irs w A l) (h1 : 1 ≤ l.length ∧ l.length ≤ 64) (h2 : allI l = true) (h3 : 1 ≤ need ∧ need ≤ 64) (h : ¬ (0 ≤ at_ ∧ at_ < l.length ∧ need ≤ more ∧ more ≤ 64)) :
    Calls Try.prog 13 #[.slice A l.length c, .int .i64 need, .int .i64 more, .int .i64 at_] w fun e w' => e = .returned (.bool true) ∧ Ext w w' := by
  have HL := Lib.hid hl
  have hv := fuse_in h1 h2 h3
  have hn9 : l.length ≤ 9000000000000 := by omega
  have C1 := Lib.hid (fun A c w hl => hv ▸ Fuse_any A c need l w hl hn9)
  clear hv hl hn9 h2
  generalize fusK (vote l) need 64 = f at *
  by_cases q1 : at_ < 0
  · have b1 : decide (at_ < 0) = true := by simp; omega
    clear h
    go_enter Try.func13, Try.ntmps13
    go_wp2_with (go_at_call 38; refine Calls.ext (alive_any _) fun z => ?_)
    refine Calls.ext (C1.out _ c _ (HL.out.grow ((Ext.refl w).ext z))) fun z2 => ?_
    go_wp2_with fail
    go_ret
    refine ⟨rfl, ?_⟩
    repeat' (first | with_reducible exact Ext.refl _ | with_reducible refine Ext.alloc ?_ _ | with_reducible refine Ext.ext ?_ _)
  have b1 : decide (at_ < 0) = false := by simp; omega
  by_cases q2 : (l.length : Int) ≤ at_
  · have b2 : decide ((l.length : Int) ≤ at_) = true := by simp; omega
    clear h
    go_enter Try.func13, Try.ntmps13
    go_wp2_with (go_at_call 38; refine Calls.ext (alive_any _) fun z => ?_)
    refine Calls.ext (C1.out _ c _ (HL.out.grow ((Ext.refl w).ext z))) fun z2 => ?_
    go_wp2_with fail
    go_ret
    refine ⟨rfl, ?_⟩
    repeat' (first | with_reducible exact Ext.refl _ | with_reducible refine Ext.alloc ?_ _ | with_reducible refine Ext.ext ?_ _)
  have b2 : decide ((l.length : Int) ≤ at_) = false := by simp; omega
  by_cases q3 : more < need
  · have b3 : decide (more < need) = true := by simp; omega
    clear h
    go_enter Try.func13, Try.ntmps13
    go_wp2_with (go_at_call 38; refine Calls.ext (alive_any _) fun z => ?_)
    refine Calls.ext (C1.out _ c _ (HL.out.grow ((Ext.refl w).ext z))) fun z2 => ?_
    go_wp2_with fail
    go_ret
    refine ⟨rfl, ?_⟩
    repeat' (first | with_reducible exact Ext.refl _ | with_reducible refine Ext.alloc ?_ _ | with_reducible refine Ext.ext ?_ _)
  have b3 : decide (more < need) = false := by simp; omega
  have b4 : decide (64 < more) = true := by simp; omega
  clear h
  go_enter Try.func13, Try.ntmps13
  go_wp2_with (go_at_call 38; refine Calls.ext (alive_any _) fun z => ?_)
  refine Calls.ext (C1.out _ c _ (HL.out.grow ((Ext.refl w).ext z))) fun z2 => ?_
  go_wp2_with fail
  go_ret
  refine ⟨rfl, ?_⟩
  repeat' (first | with_reducible exact Ext.refl _ | with_reducible refine Ext.alloc ?_ _ | with_reducible refine Ext.ext ?_ _)

set_option maxRecDepth 100000 in
set_option maxHeartbeats 8000000 in
theorem irisFused_walk (A : Option Addr) (c : Nat) (l : List Ir) (need more at_ : Int) (w : World) (hl : Irs w A l) (hn : l.length * 16 ≤ 140737488351232) (hcap : l.length ≤ c) :
    Calls Try.prog 13 #[.slice A l.length c, .int .i64 need, .int .i64 more, .int .i64 at_] w fun e w' => e = .returned (.bool true) ∧ Ext w w' := by
  by_cases h : (1 ≤ l.length ∧ l.length ≤ 64) ∧ allI l = true ∧ 1 ≤ need ∧ need ≤ 64
  rotate_left
  · exact irisFused_out A c l need more at_ w hl hn h
  obtain ⟨h1, h2, h3⟩ := h
  by_cases h : 0 ≤ at_ ∧ at_ < l.length ∧ need ≤ more ∧ more ≤ 64
  rotate_left
  · exact irisFused_off A c l need more at_ w hl h1 h2 h3 h
  obtain ⟨a1, a2, m1, m2⟩ := h
  obtain ⟨at_, rfl⟩ := Int.eq_ofNat_of_zero_le a1
  have hk : at_ < l.length := by omega
  rcases hl with hl | ⟨bb, off, rfl, hbb, hcc⟩
  · subst hl; simp at hk
  have hl : Irs w (some ⟨bb, off, none⟩) l := .inr ⟨bb, off, rfl, hbb, hcc⟩
  have hn9 : l.length ≤ 9000000000000 := by omega
  have hv1 := fuse_in h1 h2 h3
  have hv2 := fuse_in (need := more) h1 h2 (by omega)
  have hperm : (l.drop at_ ++ l.take at_).Perm l := by
    have := List.perm_append_comm (l₁ := l.drop at_) (l₂ := l.take at_)
    rwa [List.take_append_drop] at this
  have hv3 := (fuse_perm hperm need).trans hv1
  have hlen3 : (l.drop at_ ++ l.take at_).length = l.length := hperm.length_eq
  have C1 := Lib.hid (fun A c w hl => hv1 ▸ Fuse_any A c need l w hl hn9)
  have C2 := Lib.hid (fun A c w hl => hv2 ▸ Fuse_any A c more l w hl hn9)
  have C3 : Hid (∀ A c w, Irs w A (l.drop at_ ++ l.take at_) → Calls Try.prog 33 #[.slice A l.length c, .int .i64 need] w fun e w' => e = .returned (.tuple #[(fusK (vote l) need 64).val, .int .i64 0]) ∧ Ext w w') := Lib.hid (fun A c w hl => by
    have := Fuse_any A c need (l.drop at_ ++ l.take at_) w hl (by rw [hlen3]; exact hn9)
    rw [hlen3, hv3] at this
    exact this)
  obtain ⟨g1, g2⟩ := fus_more (vote l) need more h3.1 m1
  have hfo : okI (fusK (vote l) need 64) = true := okI_fus _ _
  have g3 := fus_any l need h2 h3.1
  have g4 := fun h => fus_agree l need h3.1 h
  have HL := Lib.hid hl
  have HG := Lib.hid g4
  have C4 := Lib.hid (fun w => (show chkI (fusK (vote l) need 64) = 0 by unfold chkI; rw [if_pos hfo]) ▸ check_any (fusK (vote l) need 64) w)
  clear hv1 hv2 hv3 hfo g4 hl hn9 h2 hperm
  generalize fusK (vote l) need 64 = f at *
  generalize fusK (vote l) more 64 = g at *
  have b1 : decide ((at_ : Int) < 0) = false := by simp
  have b2 : decide ((l.length : Int) ≤ (at_ : Int)) = false := by simp; omega
  have b2' : decide (l.length ≤ at_) = false := by simp; omega
  have b3 : decide (more < need) = false := by simp; omega
  have b4 : decide (64 < more) = false := by simp; omega
  have HG1 := Lib.hid g1
  have HG2 := Lib.hid g2
  have HG3 := Lib.hid g3
  have HCC := Lib.hid hcc
  have HBB := Lib.hid hbb
  have HL3 := Lib.hid hlen3
  clear g1 g2 g3 hcc hbb hlen3
  go_enter Try.func13, Try.ntmps13
  go_wp2_with (go_at_call 38; refine Calls.ext (alive_any _) fun z => ?_)
  refine Calls.ext (C1.out _ c _ (HL.out.grow ((Ext.refl w).ext z))) fun z2 => ?_
  go_wp2_with fail
  have HBf := Lib.hid (Blk.new (ext (ext w z) z2) 27 #[.int .u64 (uw f.code), .int .u64 (uw f.mask)])
  have HE := Lib.hid ((((Ext.refl w).ext z).ext z2).alloc (.cells #[.int .u64 (uw f.code), .int .u64 (uw f.mask)] 27))
  generalize (ext (ext w z) z2).alloc (.cells #[.int .u64 (uw f.code), .int .u64 (uw f.mask)] 27) = W at *
  generalize (ext (ext w z) z2).heap.size = Bf at *
  have HLW := Lib.hid (HL.out.grow HE.out)
  have HD := Lib.hid (irs_drop HLW.out at_ hk).slc
  have HT := Lib.hid (irs_take HLW.out at_).slc
  have hldr : (l.drop at_).length = l.length - at_ := by simp
  have hltk : (l.take at_).length = at_ := by simp; omega
  rw [hldr] at HD
  rw [hltk] at HT
  clear hldr hltk
  have HX := Lib.hid (flatI_one (l.drop at_))
  have HY := Lib.hid (flatI_one (l.take at_))
  have hi4 : (at_ : Int) ≤ (l.length : Int) := by omega
  have hi5 : at_ ≤ l.length := by omega
  have hca : c ≠ at_ := by omega
  have hac : at_ ≤ c := by omega
  have hnat : ((l.length : Int) - (at_ : Int)).toNat = l.length - at_ := by omega
  have hle0 : W.heap.size ≤ ((W.alloc (.cells #[] 27)).drew).heap.size := ((Ext.refl W).alloc (.cells #[] 27)).drew.size
  have HLE0 := Lib.hid hle0
  clear hle0
  go_region_law (first
    | (refine step_append_new rfl infoIr (.tmp 64) (.tmp 67) rfl W.heap.size HLE0.out _ rfl (own_empty 2 (Nat.le_refl _) ((Blk.new W 27 #[]).drew)) (some ⟨bb, off + at_ * 2, none⟩) (l.length - at_) _ (flatI (l.drop at_)) rfl (by exact HD.out.grow ((Ext.refl W).alloc _).drew) HX.out (by omega) (by omega) ?_; intro A1 c1 z3 hown1)
    | (refine step_append_ext rfl W (((Ext.refl W).alloc _).drew.ext z3) infoIr (.tmp 68) (.tmp 71) rfl (.slice A1 (l.length - at_) c1) (l.length - at_) (flatI (l.drop at_)) rfl hown1 (some ⟨bb, off, none⟩) at_ _ (flatI (l.take at_)) rfl (by exact HT.out.grow (((Ext.refl W).alloc _).drew.ext z3)) HY.out (by omega) (by omega) ?_; intro A2 c2 z4 hown2))
  have hs := Slc.of_own hown2
  have hsl : l.length - at_ + at_ = l.length := by omega
  rw [hsl, ← flatI_append] at hs
  have hs2 : Slc (ext W z4) 2 A2 (l.drop at_ ++ l.take at_).length (flatI (l.drop at_ ++ l.take at_)) := by rw [HL3.out]; exact hs
  have HO := Lib.hid hs2.irs
  have HBV := Lib.hid (HBf.out.ext z4)
  have HEV := Lib.hid (HE.out.ext z4)
  clear hs hsl hs2 hown1 hown2 HD HT HX HY hnat hca hac hi4 hi5
  generalize ext W z4 = V at *
  go_wp2_with fail
  refine Calls.ext (C3.out _ c2 _ HO.out) fun z5 => ?_
  go_wp2_with fail
  have HC1 := Lib.hid ((HBV.out.ext z5).alloc (.cells #[.int .u64 (uw f.code), .int .u64 (uw f.mask)] 27))
  have HC2 := Lib.hid (Blk.new (ext V z5) 27 #[.int .u64 (uw f.code), .int .u64 (uw f.mask)])
  have HCE := Lib.hid ((HEV.out.ext z5).alloc (.cells #[.int .u64 (uw f.code), .int .u64 (uw f.mask)] 27))
  clear HBV HEV HBf HE HO
  generalize (ext V z5).alloc (.cells #[.int .u64 (uw f.code), .int .u64 (uw f.mask)] 27) = V2 at *
  generalize (ext V z5).heap.size = B2 at *
  refine Calls.ext (C2.out _ c _ (HL.out.grow HCE.out)) fun z6 => ?_
  have HD1 := Lib.hid ((HC1.out.ext z6).alloc (.cells #[.int .u64 (uw g.code), .int .u64 (uw g.mask)] 27))
  have HD2 := Lib.hid ((HC2.out.ext z6).alloc (.cells #[.int .u64 (uw g.code), .int .u64 (uw g.mask)] 27))
  have HD3 := Lib.hid (Blk.new (ext V2 z6) 27 #[.int .u64 (uw g.code), .int .u64 (uw g.mask)])
  have HDE := Lib.hid ((HCE.out.ext z6).alloc (.cells #[.int .u64 (uw g.code), .int .u64 (uw g.mask)] 27))
  have o1 := Old.mk HC1.out.lt
  have o2 := Old.mk HC2.out.lt
  have a10 : V2.cell? ⟨Bf, 0, none⟩ = some (.int .u64 (uw f.code)) := HC1.out.cell 0
  have a11 : V2.cell? ⟨Bf, 1, none⟩ = some (.int .u64 (uw f.mask)) := HC1.out.cell 1
  have a20 : V2.cell? ⟨B2, 0, none⟩ = some (.int .u64 (uw f.code)) := HC2.out.cell 0
  have a21 : V2.cell? ⟨B2, 1, none⟩ = some (.int .u64 (uw f.mask)) := HC2.out.cell 1
  have hz1 : (g.mask &&& ~~~f.mask == 0#64) = true := by rw [HG1.out]; rfl
  have hz2 : (g.code == f.code &&& g.mask) = true := by rw [← HG2.out]; simp
  go_wp2_with (go_at_call 21; refine Calls.ext (C4.out _) fun z7 => ?_)
  have HF1 := Lib.hid (HD1.out.ext z7)
  have HFE := Lib.hid (HDE.out.ext z7)
  clear o1 o2 a10 a11 a20 a21 HD1 HD2 HD3 HDE HC1 HC2 HCE hz1 hz2
  generalize ext ((ext V2 z6).alloc (.cells #[.int .u64 (uw g.code), .int .u64 (uw g.mask)] 27)) z7 = X at *
  go_loopw [17, 18, 19, 20, 121] (fun p q r s i wr => ∃ k : Nat, k ≤ l.length ∧ i = .int .i64 k ∧ p = .int .u64 (uw (allM (l.take k))) ∧ q = .int .u64 (uw (anyM (l.take k))) ∧ r = .int .u64 (uw (allC (l.take k))) ∧ s = .int .u64 (uw (anyC (l.take k))) ∧ Ext X wr) (fun _ _ _ _ i _ => l.length - (intOf i).toNat)
  case atStart => exact ⟨0, Nat.zero_le _, rfl, rfl, rfl, rfl, rfl, Ext.refl _⟩
  case round =>
    obtain ⟨k, hk2, rfl, rfl, rfl, rfl, rfl, hE⟩ := hrel
    by_cases hlk : k < l.length
    · obtain ⟨c0, c1⟩ := HCC.out k l[k] (List.getElem?_eq_getElem hlk)
      have e0 : wr.cell? ⟨bb, off + k * 2, none⟩ = some (.int .u64 (uw l[k].code)) := ((HFE.out.trans hE).cell (p := ⟨bb, off + k * 2, none⟩) HBB.out).trans c0
      have e1 : wr.cell? ⟨bb, off + k * 2 + 1, none⟩ = some (.int .u64 (uw l[k].mask)) := ((HFE.out.trans hE).cell (p := ⟨bb, off + k * 2 + 1, none⟩) HBB.out).trans c1
      have hbo : Nonempty (Old bb wr) := Old.mk (Nat.lt_of_lt_of_le HBB.out (HFE.out.trans hE).size)
      have hT := List.take_succ_eq_append_getElem hlk
      have s1 := Lib.hid (show allM (l.take (k + 1)) = allM (l.take k) &&& l[k].mask by rw [hT, allM_snoc])
      have s2 := Lib.hid (show anyM (l.take (k + 1)) = anyM (l.take k) ||| l[k].mask by rw [hT, anyM_snoc])
      have s3 := Lib.hid (show allC (l.take (k + 1)) = allC (l.take k) &&& l[k].code by rw [hT, allC_snoc])
      have s4 := Lib.hid (show anyC (l.take (k + 1)) = anyC (l.take k) ||| l[k].code by rw [hT, anyC_snoc])
      have HEk := Lib.hid hE
      have hlk2 : (k : Int) < (l.length : Int) := by omega
      clear c0 c1 hT hE
      generalize l[k] = x at *
      generalize allM (l.take k) = p at *
      generalize anyM (l.take k) = q at *
      generalize allC (l.take k) = r at *
      generalize anyC (l.take k) = s at *
      go_wp2_with fail
      go_roundw
      case rel => exact ⟨k + 1, by omega, by go_num, by rw [s1.out], by rw [s2.out], by rw [s3.out], by rw [s4.out], HEk.out.alloc _⟩
      case measure => simp [intOf]; omega
    · obtain rfl : k = l.length := by omega
      rw [List.take_of_length_le (Nat.le_refl _)]
      have HEk := Lib.hid hE
      have f0 : wr.cell? ⟨Bf, 0, none⟩ = some (.int .u64 (uw f.code)) := (HF1.out.grow hE).cell 0
      have f1 : wr.cell? ⟨Bf, 1, none⟩ = some (.int .u64 (uw f.mask)) := (HF1.out.grow hE).cell 1
      have fo : Nonempty (Old Bf wr) := Old.mk (HF1.out.grow hE).lt
      have hz3 : (f.mask &&& ~~~(anyM l) == 0#64) = true := by rw [HG3.out]; rfl
      have HAG := Lib.hid (show agreeM l = allM l &&& (allC l ||| ~~~(anyC l)) from rfl)
      have hnot := uw_not (anyC l)
      clear hE
      generalize allM l = p at *
      generalize anyM l = q at *
      generalize allC l = r at *
      generalize anyC l = s at *
      by_cases hnl : (l.length : Int) < need
      · have hn1 : decide ((l.length : Int) < need) = true := by simp; omega
        go_wp2_with fail
        go_ret
        exact ⟨rfl, HFE.out.trans HEk.out⟩
      · have hn1 : decide ((l.length : Int) < need) = false := by simp; omega
        obtain ⟨g5, g6⟩ := HG.out (by omega)
        rw [HAG.out] at g5 g6
        have hz4 : ((p &&& (r ||| ~~~s)) &&& ~~~f.mask == 0#64) = true := by rw [g5]; rfl
        have hz5 : (f.code &&& (p &&& (r ||| ~~~s)) == r &&& (p &&& (r ||| ~~~s))) = true := by rw [g6]; simp
        go_wp2_with fail
        · go_ret
          exact ⟨rfl, HFE.out.trans HEk.out⟩
        · rename_i hbad
          have hmx : (if IntKind.u64.signed = true then (-1 : Int) else IntKind.u64.max) = IntKind.u64.max := rfl
          exact absurd (by rw [hmx, hnot, uw_or, uw_and, uw_andNot, g5]; rfl) hbad
set_option maxRecDepth 100000 in
theorem irisFused_lifted (os : Os) (started : os.Started) (H : Type) (enc : TypeId × Value → H) :
    ReturnsInHanded {} Try.checked os 13 .any (Rows.irisFusedSpec.pre6 enc Try.prog Try.f13 Rows.irisFusedRow.domain false) (Rows.irisFusedSpec.post enc Try.prog Try.f13 false true false false) := by
  refine returnsInHanded_of_change_sized (C := Try.checked) own started (by kernel_rfl) Try.func13
    (ChangeSpec.witness6 (enc := enc) (C := Try.checked) false ⟨#[], #[.slice none 0 0, .int .i64 0, .int .i64 0, .int .i64 0], []⟩ 8 (by kernel_rfl) (by kernel_rfl) (by kernel_rfl) (by kernel_rfl)) ?_
  intro W base args ds gs before hval0 hW _ hsz0 _
  have hsz : (DataW.weightsEach Try.prog (Try.f13.params.toList ++ Rows.irisFusedSpec.plain.varTypes Try.prog) (ds ++ gs)).all (· ≤ reachBytes) = true := hsz0
  clear hsz0
  have hval : ∀ (j : Nat) t v, Try.f13.params[j]? = some t → args[j]? = some v → Value.okWide Try.prog W .any base t v := hval0
  have hW' := hW
  obtain ⟨p, q, hA0, hV, rfl, hfz, hnd⟩ := hW
  have hA : DataW.TrodAll enc Try.prog W 0 (fun _ => true) true Try.f13.params.toList args.toList ds p := hA0
  rw [Try.params13] at hA hval hsz
  obtain ⟨v0, vs0, d0, ds0, p0, q0, hargs, rfl, rfl, h0, r0⟩ := trodAll_cons hA
  obtain ⟨v1, vs1, d1, ds1, p1, q1, rfl, rfl, rfl, h1, r1⟩ := trodAll_cons r0
  obtain ⟨v2, vs2, d2, ds2, p2, q2, rfl, rfl, rfl, h2, r2⟩ := trodAll_cons r1
  obtain ⟨v3, vs3, d3, ds3, p3, q3, rfl, rfl, rfl, h3, r3⟩ := trodAll_cons r2
  obtain ⟨rfl, rfl, rfl⟩ := trodAll_nil r3
  obtain rfl : args = #[v0, v1, v2, v3] := by cases args; simp_all
  obtain ⟨rfl, rfl⟩ := trodVars_none hV
  have k0 := h0
  have lt0 : ∀ x ∈ p0, x.block < W.heap.size := by obtain ⟨m, hm⟩ := k0; exact DataW.trod_lt m _ _ _ hm
  obtain ⟨A0, rows0, cap0, rfl, hlc0, hcm0, hwf0, hrow0⟩ := open_rows (ks := [.u64, .u64]) Try.underlying58 Try.underlying27 (by kernel_rfl) (by kernel_rfl) (kindsOf_of (by kernel_rfl)) (by decide) (hval 0 58 v0 rfl rfl) h0
  have k1 := h1
  have lt1 : ∀ x ∈ p1, x.block < W.heap.size := by obtain ⟨m, hm⟩ := k1; exact DataW.trod_lt m _ _ _ hm
  obtain ⟨a1, rfl, _, _, w1⟩ := open_int Try.underlying3 (hval 1 3 v1 rfl rfl) h1
  have k2 := h2
  have lt2 : ∀ x ∈ p2, x.block < W.heap.size := by obtain ⟨m, hm⟩ := k2; exact DataW.trod_lt m _ _ _ hm
  obtain ⟨a2, rfl, _, _, w2⟩ := open_int Try.underlying3 (hval 2 3 v2 rfl rfl) h2
  have k3 := h3
  have lt3 : ∀ x ∈ p3, x.block < W.heap.size := by obtain ⟨m, hm⟩ := k3; exact DataW.trod_lt m _ _ _ hm
  obtain ⟨a3, rfl, _, _, w3⟩ := open_int Try.underlying3 (hval 3 3 v3 rfl rfl) h3
  clear hA0 hval0
  obtain ⟨l, hle, hirs, hcap⟩ := irs_of hwf0 hrow0 hlc0
  have hreach : l.length * 16 ≤ 140737488351232 := by
    rcases trod_len Try.underlying58 k0 with h | ⟨es, sp, rfl, hes⟩
    · omega
    · have := sized_slice hsz (j := 0) (t := 58) (e := 27) rfl rfl Try.underlying58
      rw [bytes27] at this
      simp only [reachBytes] at this
      omega
  refine (hle ▸ irisFused_walk A0 cap0 l a1 a2 a3 W hirs hreach hcap).mono fun e W' ⟨he, bel⟩ => ?_
  subst he
  exact ⟨_, rfl, _, _, _, [], _, [], hW', trodAll_mk1 (shut_bool Try.underlying4 _), (trodAll_cons_mk (Below.trod laidOut (by kernel_rfl) (of_decide_eq_true (by kernel_rfl)) k0 bel lt0) (trodAll_cons_mk (Below.trod laidOut (by kernel_rfl) (of_decide_eq_true (by kernel_rfl)) k1 bel lt1) (trodAll_cons_mk (Below.trod laidOut (by kernel_rfl) (of_decide_eq_true (by kernel_rfl)) k2 bel lt2) (trodAll_cons_mk (Below.trod laidOut (by kernel_rfl) (of_decide_eq_true (by kernel_rfl)) k3 bel lt3) trodAll_mk0)))), rfl, Below.frame bel _, fun h => by cases h⟩

theorem irisFused_holds : Rows.IrisFusedSaid :=
  OpenClaim.holds_of_wide 13 Try.f13 rfl rfl rfl rfl rfl rfl rfl ⟨rfl, rfl, rfl, rfl, rfl⟩ rfl rfl rfl rfl rfl (by kernel_rfl) Try.func13 (by kernel_rfl)
    (of_decide_eq_true (by kernel_rfl)) (by unfold Func.isWrapper; first | (rw [if_pos (by decide +kernel)]; kernel_rfl) | (rw [if_neg (by decide +kernel)]; exact ⟨rfl, rfl⟩))
    (fun os started H enc _ => irisFused_lifted os started H enc)
end Go.Proofs.Ytcacbolbedhcoaa
