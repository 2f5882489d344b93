/- Proved: for all lists of codes l, probes and numbers of turns, the call of whorllaw03.IrisNearest returns true and leaves its arguments as they were. No conditions (but the form's own reach). -/
import Derived.Test.YtcacbolbedhcoaaAlive
import Derived.Test.YtcacbolbedhcoaaBest
import Derived.Test.YtcacbolbedhcoaaSlices2
import Derived.Test.YtcacbolbedhcoaaArgs
namespace Go.Proofs.Ytcacbolbedhcoaa
open Go.Joins Go.ChangeShapes Go.WideShapes Go.RowKit Go.Deep Go.ChangeAt

abbrev nrQ (l : List Ir) (b : Ir) (t : Int) (j : Nat) : Pt := best7 (l.getD j Ir.zero) b t
theorem near_is (l : List Ir) (b : Ir) (t : Int) (ht : 0 ≤ t ∧ t ≤ 7) : ∀ k,
    (nearI l b t k = -1 ∧ nearP l b t k = ⟨0, 0, 0⟩ ∧ ∀ j, j < k → (nrQ l b t j).den = 0) ∨
    ∃ i, i < k ∧ nearI l b t k = (i : Nat) ∧ nearP l b t k = nrQ l b t i ∧ 0 < (nrQ l b t i).den ∧
      (∀ j, j < k → 0 < (nrQ l b t j).den → (nrQ l b t i).num * (nrQ l b t j).den ≤ (nrQ l b t j).num * (nrQ l b t i).den) ∧
      (∀ j, j < i → 0 < (nrQ l b t j).den → (nrQ l b t i).num * (nrQ l b t j).den < (nrQ l b t j).num * (nrQ l b t i).den) := by
  intro k
  induction k with
  | zero => exact .inl ⟨rfl, rfl, fun j h => absurd h (Nat.not_lt_zero _)⟩
  | succ k ih =>
    have hf : 0 ≤ (nrQ l b t k).num ∧ (nrQ l b t k).num ≤ (nrQ l b t k).den ∧ _ := best_fits ht rfl
    rw [nearI, nearP]
    rcases ih with ⟨h1, h2, h3⟩ | ⟨i, hi, h1, h2, h4, hle, hlt⟩
    · rw [h1, h2]
      by_cases hd : 0 < (nrQ l b t k).den
      · have hc : lessP (best7 (l.getD k Ir.zero) b t) ⟨0, 0, 0⟩ = true := by simp only [lessP, show 0 < (best7 (l.getD k Ir.zero) b t).den from hd, decide_true, Bool.true_and]; rfl
        rw [if_pos hc, if_pos hc]
        refine .inr ⟨k, by omega, rfl, rfl, hd, fun j hj h' => ?_, fun j hj h' => by have := h3 j hj; omega⟩
        by_cases hjk : j = k
        · subst hjk; exact Int.le_refl _
        · have := h3 j (by omega); omega
      · have hc : lessP (best7 (l.getD k Ir.zero) b t) ⟨0, 0, 0⟩ = false := by simp only [lessP, show ¬ 0 < (best7 (l.getD k Ir.zero) b t).den from hd, decide_false, Bool.false_and]
        rw [hc]
        refine .inl ⟨rfl, rfl, fun j hj => ?_⟩
        by_cases hjk : j = k
        · subst hjk
          have f1 := hf.1
          have f2 := hf.2.1
          omega
        · exact h3 j (by omega)
    · rw [h1, h2]
      by_cases h : 0 < (nrQ l b t k).den ∧ (nrQ l b t k).num * (nrQ l b t i).den < (nrQ l b t i).num * (nrQ l b t k).den
      · have hc : lessP (best7 (l.getD k Ir.zero) b t) (nrQ l b t i) = true := by simp only [lessP, h.1, h.2, decide_true, Bool.or_true, Bool.and_self]
        rw [if_pos hc, if_pos hc]
        refine .inr ⟨k, by omega, rfl, rfl, h.1, fun j hj h' => ?_, fun j hj h' => lt_through h4 h' h.1 h.2 (hle j hj h')⟩
        by_cases hjk : j = k
        · subst hjk; exact Int.le_refl _
        · exact Int.le_of_lt (lt_through h4 h' h.1 h.2 (hle j (by omega) h'))
      · have hc : lessP (best7 (l.getD k Ir.zero) b t) (nrQ l b t i) = false := by
          have h5 : ((nrQ l b t i).den == 0) = false := by simp; omega
          by_cases h6 : 0 < (nrQ l b t k).den
          · have h7 : ¬ (nrQ l b t k).num * (nrQ l b t i).den < (nrQ l b t i).num * (nrQ l b t k).den := fun h8 => h ⟨h6, h8⟩
            simp only [lessP, h5, h7, decide_false, Bool.or_false, Bool.and_false]
          · simp only [lessP, h6, decide_false, Bool.false_and]
        rw [hc]
        refine .inr ⟨i, by omega, rfl, rfl, h4, fun j hj h' => ?_, hlt⟩
        by_cases hjk : j = k
        · subst hjk
          have h7 : ¬ (nrQ l b t j).num * (nrQ l b t i).den < (nrQ l b t i).num * (nrQ l b t j).den := fun h8 => h ⟨h', h8⟩
          omega
        · exact hle j (by omega) h'
theorem near_out {l : List Ir} {b : Ir} {t : Int} (h : ¬ (l.length ≤ 64 ∧ (allI l && okI b) = true ∧ 0 ≤ t ∧ t ≤ 7)) : ∃ e : Int, (e == 0) = false ∧ (e == 6) = false ∧ nearV l b t = .tuple #[.int .i64 0, .int .i64 e] := by
  unfold nearV
  by_cases h1 : 64 < l.length
  · exact ⟨4, rfl, rfl, by rw [if_pos h1]⟩
  · rw [if_neg h1]
    cases h2 : (allI l && okI b)
    · exact ⟨30, rfl, rfl, rfl⟩
    · cases h3 : inB t 0 7
      · exact ⟨2, rfl, rfl, rfl⟩
      · exfalso; apply h; simp [inB] at h3; exact ⟨by omega, h2, h3.1, h3.2⟩
theorem all_at {l : List Ir} (h : allI l = true) (j : Nat) (hj : j < l.length) : okI l[j] = true := by
  unfold allI at h
  exact List.all_eq_true.1 h _ (List.getElem_mem hj)

set_option maxRecDepth 100000 in
set_option maxHeartbeats 4000000 in
theorem irisNearest_walk (A : Option Addr) (c : Nat) (l : List Ir) (b : Ir) (t : Int) (w : World) (hl : Irs w A l) (hn : l.length * 16 ≤ 140737488351232) :
    Calls Try.prog 17 #[.slice A l.length c, b.val, .int .i64 t] w fun e w' => e = .returned (.bool true) ∧ Ext w w' := by
  have hn9 : l.length ≤ 9000000000000 := by omega
  have HL := Lib.hid hl
  by_cases h : l.length ≤ 64 ∧ (allI l && okI b) = true ∧ 0 ≤ t ∧ t ≤ 7
  rotate_left
  · obtain ⟨e, he0, he6, hv⟩ := near_out h
    have C1 := Lib.hid (fun A c w hl => hv ▸ Nearest_any A c l b t w hl hn9)
    have hn0 : (e != 0) = true := by simp [bne, he0]
    have hn6 : (e != 6) = true := by simp [bne, he6]
    clear hv h hl hn hn9
    go_enter Try.func17, Try.ntmps17
    go_wp2_with (go_at_call 38; refine Calls.ext (alive_any _) fun z => ?_)
    refine Calls.ext (C1.out _ c _ (HL.out.grow (((Ext.refl w).alloc _).ext z))) fun z2 => ?_
    go_wp2_with fail
    go_ret
    refine ⟨rfl, ?_⟩
    repeat' (first | with_reducible exact Ext.refl _ | with_reducible refine Ext.alloc ?_ _ | with_reducible refine Ext.ext ?_ _)
  obtain ⟨h64, hok, ht⟩ := h
  have hal : allI l = true := by simp only [Bool.and_eq_true] at hok; exact hok.1
  have hob : okI b = true := by simp only [Bool.and_eq_true] at hok; exact hok.2
  have hb7 : inB t 0 7 = true := by simp [inB, ht]
  have hv : nearV l b t = if nearI l b t l.length < 0 then .tuple #[.int .i64 0, .int .i64 6] else .tuple #[.int .i64 (nearI l b t l.length), .int .i64 0] := by
    unfold nearV
    rw [if_neg (by omega), if_pos hok, if_pos hb7]
  have HD : Hid (∀ j (hj : j < l.length) w, Calls Try.prog 29 #[l[j].val, b.val, .int .i64 t] w fun e w' => e = .returned (distV l[j] b t) ∧ Ext w w') := Lib.hid fun j hj w => Distance_any l[j] b t w
  have hgd : ∀ j (hj : j < l.length), l.getD j Ir.zero = l[j] := fun j hj => by rw [List.getD_eq_getElem?_getD, List.getElem?_eq_getElem hj]; rfl
  have hok2 : ∀ j (hj : j < l.length), (okI l[j] && okI b) = true := fun j hj => by rw [all_at hal j hj, hob]; rfl
  have HO := Lib.hid hok2
  have HG := Lib.hid hgd
  have HT := Lib.hid ht
  rcases near_is l b t ht l.length with ⟨h1, _, h3⟩ | ⟨i0, hi0, h1, _, h4, hle, hlt⟩
  · rw [h1, if_pos (by decide)] at hv
    have C1 := Lib.hid (fun A c w hl => hv ▸ Nearest_any A c l b t w hl hn9)
    have H3 := Lib.hid h3
    clear hv hal hob hb7 hgd hok2 hok h1 h3 hl hn hn9 ht
    go_enter Try.func17, Try.ntmps17
    go_wp2_with (go_at_call 38; refine Calls.ext (alive_any _) fun z => ?_)
    refine Calls.ext (C1.out _ c _ (HL.out.grow (((Ext.refl w).alloc _).ext z))) fun z2 => ?_
    have HB := Lib.hid (((Blk.new w 27 #[.int .u64 (uw b.code), .int .u64 (uw b.mask)]).ext z).ext z2)
    have HE := Lib.hid ((((Ext.refl w).alloc (.cells #[.int .u64 (uw b.code), .int .u64 (uw b.mask)] 27)).ext z).ext z2)
    generalize ext (ext (w.alloc (.cells #[.int .u64 (uw b.code), .int .u64 (uw b.mask)] 27)) z) z2 = W at *
    go_wp2_with fail
    go_loopw [72] (fun i wr => ∃ j : Nat, j ≤ l.length ∧ i = .int .i64 j ∧ Ext W wr) (fun i _ => l.length - (intOf i).toNat)
    case atStart => exact ⟨0, Nat.zero_le _, rfl, Ext.refl _⟩
    case round =>
      obtain ⟨j, hj, rfl, hE⟩ := hrel
      by_cases hlj : j < l.length
      · rcases HL.out with h | ⟨bb, off, rfl, hb, hc⟩
        · subst h; simp at hlj
        obtain ⟨c0, c1⟩ := hc j l[j] (List.getElem?_eq_getElem hlj)
        have e0 : wr.cell? ⟨bb, off + j * 2, none⟩ = some (.int .u64 (uw l[j].code)) := ((HE.out.trans hE).cell (p := ⟨bb, off + j * 2, none⟩) hb).trans c0
        have e1 : wr.cell? ⟨bb, off + j * 2 + 1, none⟩ = some (.int .u64 (uw l[j].mask)) := ((HE.out.trans hE).cell (p := ⟨bb, off + j * 2 + 1, none⟩) hb).trans c1
        have b0 : wr.cell? ⟨w.heap.size, 0, none⟩ = some (.int .u64 (uw b.code)) := (HB.out.grow hE).cell 0
        have b1 : wr.cell? ⟨w.heap.size, 1, none⟩ = some (.int .u64 (uw b.mask)) := (HB.out.grow hE).cell 1
        have hbo : Nonempty (Old bb wr) := Old.mk (Nat.lt_of_lt_of_le hb (HE.out.trans hE).size)
        have hwo : Nonempty (Old w.heap.size wr) := Old.mk (HB.out.grow hE).lt
        have h3 := H3.out j hlj
        unfold nrQ at h3
        rw [HG.out j hlj] at h3
        have hd := dist_none (HO.out j hlj) HT.out rfl h3
        have C2 := Lib.hid (fun w => hd ▸ HD.out j hlj w)
        have HEj := Lib.hid hE
        have hlj2 : (j : Int) < (l.length : Int) := by omega
        clear c0 c1 hc h3 hd hE hb
        generalize l[j] = a at *
        go_wp2_with fail
        refine wp_region_ext (by kernel_rfl) (by kernel_rfl) ?_
        repeat (go_big_quiet_step ((go_at_call 29; exact Calls.quiet_ext (C2.out _))))
        refine wpQuiet_nil ?_
        rintro _ ⟨z6, rfl⟩
        go_wp2_with fail
        go_roundw
        case rel => exact ⟨j + 1, by omega, by go_num, HEj.out.ext z6⟩
        case measure => simp [intOf]; omega
      · obtain rfl : j = l.length := by omega
        have HEj := Lib.hid hE
        clear hE
        go_wp2_with fail
        go_ret
        exact ⟨rfl, HE.out.trans HEj.out⟩
  · rw [h1, if_neg (by omega)] at hv
    have C1 := Lib.hid (fun A c w hl => hv ▸ Nearest_any A c l b t w hl hn9)
    obtain ⟨p, hp⟩ : ∃ p, best7 l[i0] b t = p := ⟨_, rfl⟩
    have hqp : nrQ l b t i0 = p := by unfold nrQ; rw [hgd i0 hi0]; exact hp
    rw [hqp] at h4 hle hlt
    have hd0 := dist_ok (hok2 i0 hi0) ht hp h4
    have C2 := Lib.hid (fun w => hd0 ▸ Distance_any l[i0] b t w)
    have fp := best_fits ht hp
    have HLE := Lib.hid hle
    have HLT := Lib.hid hlt
    have HQ : Hid (∀ j (hj : j < l.length), nrQ l b t j = best7 l[j] b t) := Lib.hid fun j hj => by unfold nrQ; rw [hgd j hj]
    have HL0 := Lib.hid (List.getElem?_eq_getElem hi0)
    clear hd0 hp hqp hle hlt hv hal hob hb7 hgd hok2 hok h1 hl hn hn9 ht
    have hi1 : decide ((i0 : Int) < 0) = false := by simp
    have hi2 : decide ((l.length : Int) ≤ (i0 : Int)) = false := by simp; omega
    have hi3 : decide (l.length ≤ i0) = false := by simp; omega
    have hi4 : (i0 : Int) < (l.length : Int) := by omega
    generalize p.num = n0 at *
    generalize p.den = d0 at *
    generalize p.turn = t0 at *
    generalize l[i0] = a0 at *
    go_enter Try.func17, Try.ntmps17
    go_wp2_with (go_at_call 38; refine Calls.ext (alive_any _) fun z => ?_)
    refine Calls.ext (C1.out _ c _ (HL.out.grow (((Ext.refl w).alloc _).ext z))) fun z2 => ?_
    have HB := Lib.hid (((Blk.new w 27 #[.int .u64 (uw b.code), .int .u64 (uw b.mask)]).ext z).ext z2)
    have HE := Lib.hid ((((Ext.refl w).alloc (.cells #[.int .u64 (uw b.code), .int .u64 (uw b.mask)] 27)).ext z).ext z2)
    generalize ext (ext (w.alloc (.cells #[.int .u64 (uw b.code), .int .u64 (uw b.mask)] 27)) z) z2 = W at *
    rcases HL.out with h | ⟨bb, off, rfl, hbb, hc⟩
    · subst h; simp at hi0
    obtain ⟨c0, c1⟩ := hc i0 a0 HL0.out
    have HC := Lib.hid hc
    have e0 : W.cell? ⟨bb, off + i0 * 2, none⟩ = some (.int .u64 (uw a0.code)) := (HE.out.cell (p := ⟨bb, off + i0 * 2, none⟩) hbb).trans c0
    have e1 : W.cell? ⟨bb, off + i0 * 2 + 1, none⟩ = some (.int .u64 (uw a0.mask)) := (HE.out.cell (p := ⟨bb, off + i0 * 2 + 1, none⟩) hbb).trans c1
    have b0 : W.cell? ⟨w.heap.size, 0, none⟩ = some (.int .u64 (uw b.code)) := HB.out.cell 0
    have b1 : W.cell? ⟨w.heap.size, 1, none⟩ = some (.int .u64 (uw b.mask)) := HB.out.cell 1
    have hbo : Nonempty (Old bb W) := Old.mk (Nat.lt_of_lt_of_le hbb HE.out.size)
    have hwo : Nonempty (Old w.heap.size W) := Old.mk HB.out.lt
    have HBB := Lib.hid hbb
    clear c0 c1 hc hbb
    go_wp2_with fail
    refine wp_region_ext (by kernel_rfl) (by kernel_rfl) ?_
    repeat (go_big_quiet_step ((go_at_call 29; exact Calls.quiet_ext (C2.out _))))
    refine wpQuiet_nil ?_
    rintro _ ⟨z5, rfl⟩
    have HB5 := Lib.hid (HB.out.ext z5)
    have HE5 := Lib.hid (HE.out.ext z5)
    clear e0 e1 b0 b1 hbo hwo HB HE
    generalize ext W z5 = W5 at *
    go_wp2_with fail
    go_loopw [72] (fun i wr => ∃ j : Nat, j ≤ l.length ∧ i = .int .i64 j ∧ Ext W5 wr) (fun i _ => l.length - (intOf i).toNat)
    case atStart => exact ⟨0, Nat.zero_le _, rfl, Ext.refl _⟩
    case round =>
      obtain ⟨j, hj, rfl, hE⟩ := hrel
      by_cases hlj : j < l.length
      · obtain ⟨c0, c1⟩ := HC.out j l[j] (List.getElem?_eq_getElem hlj)
        have e0 : wr.cell? ⟨bb, off + j * 2, none⟩ = some (.int .u64 (uw l[j].code)) := ((HE5.out.trans hE).cell (p := ⟨bb, off + j * 2, none⟩) HBB.out).trans c0
        have e1 : wr.cell? ⟨bb, off + j * 2 + 1, none⟩ = some (.int .u64 (uw l[j].mask)) := ((HE5.out.trans hE).cell (p := ⟨bb, off + j * 2 + 1, none⟩) HBB.out).trans c1
        have b0 : wr.cell? ⟨w.heap.size, 0, none⟩ = some (.int .u64 (uw b.code)) := (HB5.out.grow hE).cell 0
        have b1 : wr.cell? ⟨w.heap.size, 1, none⟩ = some (.int .u64 (uw b.mask)) := (HB5.out.grow hE).cell 1
        have hbo : Nonempty (Old bb wr) := Old.mk (Nat.lt_of_lt_of_le HBB.out (HE5.out.trans hE).size)
        have hwo : Nonempty (Old w.heap.size wr) := Old.mk (HB5.out.grow hE).lt
        have HEj := Lib.hid hE
        have hlj2 : (j : Int) < (l.length : Int) := by omega
        obtain ⟨q, hq⟩ : ∃ q, best7 l[j] b t = q := ⟨_, rfl⟩
        have hqq := HQ.out j hlj
        rw [hq] at hqq
        have hle := HLE.out j hlj
        have hlt := HLT.out j
        rw [hqq] at hle hlt
        have fq := best_fits HT.out hq
        clear hqq c0 c1
        by_cases hd : q.den = 0
        · have hdv := dist_none (HO.out j hlj) HT.out hq hd
          have C3 := Lib.hid (fun w => hdv ▸ HD.out j hlj w)
          clear hdv hq hle hlt hE
          generalize l[j] = a at *
          go_wp2_with fail
          refine wp_region_ext (by kernel_rfl) (by kernel_rfl) ?_
          repeat (go_big_quiet_step ((go_at_call 29; exact Calls.quiet_ext (C3.out _))))
          refine wpQuiet_nil ?_
          rintro _ ⟨z6, rfl⟩
          go_wp2_with fail
          go_roundw
          case rel => exact ⟨j + 1, by omega, by go_num, HEj.out.ext z6⟩
          case measure => simp [intOf]; omega
        · have hdv := dist_ok (HO.out j hlj) HT.out hq (by omega)
          have C3 := Lib.hid (fun w => hdv ▸ HD.out j hlj w)
          have k1 : lessB q.num q.den n0 d0 = false := by
            unfold lessB; rw [decide_eq_false_iff_not]; have := hle (by omega); omega
          have k2 : j < i0 → lessB n0 d0 q.num q.den = true := fun h => by
            unfold lessB; rw [decide_eq_true_eq]; exact hlt h (by omega)
          have D1 := Lib.hid (fun w => k1 ▸ lessW_any q.num q.den n0 d0 w (by omega) (by omega) (by omega) (by omega))
          have D2 := Lib.hid (fun w => lessW_any n0 d0 q.num q.den w (by omega) (by omega) (by omega) (by omega))
          clear hdv hq hle hlt hE k1
          generalize lessB n0 d0 q.num q.den = L at *
          generalize l[j] = a at *
          generalize q.num = n1 at *
          generalize q.den = d1 at *
          generalize q.turn = t1 at *
          by_cases hji : j < i0
          · obtain rfl := k2 hji
            have hj1 : decide ((j : Int) < (i0 : Int)) = true := by simp; omega
            have hj2 : decide (j < i0) = true := by simp; omega
            clear k2
            go_wp2_with fail
            refine wp_region_ext (by kernel_rfl) (by kernel_rfl) ?_
            repeat (go_big_quiet_step ((go_at_call 29; exact Calls.quiet_ext (C3.out _))))
            refine wpQuiet_nil ?_
            rintro _ ⟨z6, rfl⟩
            go_wp2_with fail
            refine Calls.same (D1.out _) ?_
            go_wp2_with fail
            refine Calls.same (D2.out _) ?_
            go_wp2_with fail
            go_roundw
            case rel => exact ⟨j + 1, by omega, by go_num, HEj.out.ext z6⟩
            case measure => simp [intOf]; omega
          · have hj1 : decide ((j : Int) < (i0 : Int)) = false := by simp; omega
            have hj2 : decide (j < i0) = false := by simp; omega
            clear k2
            go_wp2_with fail
            refine wp_region_ext (by kernel_rfl) (by kernel_rfl) ?_
            repeat (go_big_quiet_step ((go_at_call 29; exact Calls.quiet_ext (C3.out _))))
            refine wpQuiet_nil ?_
            rintro _ ⟨z6, rfl⟩
            go_wp2_with fail
            refine Calls.same (D1.out _) ?_
            go_wp2_with fail
            go_roundw
            case rel => exact ⟨j + 1, by omega, by go_num, HEj.out.ext z6⟩
            case measure => simp [intOf]; omega
      · obtain rfl : j = l.length := by omega
        have HEj := Lib.hid hE
        clear hE
        go_wp2_with fail
        go_ret
        exact ⟨rfl, HE5.out.trans HEj.out⟩
set_option maxRecDepth 100000 in
theorem irisNearest_lifted (os : Os) (started : os.Started) (H : Type) (enc : TypeId × Value → H) :
    ReturnsInHanded {} Try.checked os 17 .any (Rows.irisNearestSpec.pre6 enc Try.prog Try.f17 Rows.irisNearestRow.domain false) (Rows.irisNearestSpec.post enc Try.prog Try.f17 false true false false) := by
  refine returnsInHanded_of_change_sized (C := Try.checked) own started (by kernel_rfl) Try.func17
    (ChangeSpec.witness6 (enc := enc) (C := Try.checked) false ⟨#[], #[.slice none 0 0, .agg #[.int .u64 0, .int .u64 0], .int .i64 0], []⟩ 8 (by kernel_rfl) (by kernel_rfl) (by kernel_rfl) (by kernel_rfl)) ?_
  intro W base args ds gs before hval0 hW _ hsz0 _
  have hsz : (DataW.weightsEach Try.prog (Try.f17.params.toList ++ Rows.irisNearestSpec.plain.varTypes Try.prog) (ds ++ gs)).all (· ≤ reachBytes) = true := hsz0
  clear hsz0
  have hval : ∀ (j : Nat) t v, Try.f17.params[j]? = some t → args[j]? = some v → Value.okWide Try.prog W .any base t v := hval0
  have hW' := hW
  obtain ⟨p, q, hA0, hV, rfl, hfz, hnd⟩ := hW
  have hA : DataW.TrodAll enc Try.prog W 0 (fun _ => true) true Try.f17.params.toList args.toList ds p := hA0
  rw [Try.params17] at hA hval hsz
  obtain ⟨v0, vs0, d0, ds0, p0, q0, hargs, rfl, rfl, h0, r0⟩ := trodAll_cons hA
  obtain ⟨v1, vs1, d1, ds1, p1, q1, rfl, rfl, rfl, h1, r1⟩ := trodAll_cons r0
  obtain ⟨v2, vs2, d2, ds2, p2, q2, rfl, rfl, rfl, h2, r2⟩ := trodAll_cons r1
  obtain ⟨rfl, rfl, rfl⟩ := trodAll_nil r2
  obtain rfl : args = #[v0, v1, v2] := by cases args; simp_all
  obtain ⟨rfl, rfl⟩ := trodVars_none hV
  have k0 := h0
  have lt0 : ∀ x ∈ p0, x.block < W.heap.size := by obtain ⟨m, hm⟩ := k0; exact DataW.trod_lt m _ _ _ hm
  obtain ⟨A0, rows0, cap0, rfl, hlc0, hcm0, hwf0, hrow0⟩ := open_rows (ks := [.u64, .u64]) Try.underlying58 Try.underlying27 (by kernel_rfl) (by kernel_rfl) (kindsOf_of (by kernel_rfl)) (by decide) (hval 0 58 v0 rfl rfl) h0
  have k1 := h1
  have lt1 : ∀ x ∈ p1, x.block < W.heap.size := by obtain ⟨m, hm⟩ := k1; exact DataW.trod_lt m _ _ _ hm
  obtain ⟨ns1, hl1, hv1, wf1⟩ := open_nums (ks := [.u64, .u64]) Try.underlying27 (by kernel_rfl) (by kernel_rfl) (kindsOf_of (by kernel_rfl)) (hval 1 27 v1 rfl rfl) h1
  have k2 := h2
  have lt2 : ∀ x ∈ p2, x.block < W.heap.size := by obtain ⟨m, hm⟩ := k2; exact DataW.trod_lt m _ _ _ hm
  obtain ⟨a2, rfl, _, _, w2⟩ := open_int Try.underlying3 (hval 2 3 v2 rfl rfl) h2
  clear hA0 hval0
  rw [ir_of hl1 wf1] at hv1
  subst hv1
  obtain ⟨l, hle, hirs, hcap⟩ := irs_of hwf0 hrow0 hlc0
  have hreach : l.length * 16 ≤ 140737488351232 := by
    rcases trod_len Try.underlying58 k0 with h | ⟨es, sp, rfl, hes⟩
    · omega
    · have := sized_slice hsz (j := 0) (t := 58) (e := 27) rfl rfl Try.underlying58
      rw [bytes27] at this
      simp only [reachBytes] at this
      omega
  refine (hle ▸ irisNearest_walk A0 cap0 l (toIr ns1) a2 W hirs hreach).mono fun e W' ⟨he, bel⟩ => ?_
  subst he
  exact ⟨_, rfl, _, _, _, [], _, [], hW', trodAll_mk1 (shut_bool Try.underlying4 _), (trodAll_cons_mk (Below.trod laidOut (by kernel_rfl) (of_decide_eq_true (by kernel_rfl)) k0 bel lt0) (trodAll_cons_mk (Below.trod laidOut (by kernel_rfl) (of_decide_eq_true (by kernel_rfl)) k1 bel lt1) (trodAll_cons_mk (Below.trod laidOut (by kernel_rfl) (of_decide_eq_true (by kernel_rfl)) k2 bel lt2) trodAll_mk0))), rfl, Below.frame bel _, fun h => by cases h⟩

theorem irisNearest_holds : Rows.IrisNearestSaid :=
  OpenClaim.holds_of_wide 17 Try.f17 rfl rfl rfl rfl rfl rfl rfl ⟨rfl, rfl, rfl, rfl, rfl⟩ rfl rfl rfl rfl rfl (by kernel_rfl) Try.func17 (by kernel_rfl)
    (of_decide_eq_true (by kernel_rfl)) (by unfold Func.isWrapper; first | (rw [if_pos (by decide +kernel)]; kernel_rfl) | (rw [if_neg (by decide +kernel)]; exact ⟨rfl, rfl⟩))
    (fun os started H enc _ => irisNearest_lifted os started H enc)
end Go.Proofs.Ytcacbolbedhcoaa
