/- The reference: valid lists, fused codes. -/
import Derived.Test.YtcacbolbedhcoaaFuse
namespace Go.Proofs.Ytcacbolbedhcoaa
open Go.RowKit

set_option maxHeartbeats 1000000 in
theorem refAll_any (A : Option Addr) (c : Nat) (l : List Ir) (w : World) (hl : Irs w A l) (hn : l.length ≤ 9000000000000) :
    Calls Try.prog 59 #[.slice A l.length c] w fun e w' => e = .returned (.bool (allI l)) ∧ Ext w w' := by
  go_enter Try.func59, Try.ntmps59
  go_wp2_with fail
  go_loopw [3] (fun i wr => ∃ (k : Nat) (z : World), k ≤ l.length ∧ i = .int .i64 k ∧ wr = ext w z ∧ allI l = allI (l.drop k)) (fun i _ => l.length - (intOf i).toNat)
  case atStart => exact ⟨0, w, Nat.zero_le _, rfl, (ext_of (Ext.refl w)).symm, rfl⟩
  case round =>
    obtain ⟨k, z, hk, rfl, rfl, hd⟩ := hrel
    have HD := Lib.hid hd
    clear hd
    by_cases hlt : k < l.length
    · rcases hl with rfl | ⟨b, off, rfl, hb, hc⟩
      · simp at hlt
      have hbo := Old.mk hb
      obtain ⟨c0, c1⟩ := hc k l[k] (List.getElem?_eq_getElem hlt)
      have HD2 := Lib.hid (HD.out.trans (allI_drop l k hlt))
      clear hc HD
      generalize l[k] = x at *
      cases hx : okI x
      · have C := Lib.hid (fun w => hx ▸ refValid_any x w)
        rw [hx] at HD2
        clear hx
        go_wp2_with (go_at_call 39; refine Calls.ext (C.out _) fun z2 => ?_)
        go_ret
        exact ⟨ret_of (by rw [HD2.out]; rfl), ((Ext.refl w).ext z).ext z2⟩
      · have C := Lib.hid (fun w => hx ▸ refValid_any x w)
        rw [hx, Bool.true_and] at HD2
        clear hx
        go_wp2_with (go_at_call 39; refine Calls.ext (C.out _) fun z2 => ?_)
        go_roundw
        case rel => exact ⟨k + 1, _, by omega, by go_num, (ext_of (((Ext.refl w).ext z).ext z2)).symm, HD2.out⟩
        case measure => simp [intOf]; omega
    · have Hv := Lib.hid (show allI l = true by rw [HD.out, List.drop_of_length_le (by omega)]; rfl)
      go_wp2_with fail
      go_ret
      exact ⟨ret_of (by rw [Hv.out]; rfl), (Ext.refl w).ext z⟩

theorem ok_bit (a : Ir) (h : okI a = true) (i : Nat) (hi : i < 64) (hc : a.code.getLsbD i = true) : a.mask.getLsbD i = true := by
  have h0 : a.code &&& ~~~a.mask = 0#64 := by simpa [okI] using h
  have := congrArg (fun z : BitVec 64 => z.getLsbD i) h0
  simpa [hc, hi] using this
theorem ok_at (l : List Ir) (h : allI l = true) (k : Nat) (hk : k < l.length) : okI l[k] = true := by
  unfold allI at h
  rw [List.all_eq_true] at h
  exact h _ (List.getElem_mem hk)

set_option maxRecDepth 100000 in
set_option maxHeartbeats 2000000 in
theorem refFuse_ok (A : Option Addr) (c : Nat) (need : Int) (l : List Ir) (w : World) (hl : Irs w A l) (h1 : inB (l.length : Int) 1 64 = true) (h2 : allI l = true) (h3 : inB need 1 64 = true) : Calls Try.prog 34 #[.slice A l.length c, .int .i64 need] w fun e w' => e = .returned (.tuple #[(fusK (vote l) need 64).val, .int .i64 0]) ∧ Ext w w' := by
  have hlen : 1 ≤ l.length ∧ l.length ≤ 64 := by simp [inB] at h1; omega
  have hneed : 1 ≤ need ∧ need ≤ 64 := by simpa [inB] using h3
  have HL := Lib.hid hl
  have HOK := Lib.hid (ok_at l h2)
  have C := Lib.hid (fun A c w hl => h2 ▸ refAll_any A c l w hl (by omega))
  have hA1 : decide ((l.length : Int) < 1) = false := by simp; omega
  have hA2 : decide ((64 : Int) < (l.length : Int)) = false := by simp; omega
  clear h2 hl
  go_enter Try.func34, Try.ntmps34
  go_wp2_with (first | (go_at_call 46; refine Calls.same (refWithin_any _ _ _ _) ?_) | (go_at_call 59; refine Calls.ext (C.out A c _ (HL.out.grow ((Ext.refl w).alloc _))) fun z => ?_))
  have HR := Lib.hid ((Blk.new w 27 #[.int .u64 0, .int .u64 0]).ext z)
  have HE0 := Lib.hid (((Ext.refl w).alloc (.cells #[.int .u64 0, .int .u64 0] 27)).ext z)
  generalize ext (w.alloc (.cells #[.int .u64 0, .int .u64 0] 27)) z = W0 at *
  have HO := Lib.hid (Blk.new W0 27 #[.int .u64 0, .int .u64 0])
  have HE := Lib.hid ((Ext.refl W0).alloc (.cells #[.int .u64 0, .int .u64 0] 27))
  generalize W0.alloc (.cells #[.int .u64 0, .int .u64 0] 27) = W1 at *
  generalize hg : W0.heap.size = o at *
  have hoW : W0.heap.size ≤ o := by omega
  clear hg
  go_loopw [7] (fun i wr => ∃ (k : Nat), k ≤ 64 ∧ i = .int .i64 k ∧ Ext W0 wr ∧ Blk wr o 27 #[.int .u64 (uw (fusK (vote l) need k).code), .int .u64 (uw (fusK (vote l) need k).mask)]) (fun i _ => 64 - (intOf i).toNat)
  case atStart => exact ⟨0, Nat.zero_le _, rfl, HE.out, HO.out⟩
  case round =>
    obtain ⟨k, hk, rfl, hE, hB⟩ := hrel
    obtain ⟨wo, rfl⟩ : ∃ wo : World, wo = wr := ⟨_, rfl⟩
    by_cases hlk : k < 64
    · have hk2 : (k : Int) < 64 := by omega
      have hk3 : decide ((k : Int) < 64) = true := by simpa using hk2
      go_wp2_with fail
      go_loopw [8, 9, 10] (fun y n i wr => ∃ (j a b : Nat), j ≤ l.length ∧ i = .int .i64 j ∧ y = .int .i64 a ∧ n = .int .i64 b ∧ a ≤ j ∧ b ≤ j ∧ (a : Int) - (b : Int) = vote (l.take j) k ∧ wr = wo) (fun _ _ i _ => l.length - (intOf i).toNat)
      case atStart => exact ⟨0, 0, 0, Nat.zero_le _, rfl, rfl, rfl, Nat.le_refl _, Nat.le_refl _, by simp [vote], rfl⟩
      case round =>
        obtain ⟨j, a, b, hj, rfl, rfl, rfl, ha, hb, hab, rfl⟩ := hrel
        have HAB := Lib.hid hab
        clear hab
        by_cases hlj : j < l.length
        · rcases HL.out with h | ⟨bb, off, rfl, hbb, hc⟩
          · subst h; simp at hlj
          obtain ⟨c0, c1⟩ := hc j l[j] (List.getElem?_eq_getElem hlj)
          have hEw := HE0.out.trans hE
          have e0 : wr.cell? ⟨bb, off + j * 2, none⟩ = some (.int .u64 (uw l[j].code)) := (hEw.cell (p := ⟨bb, off + j * 2, none⟩) hbb).trans c0
          have e1 : wr.cell? ⟨bb, off + j * 2 + 1, none⟩ = some (.int .u64 (uw l[j].mask)) := (hEw.cell (p := ⟨bb, off + j * 2 + 1, none⟩) hbb).trans c1
          have HT := Lib.hid (List.take_succ_eq_append_getElem hlj)
          have hob := ok_bit l[j] (HOK.out j hlj) k hlk
          have C1 := Lib.hid (bit_any l[j].code k)
          have C2 := Lib.hid (bit_any l[j].mask k)
          have HD := Lib.hid (show dlt k l[j] = 2 * b2i (l[j].code.getLsbD k) - b2i (l[j].mask.getLsbD k) from rfl)
          have HVS := Lib.hid (vote_snoc (l.take j) l[j] k)
          clear hc c0 c1 hbb hEw
          generalize l[j] = x at *
          generalize x.code.getLsbD k = b1 at *
          generalize x.mask.getLsbD k = b2 at *
          cases b1
          · cases b2
            · clear hob
              go_wp2_with fail
              refine Calls.same (C1.out _) ?_
              go_wp2_with fail
              refine Calls.same (C2.out _) ?_
              go_wp2_with fail
              go_roundw
              case rel => exact ⟨j + 1, a, b, by omega, by go_num, rfl, rfl, by omega, by omega, by rw [HT.out, HVS.out, ← HAB.out, HD.out]; simp [b2i], trivial⟩
              case measure => simp [intOf]; omega
            · clear hob
              go_wp2_with fail
              refine Calls.same (C1.out _) ?_
              go_wp2_with fail
              refine Calls.same (C2.out _) ?_
              go_wp2_with fail
              go_roundw
              case rel => exact ⟨j + 1, a, b + 1, by omega, by go_num, rfl, by go_num, by omega, by omega, by rw [HT.out, HVS.out, ← HAB.out, HD.out]; simp [b2i]; omega, trivial⟩
              case measure => simp [intOf]; omega
          · obtain rfl : b2 = true := hob rfl
            clear hob
            go_wp2_with fail
            refine Calls.same (C1.out _) ?_
            go_wp2_with fail
            go_roundw
            case rel => exact ⟨j + 1, a + 1, b, by omega, by go_num, by go_num, rfl, by omega, by omega, by rw [HT.out, HVS.out, ← HAB.out, HD.out]; simp [b2i]; omega, trivial⟩
            case measure => simp [intOf]; omega
        · have hjl : j = l.length := by omega
          have hab := HAB.out
          rw [hjl, List.take_of_length_le (Nat.le_refl _)] at hab
          have e0 : wr.cell? ⟨o, 0, none⟩ = some (.int .u64 (uw (fusK (vote l) need k).code)) := hB.cell 0
          have e1 : wr.cell? ⟨o, 1, none⟩ = some (.int .u64 (uw (fusK (vote l) need k).mask)) := hB.cell 1
          have ef := hB.frozen
          have hst : fusK (vote l) need (k + 1) = ⟨if need ≤ vote l k then (fusK (vote l) need k).code ||| (1#64 <<< k) else (fusK (vote l) need k).code, if need ≤ vote l k ∨ need ≤ -(vote l k) then (fusK (vote l) need k).mask ||| (1#64 <<< k) else (fusK (vote l) need k).mask⟩ := rfl
          rw [← hab] at hst
          have hp := shl_one k
          have HBk := Lib.hid hB
          have HEk := Lib.hid hE
          clear hE hB hab HAB
          by_cases c1 : need ≤ (a : Int) - (b : Int)
          · have Hst := Lib.hid (show fusK (vote l) need (k + 1) = ⟨(fusK (vote l) need k).code ||| (1#64 <<< k), (fusK (vote l) need k).mask ||| (1#64 <<< k)⟩ by rw [hst]; simp [c1])
            clear hst
            have c1' : decide (need ≤ (a : Int) - (b : Int)) = true := by simpa using c1
            generalize (fusK (vote l) need k).code = cd at *
            generalize (fusK (vote l) need k).mask = mk at *
            go_wp2_with fail
            refine wp_region_tail 6 (by kernel_rfl) (by kernel_rfl) ?_
            simp only [List.take_succ_cons, List.take_zero, List.drop_succ_cons, List.drop_zero]
            repeat still_step
            refine wpStill_nil ?_
            go_wp2_with fail
            refine wp_region_tail 6 (by kernel_rfl) (by kernel_rfl) ?_
            simp only [List.take_succ_cons, List.take_zero, List.drop_succ_cons, List.drop_zero]
            repeat still_step
            refine wpStill_nil ?_
            go_wp2_with fail
            go_roundw
            case rel =>
              refine ⟨k + 1, by omega, by go_num, ?_, ?_⟩
              · exact (((HEk.out.setCell (p := ⟨o, 1, none⟩) hoW _).drew).setCell (p := ⟨o, 0, none⟩) hoW _).drew
              · rw [Hst.out]; exact (((HBk.out.set_ 1 _).drew).set_ 0 _).drew
            case measure => simp [intOf]; omega
          · have c1' : decide (need ≤ (a : Int) - (b : Int)) = false := by simpa using c1
            have hneg : -((a : Int) - (b : Int)) = (b : Int) - (a : Int) := by omega
            by_cases c2 : need ≤ (b : Int) - (a : Int)
            · have Hst := Lib.hid (show fusK (vote l) need (k + 1) = ⟨(fusK (vote l) need k).code, (fusK (vote l) need k).mask ||| (1#64 <<< k)⟩ by rw [hst, hneg]; simp [c1, c2])
              have c2' : decide (need ≤ (b : Int) - (a : Int)) = true := by simpa using c2
              clear hst hneg
              generalize (fusK (vote l) need k).code = cd at *
              generalize (fusK (vote l) need k).mask = mk at *
              go_wp2_with fail
              refine wp_region_tail 6 (by kernel_rfl) (by kernel_rfl) ?_
              simp only [List.take_succ_cons, List.take_zero, List.drop_succ_cons, List.drop_zero]
              repeat still_step
              refine wpStill_nil ?_
              go_wp2_with fail
              go_roundw
              case rel =>
                refine ⟨k + 1, by omega, by go_num, ?_, ?_⟩
                · exact (HEk.out.setCell (p := ⟨o, 1, none⟩) hoW _).drew
                · rw [Hst.out]; exact (HBk.out.set_ 1 _).drew
              case measure => simp [intOf]; omega
            · have Hst := Lib.hid (show fusK (vote l) need (k + 1) = ⟨(fusK (vote l) need k).code, (fusK (vote l) need k).mask⟩ by rw [hst, hneg]; simp [c1, c2])
              have c2' : decide (need ≤ (b : Int) - (a : Int)) = false := by simpa using c2
              clear hst hneg
              generalize (fusK (vote l) need k).code = cd at *
              generalize (fusK (vote l) need k).mask = mk at *
              go_wp2_with fail
              go_roundw
              case rel => exact ⟨k + 1, by omega, by go_num, HEk.out, by rw [Hst.out]; exact HBk.out⟩
              case measure => simp [intOf]; omega
    · obtain rfl : k = 64 := by omega
      obtain ⟨f, hf⟩ : ∃ f, fusK (vote l) need 64 = f := ⟨_, rfl⟩
      have HF := Lib.hid hf
      rw [hf] at hB
      have e0 : wo.cell? ⟨o, 0, none⟩ = some (.int .u64 (uw f.code)) := hB.cell 0
      have e1 : wo.cell? ⟨o, 1, none⟩ = some (.int .u64 (uw f.mask)) := hB.cell 1
      have hR2 := HR.out.grow hE
      have r0 : wo.cell? ⟨w.heap.size, 0, none⟩ = some (.int .u64 0) := hR2.cell 0
      have r1 : wo.cell? ⟨w.heap.size, 1, none⟩ = some (.int .u64 0) := hR2.cell 1
      have rf := hR2.frozen
      have HEk := Lib.hid (HE0.out.trans hE)
      have HR2 := Lib.hid hR2
      clear hB hE hf hR2
      go_wp2_with fail
      have HS := Lib.hid ((HR2.out.set_ 0 (.int .u64 (uw f.code))).set_ 1 (.int .u64 (uw f.mask)))
      have HEf := Lib.hid ((HEk.out.setCell (p := ⟨w.heap.size, 0, none⟩) (Nat.le_refl _) (.int .u64 (uw f.code))).setCell (p := ⟨w.heap.size, 1, none⟩) (Nat.le_refl _) (.int .u64 (uw f.mask)))
      generalize (wo.setCell ⟨w.heap.size, 0, none⟩ (.int .u64 (uw f.code))).setCell ⟨w.heap.size, 1, none⟩ (.int .u64 (uw f.mask)) = Wf at *
      have q0 : Wf.cell? ⟨w.heap.size, 0, none⟩ = some (.int .u64 (uw f.code)) := HS.out.cell 0
      have q1 : Wf.cell? ⟨w.heap.size, 1, none⟩ = some (.int .u64 (uw f.mask)) := HS.out.cell 1
      exact bodyPost_ret (v := .tuple #[f.val, .int .i64 0]) (by simp [results, Try.results34, go_sem, q0, q1]) rfl ⟨ret_of (by rw [HF.out]), HEf.out⟩
set_option maxRecDepth 100000 in
set_option maxHeartbeats 1000000 in
theorem refFuse_any (A : Option Addr) (c : Nat) (need : Int) (l : List Ir) (w : World) (hl : Irs w A l) (hn : l.length ≤ 9000000000000) : Calls Try.prog 34 #[.slice A l.length c, .int .i64 need] w fun e w' => e = .returned (fuseV l need) ∧ Ext w w' := by
  cases h1 : inB (l.length : Int) 1 64
  · have Hv := Lib.hid (show fuseV l need = .tuple #[Ir.zero.val, .int .i64 4] by simp [fuseV, h1])
    have hcase : decide ((l.length : Int) < 1) = true ∨ decide ((l.length : Int) < 1) = false ∧ decide ((64 : Int) < (l.length : Int)) = true := by
      simp [inB] at h1 ⊢; omega
    clear hl h1
    rcases hcase with a1 | ⟨a1, a2⟩
    all_goals
      go_enter Try.func34, Try.ntmps34
      go_wp2_with fail
      refine bodyPost_ret (v := .tuple #[Ir.zero.val, .int .i64 4]) (by simp [results, Try.results34, go_sem, Ir.zero, uw_zero]) rfl ⟨ret_of Hv.out.symm, ?_⟩
      repeat' (first | with_reducible exact Ext.refl _ | with_reducible refine Ext.drew ?_ | with_reducible refine Ext.alloc ?_ _ | with_reducible refine Ext.ext ?_ _ | with_reducible refine Ext.setCell ?_ (by simp) _)
  · have hlen : 1 ≤ l.length ∧ l.length ≤ 64 := by simp [inB] at h1; omega
    have hA1 : decide ((l.length : Int) < 1) = false := by simp; omega
    have hA2 : decide ((64 : Int) < (l.length : Int)) = false := by simp; omega
    cases h2 : allI l
    · have Hv := Lib.hid (show fuseV l need = .tuple #[Ir.zero.val, .int .i64 30] by simp [fuseV, h1, h2])
      have HL := Lib.hid hl
      have C := Lib.hid (fun A c w hl => h2 ▸ refAll_any A c l w hl hn)
      clear h2 hl
      go_enter Try.func34, Try.ntmps34
      go_wp2_with (go_at_call 59; refine Calls.ext (C.out A c _ (HL.out.grow ((Ext.refl w).alloc _))) fun z => ?_)
      refine bodyPost_ret (v := .tuple #[Ir.zero.val, .int .i64 30]) (by simp [results, Try.results34, go_sem, Ir.zero, uw_zero]) rfl ⟨ret_of Hv.out.symm, ?_⟩
      repeat' (first | with_reducible exact Ext.refl _ | with_reducible refine Ext.drew ?_ | with_reducible refine Ext.alloc ?_ _ | with_reducible refine Ext.ext ?_ _ | with_reducible refine Ext.setCell ?_ (by simp) _)
    · cases h3 : inB need 1 64
      · have Hv := Lib.hid (show fuseV l need = .tuple #[Ir.zero.val, .int .i64 2] by simp [fuseV, h1, h2, h3])
        have HL := Lib.hid hl
        have C := Lib.hid (fun A c w hl => h2 ▸ refAll_any A c l w hl hn)
        clear h2 hl
        go_enter Try.func34, Try.ntmps34
        go_wp2_with (first | (go_at_call 46; refine Calls.same (refWithin_any _ _ _ _) ?_) | (go_at_call 59; refine Calls.ext (C.out A c _ (HL.out.grow ((Ext.refl w).alloc _))) fun z => ?_))
        refine bodyPost_ret (v := .tuple #[Ir.zero.val, .int .i64 2]) (by simp [results, Try.results34, go_sem, Ir.zero, uw_zero]) rfl ⟨ret_of Hv.out.symm, ?_⟩
        repeat' (first | with_reducible exact Ext.refl _ | with_reducible refine Ext.drew ?_ | with_reducible refine Ext.alloc ?_ _ | with_reducible refine Ext.ext ?_ _ | with_reducible refine Ext.setCell ?_ (by simp) _)
      · have hv : fuseV l need = .tuple #[(fusK (vote l) need 64).val, .int .i64 0] := by simp only [fuseV, h1, h2, h3, if_true]
        rw [hv]
        exact refFuse_ok A c need l w hl h1 h2 h3
end Go.Proofs.Ytcacbolbedhcoaa
