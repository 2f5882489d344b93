/- Bends of a class. -/
import Derived.Test.YtchplmenkdghcaaPrint
import Derived.Test.YtchplmenkdghcaaRel
namespace Go.Proofs.Ytchplmenkdghcaa
open Go.RowKit
def stepB (b : Nat → Int) : Bool := (List.range 3).all fun i => inB (b (i + 1) - b i) (-1) 1
def isBend (e : Int) (b : Nat → Int) : Bool := allB (-e) e 4 b && stepB b
theorem step_yes {b : Nat → Int} (h : ∀ k, k < 3 → inB (b (k + 1) - b k) (-1) 1 = true) : stepB b = true := by
  unfold stepB; rw [List.all_eq_true]; intro k hk; exact h k (List.mem_range.1 hk)
/-- the difference goes round only where the bend is refused anyhow -/
theorem wrap_no {e : Int} {b : Nat → Int} (he : 0 ≤ e ∧ e ≤ 1) (k : Nat) (hk : k < 3) (h : inB (wrap64 (b (k + 1) - b k)) (-1) 1 = false) : isBend e b = false := by
  cases hb : isBend e b
  · rfl
  · exfalso
    unfold isBend at hb
    rw [Bool.and_eq_true] at hb
    have h1 := inB_iff.1 (List.all_eq_true.1 hb.1 k (List.mem_range.2 (by omega)))
    have h2 := inB_iff.1 (List.all_eq_true.1 hb.1 (k + 1) (List.mem_range.2 (by omega)))
    have h3 := List.all_eq_true.1 hb.2 k (List.mem_range.2 hk)
    rw [IntWalk.wrap64_in _ (by omega)] at h
    rw [h] at h3; cases h3
theorem bend_fin {e : Int} {b : Nat → Int} (he : 0 ≤ e ∧ e ≤ 1) (h : ∀ j, j < 3 → inB (wrap64 (b (j + 1) - b j)) (-1) 1 = true) : isBend e b = allB (-e) e 4 b := by
  unfold isBend
  cases ha : allB (-e) e 4 b
  · rfl
  · rw [Bool.true_and]
    refine step_yes fun k hk => ?_
    have h1 := inB_iff.1 (List.all_eq_true.1 ha k (List.mem_range.2 (by omega)))
    have h2 := inB_iff.1 (List.all_eq_true.1 ha (k + 1) (List.mem_range.2 (by omega)))
    have h3 := h k hk
    rw [IntWalk.wrap64_in _ (by omega)] at h3
    exact h3
theorem bend_at (w : World) (g : Nat) (b : Nat → Int) (h : Blk w g 53 #[.int .i64 (b 0), .int .i64 (b 1), .int .i64 (b 2), .int .i64 (b 3)]) (k : Nat) (hk : k < 4) : w.cell? ⟨g, k, none⟩ = some (.int .i64 (b k)) := by
  rw [h.cell]
  match k, hk with
  | 0, _ => rfl
  | 1, _ => rfl
  | 2, _ => rfl
  | 3, _ => rfl
set_option maxRecDepth 100000 in
set_option maxHeartbeats 1000000 in
theorem bend_any (c : Cl) (b : Nat → Int) (h : 0 ≤ c.elastic ∧ c.elastic ≤ 1) (w : World) : Calls Try.prog 26 #[c.val, bendV b] w fun e w' => e = .returned (.bool (isBend c.elastic b)) ∧ Ext w w' := by
  go_enter Try.func26, Try.ntmps26
  go_wp2_with fail
  have HC := Lib.hid ((Blk.new w 26 #[.int .i64 c.turns, .int .i64 c.shift, .int .i64 c.elastic, .int .i64 c.reach, .int .i64 c.spread]).alloc (.cells #[.int .i64 (b 0), .int .i64 (b 1), .int .i64 (b 2), .int .i64 (b 3)] 53))
  have HB := Lib.hid (Blk.new' (w.alloc (.cells #[.int .i64 c.turns, .int .i64 c.shift, .int .i64 c.elastic, .int .i64 c.reach, .int .i64 c.spread] 26)) 53 #[.int .i64 (b 0), .int .i64 (b 1), .int .i64 (b 2), .int .i64 (b 3)] (w.heap.size + 1) (by simp))
  have HE := Lib.hid (((Ext.refl w).alloc (.cells #[.int .i64 c.turns, .int .i64 c.shift, .int .i64 c.elastic, .int .i64 c.reach, .int .i64 c.spread] 26)).alloc (.cells #[.int .i64 (b 0), .int .i64 (b 1), .int .i64 (b 2), .int .i64 (b 3)] 53))
  generalize (w.alloc (.cells #[.int .i64 c.turns, .int .i64 c.shift, .int .i64 c.elastic, .int .i64 c.reach, .int .i64 c.spread] 26)).alloc (.cells #[.int .i64 (b 0), .int .i64 (b 1), .int .i64 (b 2), .int .i64 (b 3)] 53) = W at *
  go_loopw [5] (fun i wr => ∃ (k : Nat) (z : World), k ≤ 3 ∧ i = .int .i64 ((k : Int) + 1) ∧ wr = ext W z ∧ ∀ j, j < k → inB (wrap64 (b (j + 1) - b j)) (-1) 1 = true) (fun i _ => 4 - (intOf i).toNat)
  case atStart => exact ⟨0, W, by omega, rfl, (ext_of (Ext.refl W)).symm, fun j h => absurd h (by omega)⟩
  case round =>
    obtain ⟨k, z, hk, rfl, rfl, hp⟩ := hrel
    have HP := Lib.hid hp
    clear hp
    by_cases hk3 : k < 3
    · have hk4 : (k : Int) + 1 < 4 := by omega
      go_wp2_with fail
      have HB2 : w.heap.size + 1 < (ext W z).heap.size := (HB.out.ext z).lt
      have cb1 : (ext W z).cell? ⟨w.heap.size + 1, k + 1, none⟩ = some (.int .i64 (b (k + 1))) := bend_at _ _ _ (HB.out.ext z) _ (by omega)
      have cb0 : (ext W z).cell? ⟨w.heap.size + 1, k, none⟩ = some (.int .i64 (b k)) := bend_at _ _ _ (HB.out.ext z) _ (by omega)
      have hk5 : ((k : Int) + 1).toNat = k + 1 := by omega
      have hk6 : (k : Int) < 4 := by omega
      have hwk : IntKind.i64.wrap (k : Int) = k := IntWalk.i64_in _ (by omega)
      have hk7 : ¬((k : Int) + 1 < 0) := by omega
      cases hr : inB (wrap64 (b (k + 1) - b k)) (-1) 1
      · have HF := Lib.hid (wrap_no h k hk3 hr)
        generalize b (k + 1) = b1 at *
        generalize b k = b0 at *
        have hO := fun (g q : Nat) (w : World) h0 => one_any (-1) 1 (wrap64 (b1 - b0)) g q w h0
        simp only [hr] at hO
        have HO := Lib.hid hO
        clear hO hr
        refine wp_region_rel0 (Vof [isV (.int .i64 ((k : Int) + 1)), isV (.pointer (some ⟨w.heap.size + 1, k + 1, none⟩)), isV (.int .i64 b1), isV (.int .i64 ((k : Int) + 1)), isV (.int .i64 k), isV (.pointer (some ⟨w.heap.size + 1, k, none⟩)), isV (.int .i64 b0), isV (.int .i64 (wrap64 (b1 - b0))), isL 3 1 [.int .i64 (wrap64 (b1 - b0))], isV (.bool false), isV (.bool (!false))]) (by kernel_rfl) (by kernel_rfl) (Vof_mono (by simp [isV_mono, isL_mono])) ?op ?fin
        case op =>
          intro i o ho a V2 _ _ hfrm hE0 hdep
          have hE : Ext (ext W z) V2 := Ext.trans ((Ext.refl (ext W z)).drew) hE0
          match i, ho with
          | 0, ho =>
            injection ho with ho
            subst ho
            have e1 : a.tmps[5]?.getD undef = .int .i64 ((k : Int) + 1) := slot_of (hfrm 5 (frm_of 5 (by kernel_rfl)))
            exact rel_val (by simp [execOp, go_sem, e1]) rfl
          | 1, ho =>
            injection ho with ho
            subst ho
            have e1 : a.tmps[3]?.getD undef = .pointer (some ⟨w.heap.size + 1, 0, none⟩) := slot_of (hfrm 3 (frm_of 3 (by kernel_rfl)))
            have e2 : a.tmps[10]?.getD undef = .int .i64 ((k : Int) + 1) := slot_of (hdep ⟨0, .data⟩ (by simp) (by kernel_rfl) 10 (by kernel_rfl))
            exact rel_val (by simp [execOp, go_sem, e1, e2, hk4, hk5, hk7]) rfl
          | 2, ho =>
            injection ho with ho
            subst ho
            have e1 : a.tmps[11]?.getD undef = .pointer (some ⟨w.heap.size + 1, k + 1, none⟩) := slot_of (hdep ⟨1, .data⟩ (by simp) (by kernel_rfl) 11 (by kernel_rfl))
            have c1 : V2.cell? ⟨w.heap.size + 1, k + 1, none⟩ = some (.int .i64 b1) := (hE.cell HB2).trans cb1
            exact rel_val (by simp [execOp, go_sem, e1, c1]) rfl
          | 3, ho =>
            injection ho with ho
            subst ho
            have e1 : a.tmps[5]?.getD undef = .int .i64 ((k : Int) + 1) := slot_of (hfrm 5 (frm_of 5 (by kernel_rfl)))
            exact rel_val (by simp [execOp, go_sem, e1]) rfl
          | 4, ho =>
            injection ho with ho
            subst ho
            have e1 : a.tmps[13]?.getD undef = .int .i64 ((k : Int) + 1) := slot_of (hdep ⟨3, .data⟩ (by simp) (by kernel_rfl) 13 (by kernel_rfl))
            exact rel_val (by simp [execOp, go_sem, e1, hwk]) rfl
          | 5, ho =>
            injection ho with ho
            subst ho
            have e1 : a.tmps[3]?.getD undef = .pointer (some ⟨w.heap.size + 1, 0, none⟩) := slot_of (hfrm 3 (frm_of 3 (by kernel_rfl)))
            have e2 : a.tmps[14]?.getD undef = .int .i64 k := slot_of (hdep ⟨4, .data⟩ (by simp) (by kernel_rfl) 14 (by kernel_rfl))
            exact rel_val (by simp [execOp, go_sem, e1, e2, hk6]) rfl
          | 6, ho =>
            injection ho with ho
            subst ho
            have e1 : a.tmps[15]?.getD undef = .pointer (some ⟨w.heap.size + 1, k, none⟩) := slot_of (hdep ⟨5, .data⟩ (by simp) (by kernel_rfl) 15 (by kernel_rfl))
            have c1 : V2.cell? ⟨w.heap.size + 1, k, none⟩ = some (.int .i64 b0) := (hE.cell HB2).trans cb0
            exact rel_val (by simp [execOp, go_sem, e1, c1]) rfl
          | 7, ho =>
            injection ho with ho
            subst ho
            have e1 : a.tmps[12]?.getD undef = .int .i64 b1 := slot_of (hdep ⟨2, .data⟩ (by simp) (by kernel_rfl) 12 (by kernel_rfl))
            have e2 : a.tmps[16]?.getD undef = .int .i64 b0 := slot_of (hdep ⟨6, .data⟩ (by simp) (by kernel_rfl) 16 (by kernel_rfl))
            exact rel_val (by simp [execOp, go_sem, e1, e2, IntWalk.i64_left]) rfl
          | 8, ho =>
            injection ho with ho
            subst ho
            have e1 : a.tmps[17]?.getD undef = .int .i64 (wrap64 (b1 - b0)) := slot_of (hdep ⟨7, .data⟩ (by simp) (by kernel_rfl) 17 (by kernel_rfl))
            simp [Oper.wp, execOp, go_sem, e1]
            exact ⟨_, rfl, ⟨_, rfl, Blk.new _ _ _⟩, (Ext.refl _).alloc _⟩
          | 9, ho =>
            injection ho with ho
            subst ho
            obtain ⟨q1, e1', hL1⟩ := hdep ⟨8, .data⟩ (by simp) (by kernel_rfl) 18 (by kernel_rfl)
            have e1 := slot_of e1'
            exact rel_call 18 [.const (.int .i64 (-1)), .const (.int .i64 1), .tmp 18] #[3, 3, 72] rfl (by kernel_rfl) [.int .i64 (-1), .int .i64 1, .slice (some ⟨q1, 0, none⟩) 1 1] (by simp [Act.eval, e1]) (ret_val (Calls.ext_of_same (HO.out _ _ _ (hL1.cell 0))))
          | 10, ho =>
            injection ho with ho
            subst ho
            have e1 : a.tmps[19]?.getD undef = .bool false := slot_of (hdep ⟨9, .data⟩ (by simp) (by kernel_rfl) 19 (by kernel_rfl))
            exact rel_val (by simp [execOp, go_sem, e1]) rfl
          | k + 11, ho => exact absurd (List.getElem?_eq_some_iff.1 ho).1 (by simp)
        case fin =>
          intro vs V hE0 hvs
          have hE : Ext (ext W z) V := Ext.trans ((Ext.refl (ext W z)).drew) hE0
          have s10 : vs 10 = .bool (!false) := hvs 10 (by simp)
          obtain ⟨z2, rfl⟩ : ∃ z2, V = ext (ext W z) z2 := ⟨V, (ext_of hE).symm⟩
          simp [putAll, Act.put, s10]
          clear hE hE0 hvs s10
          go_wp2_with fail
          go_ret
          exact ⟨ret_of (by rw [HF.out]; rfl), (HE.out.ext z).ext z2⟩
      · have HS := Lib.hid (show ∀ j, j < k + 1 → inB (wrap64 (b (j + 1) - b j)) (-1) 1 = true from fun j hj => by
          rcases Nat.lt_or_ge j k with h | h
          · exact HP.out j h
          · obtain rfl : j = k := by omega
            exact hr)
        generalize b (k + 1) = b1 at *
        generalize b k = b0 at *
        have hO := fun (g q : Nat) (w : World) h0 => one_any (-1) 1 (wrap64 (b1 - b0)) g q w h0
        simp only [hr] at hO
        have HO := Lib.hid hO
        clear hO hr
        refine wp_region_rel0 (Vof [isV (.int .i64 ((k : Int) + 1)), isV (.pointer (some ⟨w.heap.size + 1, k + 1, none⟩)), isV (.int .i64 b1), isV (.int .i64 ((k : Int) + 1)), isV (.int .i64 k), isV (.pointer (some ⟨w.heap.size + 1, k, none⟩)), isV (.int .i64 b0), isV (.int .i64 (wrap64 (b1 - b0))), isL 3 1 [.int .i64 (wrap64 (b1 - b0))], isV (.bool true), isV (.bool (!true))]) (by kernel_rfl) (by kernel_rfl) (Vof_mono (by simp [isV_mono, isL_mono])) ?op ?fin
        case op =>
          intro i o ho a V2 _ _ hfrm hE0 hdep
          have hE : Ext (ext W z) V2 := Ext.trans ((Ext.refl (ext W z)).drew) hE0
          match i, ho with
          | 0, ho =>
            injection ho with ho
            subst ho
            have e1 : a.tmps[5]?.getD undef = .int .i64 ((k : Int) + 1) := slot_of (hfrm 5 (frm_of 5 (by kernel_rfl)))
            exact rel_val (by simp [execOp, go_sem, e1]) rfl
          | 1, ho =>
            injection ho with ho
            subst ho
            have e1 : a.tmps[3]?.getD undef = .pointer (some ⟨w.heap.size + 1, 0, none⟩) := slot_of (hfrm 3 (frm_of 3 (by kernel_rfl)))
            have e2 : a.tmps[10]?.getD undef = .int .i64 ((k : Int) + 1) := slot_of (hdep ⟨0, .data⟩ (by simp) (by kernel_rfl) 10 (by kernel_rfl))
            exact rel_val (by simp [execOp, go_sem, e1, e2, hk4, hk5, hk7]) rfl
          | 2, ho =>
            injection ho with ho
            subst ho
            have e1 : a.tmps[11]?.getD undef = .pointer (some ⟨w.heap.size + 1, k + 1, none⟩) := slot_of (hdep ⟨1, .data⟩ (by simp) (by kernel_rfl) 11 (by kernel_rfl))
            have c1 : V2.cell? ⟨w.heap.size + 1, k + 1, none⟩ = some (.int .i64 b1) := (hE.cell HB2).trans cb1
            exact rel_val (by simp [execOp, go_sem, e1, c1]) rfl
          | 3, ho =>
            injection ho with ho
            subst ho
            have e1 : a.tmps[5]?.getD undef = .int .i64 ((k : Int) + 1) := slot_of (hfrm 5 (frm_of 5 (by kernel_rfl)))
            exact rel_val (by simp [execOp, go_sem, e1]) rfl
          | 4, ho =>
            injection ho with ho
            subst ho
            have e1 : a.tmps[13]?.getD undef = .int .i64 ((k : Int) + 1) := slot_of (hdep ⟨3, .data⟩ (by simp) (by kernel_rfl) 13 (by kernel_rfl))
            exact rel_val (by simp [execOp, go_sem, e1, hwk]) rfl
          | 5, ho =>
            injection ho with ho
            subst ho
            have e1 : a.tmps[3]?.getD undef = .pointer (some ⟨w.heap.size + 1, 0, none⟩) := slot_of (hfrm 3 (frm_of 3 (by kernel_rfl)))
            have e2 : a.tmps[14]?.getD undef = .int .i64 k := slot_of (hdep ⟨4, .data⟩ (by simp) (by kernel_rfl) 14 (by kernel_rfl))
            exact rel_val (by simp [execOp, go_sem, e1, e2, hk6]) rfl
          | 6, ho =>
            injection ho with ho
            subst ho
            have e1 : a.tmps[15]?.getD undef = .pointer (some ⟨w.heap.size + 1, k, none⟩) := slot_of (hdep ⟨5, .data⟩ (by simp) (by kernel_rfl) 15 (by kernel_rfl))
            have c1 : V2.cell? ⟨w.heap.size + 1, k, none⟩ = some (.int .i64 b0) := (hE.cell HB2).trans cb0
            exact rel_val (by simp [execOp, go_sem, e1, c1]) rfl
          | 7, ho =>
            injection ho with ho
            subst ho
            have e1 : a.tmps[12]?.getD undef = .int .i64 b1 := slot_of (hdep ⟨2, .data⟩ (by simp) (by kernel_rfl) 12 (by kernel_rfl))
            have e2 : a.tmps[16]?.getD undef = .int .i64 b0 := slot_of (hdep ⟨6, .data⟩ (by simp) (by kernel_rfl) 16 (by kernel_rfl))
            exact rel_val (by simp [execOp, go_sem, e1, e2, IntWalk.i64_left]) rfl
          | 8, ho =>
            injection ho with ho
            subst ho
            have e1 : a.tmps[17]?.getD undef = .int .i64 (wrap64 (b1 - b0)) := slot_of (hdep ⟨7, .data⟩ (by simp) (by kernel_rfl) 17 (by kernel_rfl))
            simp [Oper.wp, execOp, go_sem, e1]
            exact ⟨_, rfl, ⟨_, rfl, Blk.new _ _ _⟩, (Ext.refl _).alloc _⟩
          | 9, ho =>
            injection ho with ho
            subst ho
            obtain ⟨q1, e1', hL1⟩ := hdep ⟨8, .data⟩ (by simp) (by kernel_rfl) 18 (by kernel_rfl)
            have e1 := slot_of e1'
            exact rel_call 18 [.const (.int .i64 (-1)), .const (.int .i64 1), .tmp 18] #[3, 3, 72] rfl (by kernel_rfl) [.int .i64 (-1), .int .i64 1, .slice (some ⟨q1, 0, none⟩) 1 1] (by simp [Act.eval, e1]) (ret_val (Calls.ext_of_same (HO.out _ _ _ (hL1.cell 0))))
          | 10, ho =>
            injection ho with ho
            subst ho
            have e1 : a.tmps[19]?.getD undef = .bool true := slot_of (hdep ⟨9, .data⟩ (by simp) (by kernel_rfl) 19 (by kernel_rfl))
            exact rel_val (by simp [execOp, go_sem, e1]) rfl
          | k + 11, ho => exact absurd (List.getElem?_eq_some_iff.1 ho).1 (by simp)
        case fin =>
          intro vs V hE0 hvs
          have hE : Ext (ext W z) V := Ext.trans ((Ext.refl (ext W z)).drew) hE0
          have s10 : vs 10 = .bool (!true) := hvs 10 (by simp)
          obtain ⟨z2, rfl⟩ : ∃ z2, V = ext (ext W z) z2 := ⟨V, (ext_of hE).symm⟩
          simp [putAll, Act.put, s10]
          clear hE hE0 hvs s10
          go_wp2_with fail
          exact ⟨⟨k + 1, _, by omega, by go_num, (ext_of (((Ext.refl W).ext z).ext z2)).symm, HS.out⟩, by simp [intOf]; omega⟩
    · obtain rfl : k = 3 := by omega
      have HF := Lib.hid (bend_fin h HP.out)
      have he1 := h.1
      have he2 := h.2
      have cE : (ext W z).cell? ⟨w.heap.size, 2, none⟩ = some (.int .i64 c.elastic) := (HC.out.ext z).cell 2
      have oc := Old.mk (HC.out.ext z).lt
      have ob := Old.mk (HB.out.ext z).lt
      have C1 := Lib.hid (fun z2 => withinAll_any (-c.elastic) c.elastic 4 (by omega) b (w.heap.size + 1) 0 4 (ext (ext W z) z2) (fun j hj => by rw [Nat.zero_add]; exact bend_at _ _ _ ((HB.out.ext z).ext z2) j hj))
      go_wp2_with fail
      refine wp_region_ext (by kernel_rfl) (by kernel_rfl) ?_
      repeat (go_big_quiet_step (first | (go_at_call 18; exact Calls.quiet_same (C1.out _))))
      refine wpQuiet_nil ?_
      rintro _ ⟨z2, rfl⟩
      go_wp2_with fail
      go_ret
      exact ⟨ret_of (by rw [HF.out]; rfl), (HE.out.ext z).ext z2⟩
end Go.Proofs.Ytchplmenkdghcaa

