/- The reference: comparisons and distances. -/
import Derived.Test.YtcacbolbedhcoaaRef
namespace Go.Proofs.Ytcacbolbedhcoaa
open Go.RowKit

theorem den_succ (c b : Ir) (k : Nat) : popK (c.mask &&& b.mask) (k + 1) = popK (c.mask &&& b.mask) k + (c.mask.getLsbD k && b.mask.getLsbD k).toNat := by
  rw [popK_succ, BitVec.getLsbD_and]
theorem num_succ (c b : Ir) (k : Nat) : popK ((c.code ^^^ b.code) &&& (c.mask &&& b.mask)) (k + 1) = popK ((c.code ^^^ b.code) &&& (c.mask &&& b.mask)) k + ((c.code.getLsbD k ^^ b.code.getLsbD k) && (c.mask.getLsbD k && b.mask.getLsbD k)).toNat := by
  rw [popK_succ, BitVec.getLsbD_and, BitVec.getLsbD_and, BitVec.getLsbD_xor]

set_option maxRecDepth 100000 in
set_option maxHeartbeats 1000000 in
theorem Compared_any (a b : Ir) (t : Int) (w : World) (ht : -7 ≤ t ∧ t ≤ 7) : Calls Try.prog 54 #[a.val, b.val, .int .i64 t] w fun e w' => e = .returned (.tuple #[.int .i64 (ctr (turnI' a t) b), .int .i64 (cdn (turnI' a t) b)]) ∧ Ext w w' := by
  go_enter Try.func54, Try.ntmps54
  go_wp2_with (go_at_call 49; refine Calls.ext (Turned_any a t _ ht) fun z => ?_)
  generalize hc : turnI' a t = c at *
  have HC := Lib.hid hc
  clear hc
  have Hv := Lib.hid (show Value.tuple #[.int .i64 (ctr c b), .int .i64 (cdn c b)] = .tuple #[.int .i64 (popK ((c.code ^^^ b.code) &&& (c.mask &&& b.mask)) 64), .int .i64 (popK (c.mask &&& b.mask) 64)] by unfold ctr cdn; rw [popK_all, popK_all])
  have HB0 := Lib.hid (((((Blk.new w 27 #[.int .u64 (uw a.code), .int .u64 (uw a.mask)]).alloc (.cells #[.int .u64 (uw b.code), .int .u64 (uw b.mask)] 27)).ext z).set_ 0 (.int .u64 (uw c.code))).set_ 1 (.int .u64 (uw c.mask)))
  have HB1 := Lib.hid (((((Blk.new' (w.alloc (.cells #[.int .u64 (uw a.code), .int .u64 (uw a.mask)] 27)) 27 #[.int .u64 (uw b.code), .int .u64 (uw b.mask)] (w.heap.size + 1) (by simp)).ext z).far (p := ⟨w.heap.size, 0, none⟩) (by show w.heap.size + 1 ≠ w.heap.size; omega) (.int .u64 (uw c.code))).far (p := ⟨w.heap.size, 1, none⟩) (by show w.heap.size + 1 ≠ w.heap.size; omega) (.int .u64 (uw c.mask))))
  have HE := Lib.hid ((((((Ext.refl w).alloc (.cells #[.int .u64 (uw a.code), .int .u64 (uw a.mask)] 27)).alloc (.cells #[.int .u64 (uw b.code), .int .u64 (uw b.mask)] 27)).ext z).setCell (p := ⟨w.heap.size, 0, none⟩) (Nat.le_refl _) (.int .u64 (uw c.code))).setCell (p := ⟨w.heap.size, 1, none⟩) (Nat.le_refl _) (.int .u64 (uw c.mask)))
  generalize ((ext ((w.alloc (.cells #[.int .u64 (uw a.code), .int .u64 (uw a.mask)] 27)).alloc (.cells #[.int .u64 (uw b.code), .int .u64 (uw b.mask)] 27)) z).setCell ⟨w.heap.size, 0, none⟩ (.int .u64 (uw c.code))).setCell ⟨w.heap.size, 1, none⟩ (.int .u64 (uw c.mask)) = W at *
  have h0 : W.cell? ⟨w.heap.size, 0, none⟩ = some (.int .u64 (uw c.code)) := HB0.out.cell 0
  have h1 : W.cell? ⟨w.heap.size, 1, none⟩ = some (.int .u64 (uw c.mask)) := HB0.out.cell 1
  have h2 : W.cell? ⟨w.heap.size + 1, 0, none⟩ = some (.int .u64 (uw b.code)) := HB1.out.cell 0
  have h3 : W.cell? ⟨w.heap.size + 1, 1, none⟩ = some (.int .u64 (uw b.mask)) := HB1.out.cell 1
  have o0 := Old.mk HB0.out.lt
  have o1 := Old.mk HB1.out.lt
  go_loopw [8, 9, 10] (fun n d i wr => ∃ (k : Nat) (z : World), k ≤ 64 ∧ i = .int .i64 k ∧ n = .int .i64 (popK ((c.code ^^^ b.code) &&& (c.mask &&& b.mask)) k) ∧ d = .int .i64 (popK (c.mask &&& b.mask) k) ∧ wr = ext W z) (fun _ _ i _ => 64 - (intOf i).toNat)
  case atStart => exact ⟨0, W, by omega, rfl, rfl, rfl, (ext_of (Ext.refl W)).symm⟩
  case round =>
    obtain ⟨k, z, hk, rfl, rfl, rfl, rfl⟩ := hrel
    have hl1 := popK_le (c.mask &&& b.mask) k
    have hl2 := popK_le ((c.code ^^^ b.code) &&& (c.mask &&& b.mask)) k
    by_cases hlt : k < 64
    · have Hd := Lib.hid (den_succ c b k)
      have Hn := Lib.hid (num_succ c b k)
      have C1 := Lib.hid (bit_any c.mask k)
      have C2 := Lib.hid (bit_any b.mask k)
      have C3 := Lib.hid (bit_any c.code k)
      have C4 := Lib.hid (bit_any b.code k)
      generalize c.mask.getLsbD k = m1 at *
      generalize b.mask.getLsbD k = m2 at *
      generalize c.code.getLsbD k = c1 at *
      generalize b.code.getLsbD k = c2 at *
      generalize popK ((c.code ^^^ b.code) &&& (c.mask &&& b.mask)) k = n at *
      generalize popK (c.mask &&& b.mask) k = d at *
      cases m1
      · go_wp2_with (go_at_call 60; refine Calls.same (C1.out _) ?_)
        go_roundw
        case rel => exact ⟨k + 1, _, by omega, by go_num, by rw [Hn.out]; simp, by rw [Hd.out]; simp, rfl⟩
        case measure => simp [intOf]; omega
      · cases m2
        · go_wp2_with fail
          refine Calls.same (C1.out _) ?_
          go_wp2_with fail
          refine Calls.same (C2.out _) ?_
          go_wp2_with fail
          go_roundw
          case rel => exact ⟨k + 1, _, by omega, by go_num, by rw [Hn.out]; simp, by rw [Hd.out]; simp, rfl⟩
          case measure => simp [intOf]; omega
        · cases c1 <;> cases c2
          all_goals
            go_wp2_with fail
            refine Calls.same (C1.out _) ?_
            go_wp2_with fail
            refine Calls.same (C2.out _) ?_
            go_wp2_with fail
            refine wp_region_ext (by kernel_rfl) (by kernel_rfl) ?_
            repeat (go_big_quiet_step ((go_at_call 60; first | (with_reducible exact Calls.quiet_same (C3.out _)) | (with_reducible exact Calls.quiet_same (C4.out _)))))
            refine wpQuiet_nil ?_
            rintro _ ⟨z2, rfl⟩
            go_wp2_with fail
            go_roundw
            case rel => exact ⟨k + 1, _, by omega, by go_num, by rw [Hn.out]; simp, by rw [Hd.out]; simp, (ext_of (((Ext.refl W).ext z).ext z2)).symm⟩
            case measure => simp [intOf]; omega
    · obtain rfl : k = 64 := by omega
      go_wp2_with fail
      have hv := Hv.out
      clear Hv hl1 hl2
      generalize popK ((c.code ^^^ b.code) &&& (c.mask &&& b.mask)) 64 = n at *
      generalize popK (c.mask &&& b.mask) 64 = d at *
      rw [← HC.out] at hv
      go_ret2
      exact ⟨ret_of hv.symm, HE.out.ext z⟩
end Go.Proofs.Ytcacbolbedhcoaa
