/- Keys: the reference's composed keys and shown words. -/
import Derived.Test.YtfdcapblgdlkaaaKeys
namespace Go.Proofs.Ytfdcapblgdlkaaa
open Go.RowKit

set_option maxRecDepth 100000 in
set_option maxHeartbeats 2000000 in
theorem shown_any (n p : Nat) (pad x : BitVec 16) (hn : 1 ≤ n ∧ n ≤ 15) (hp : p < factN n) (w : World) : Calls Try.prog 74 #[(K.mk n p pad).val, .int .u16 (uv x)] w fun e w' => e = .returned (.int .u16 (uv (perW (inv (ordN n p)) (x ^^^ pad)))) ∧ Ext w w' := by
  have hn2 : (n : Int) ≤ 15 := by omega
  go_enter Try.func74, Try.ntmps74
  go_wp2_with fail
  have HB2 := Lib.hid (Blk.new w 55 #[.int .i64 (n : Int), .int .i64 (p : Int), .int .u16 (uv pad)])
  have HE2 := Lib.hid ((Ext.refl w).alloc (.cells #[.int .i64 (n : Int), .int .i64 (p : Int), .int .u16 (uv pad)] 55))
  generalize w.alloc (.cells #[.int .i64 (n : Int), .int .i64 (p : Int), .int .u16 (uv pad)] 55) = V at *
  have hip := inv_perm (ordN_len n p) (ordN_perm hp)
  have hil : (inv (ordN n p)).length = n := by rw [inv_len, ordN_len]
  have hlt : ∀ x ∈ inv (ordN n p), x < n := fun x hx => List.mem_range.1 (hip.subset hx)
  refine wp_region_rel0 (Vof [isV (.pointer (some ⟨w.heap.size, 0, none⟩)), isV (.int .i64 n), isV (.pointer (some ⟨w.heap.size, 1, none⟩)), isV (.int .i64 p), isN n (intsV (ordN n p)), isL 3 n (intsV (inv (ordN n p))), isV (.int .u16 (uv x)), isV (.pointer (some ⟨w.heap.size, 2, none⟩)), isV (.int .u16 (uv pad)), isV (.int .u16 (uv (x ^^^ pad))), isV (.int .u16 (uv (wordF n (perF (inv (ordN n p)) (x ^^^ pad))))), isV (.int .u16 (uv (wordF n (perF (inv (ordN n p)) (x ^^^ pad)))))]) (by kernel_rfl) (by kernel_rfl) (Vof_mono (by simp [isV_mono, isL_mono, isN_mono])) ?op ?fin
  case op =>
    intro i o ho a V2 _ _ hfrm hE0 hdep
    have hE : Ext V V2 := Ext.trans ((Ext.refl V).drew) hE0
    match i, ho with
    | 0, ho =>
      injection ho with ho
      subst ho
      have e1 : a.tmps[2]?.getD undef = .pointer (some ⟨w.heap.size, 0, none⟩) := slot_of (hfrm 2 (frm_of 2 (by kernel_rfl)))
      exact rel_val (by simp [execOp, go_sem, e1]) rfl
    | 1, ho =>
      injection ho with ho
      subst ho
      have e1 : a.tmps[5]?.getD undef = .pointer (some ⟨w.heap.size, 0, none⟩) := slot_of (hdep ⟨0, .data⟩ (by simp) (by kernel_rfl) 5 (by kernel_rfl))
      have c1 : V2.cell? ⟨w.heap.size, 0, none⟩ = some (.int .i64 n) := (HB2.out.grow hE).cell 0
      exact rel_val (by simp [execOp, go_sem, e1, c1]) rfl
    | 2, ho =>
      injection ho with ho
      subst ho
      have e1 : a.tmps[2]?.getD undef = .pointer (some ⟨w.heap.size, 0, none⟩) := slot_of (hfrm 2 (frm_of 2 (by kernel_rfl)))
      exact rel_val (by simp [execOp, go_sem, e1]) rfl
    | 3, ho =>
      injection ho with ho
      subst ho
      have e1 : a.tmps[7]?.getD undef = .pointer (some ⟨w.heap.size, 1, none⟩) := slot_of (hdep ⟨2, .data⟩ (by simp) (by kernel_rfl) 7 (by kernel_rfl))
      have c1 : V2.cell? ⟨w.heap.size, 1, none⟩ = some (.int .i64 p) := (HB2.out.grow hE).cell 1
      exact rel_val (by simp [execOp, go_sem, e1, c1]) rfl
    | 4, ho =>
      injection ho with ho
      subst ho
      have e1 : a.tmps[6]?.getD undef = .int .i64 n := slot_of (hdep ⟨1, .data⟩ (by simp) (by kernel_rfl) 6 (by kernel_rfl))
      have e2 : a.tmps[8]?.getD undef = .int .i64 p := slot_of (hdep ⟨3, .data⟩ (by simp) (by kernel_rfl) 8 (by kernel_rfl))
      exact rel_call 70 [.tmp 6, .tmp 8] #[3, 3] rfl (by kernel_rfl) [.int .i64 n, .int .i64 p] (by simp [Act.eval, e1, e2]) (ret_lst (ordered_lst n p hn hp _))
    | 5, ho =>
      injection ho with ho
      subst ho
      obtain ⟨q1, r1, e1', hL1⟩ := hdep ⟨4, .data⟩ (by simp) (by kernel_rfl) 9 (by kernel_rfl)
      have e1 := slot_of e1'
      exact rel_call 96 [.tmp 9] #[56] rfl (by kernel_rfl) [.slice (some ⟨q1, 0, none⟩) n r1] (by simp [Act.eval, e1]) (ret_list (by rw [ints_len, hil]) (back_any (ordN n p) n hn.2 (ordN_len n p) (ordN_perm hp) q1 r1 _ hL1))
    | 6, ho =>
      injection ho with ho
      subst ho
      have e1 : a.tmps[1]?.getD undef = .int .u16 (uv x) := slot_of (hfrm 1 (frm_of 1 (by kernel_rfl)))
      exact rel_val (by simp [execOp, go_sem, e1]) rfl
    | 7, ho =>
      injection ho with ho
      subst ho
      have e1 : a.tmps[2]?.getD undef = .pointer (some ⟨w.heap.size, 0, none⟩) := slot_of (hfrm 2 (frm_of 2 (by kernel_rfl)))
      exact rel_val (by simp [execOp, go_sem, e1]) rfl
    | 8, ho =>
      injection ho with ho
      subst ho
      have e1 : a.tmps[12]?.getD undef = .pointer (some ⟨w.heap.size, 2, none⟩) := slot_of (hdep ⟨7, .data⟩ (by simp) (by kernel_rfl) 12 (by kernel_rfl))
      have c1 : V2.cell? ⟨w.heap.size, 2, none⟩ = some (.int .u16 (uv pad)) := (HB2.out.grow hE).cell 2
      exact rel_val (by simp [execOp, go_sem, e1, c1]) rfl
    | 9, ho =>
      injection ho with ho
      subst ho
      have e1 : a.tmps[11]?.getD undef = .int .u16 (uv x) := slot_of (hdep ⟨6, .data⟩ (by simp) (by kernel_rfl) 11 (by kernel_rfl))
      have e2 : a.tmps[13]?.getD undef = .int .u16 (uv pad) := slot_of (hdep ⟨8, .data⟩ (by simp) (by kernel_rfl) 13 (by kernel_rfl))
      exact rel_val (by simp [execOp, go_sem, e1, e2]) rfl
    | 10, ho =>
      injection ho with ho
      subst ho
      obtain ⟨q1, e1', hL1⟩ := hdep ⟨5, .data⟩ (by simp) (by kernel_rfl) 10 (by kernel_rfl)
      have e1 := slot_of e1'
      have e2 : a.tmps[14]?.getD undef = .int .u16 (uv (x ^^^ pad)) := slot_of (hdep ⟨9, .data⟩ (by simp) (by kernel_rfl) 14 (by kernel_rfl))
      have hL1' := Lst.of_blk hL1 (by rw [ints_len, hil]; unfold maxLen; omega)
      rw [ints_len, hil] at hL1'
      exact rel_call 90 [.tmp 10, .tmp 14] #[56, 27] rfl (by kernel_rfl) [.slice (some ⟨q1, 0, none⟩) n n, .int .u16 (uv (x ^^^ pad))] (by simp [Act.eval, e1, e2]) (ret_val (Calls.ext_of_same (permuted_any (x ^^^ pad) (inv (ordN n p)) n hn.2 hil hlt q1 n _ hL1')))
    | 11, ho =>
      injection ho with ho
      subst ho
      have e1 : a.tmps[15]?.getD undef = .int .u16 (uv (wordF n (perF (inv (ordN n p)) (x ^^^ pad)))) := slot_of (hdep ⟨10, .data⟩ (by simp) (by kernel_rfl) 15 (by kernel_rfl))
      exact rel_val (by simp [execOp, go_sem, e1]) rfl
    | k + 12, ho => exact absurd (List.getElem?_eq_some_iff.1 ho).1 (by simp)
  case fin =>
    intro vs V2 hE0 hvs
    have hE : Ext V V2 := Ext.trans ((Ext.refl V).drew) hE0
    have h11 : vs 11 = .int .u16 (uv (wordF n (perF (inv (ordN n p)) (x ^^^ pad)))) := hvs 11 (by simp)
    simp [putAll, Act.put, h11]
    go_wp2_with fail
    go_ret
    exact ⟨ret_of (by rw [perW, hil]; rfl), Ext.trans HE2.out hE⟩
set_option maxRecDepth 100000 in
set_option maxHeartbeats 2000000 in
theorem composed_any (n p : Nat) (pad : BitVec 16) (p' : Nat) (pad' : BitVec 16) (hn : 1 ≤ n ∧ n ≤ 15) (hp : p < factN n) (hp' : p' < factN n) (w : World) : Calls Try.prog 78 #[(K.mk n p pad).val, (K.mk n p' pad').val] w fun e w' => e = .returned (comK n p pad p' pad').val ∧ Ext w w' := by
  have hn2 : (n : Int) ≤ 15 := by omega
  go_enter Try.func78, Try.ntmps78
  go_wp2_with fail
  have HB2 := Lib.hid (((Blk.new w 55 #[.int .i64 (n : Int), .int .i64 (p : Int), .int .u16 (uv pad)]).alloc (.cells #[.int .i64 (n : Int), .int .i64 (p' : Int), .int .u16 (uv pad')] 55)).alloc (.cells #[.int .i64 0, .int .i64 0, .int .u16 0] 55))
  have HC2 := Lib.hid ((Blk.new' (w.alloc (.cells #[.int .i64 (n : Int), .int .i64 (p : Int), .int .u16 (uv pad)] 55)) 55 #[.int .i64 (n : Int), .int .i64 (p' : Int), .int .u16 (uv pad')] (w.heap.size + 1) (by simp)).alloc (.cells #[.int .i64 0, .int .i64 0, .int .u16 0] 55))
  have HR2 := Lib.hid (Blk.new' ((w.alloc (.cells #[.int .i64 (n : Int), .int .i64 (p : Int), .int .u16 (uv pad)] 55)).alloc (.cells #[.int .i64 (n : Int), .int .i64 (p' : Int), .int .u16 (uv pad')] 55)) 55 #[.int .i64 0, .int .i64 0, .int .u16 0] (w.heap.size + 1 + 1) (by simp))
  have HE2 := Lib.hid ((((Ext.refl w).alloc (.cells #[.int .i64 (n : Int), .int .i64 (p : Int), .int .u16 (uv pad)] 55)).alloc (.cells #[.int .i64 (n : Int), .int .i64 (p' : Int), .int .u16 (uv pad')] 55)).alloc (.cells #[.int .i64 0, .int .i64 0, .int .u16 0] 55))
  generalize ((w.alloc (.cells #[.int .i64 (n : Int), .int .i64 (p : Int), .int .u16 (uv pad)] 55)).alloc (.cells #[.int .i64 (n : Int), .int .i64 (p' : Int), .int .u16 (uv pad')] 55)).alloc (.cells #[.int .i64 0, .int .i64 0, .int .u16 0] 55) = V at *
  have hcp := compL_perm (ordN_perm hp) (ordN_perm hp')
  have hcl : (compL (ordN n p) (ordN n p')).length = n := by rw [compL_len, ordN_len]
  have hlt : ∀ x ∈ compL (ordN n p) (ordN n p'), x < n := fun x hx => List.mem_range.1 (hcp.subset hx)
  refine wp_region_rel0 (Vof [isV (.pointer (some ⟨w.heap.size, 0, none⟩)), isV (.int .i64 n), isV (.pointer (some ⟨w.heap.size, 1, none⟩)), isV (.int .i64 p), isN n (intsV (ordN n p)), isV (.pointer (some ⟨w.heap.size + 1, 0, none⟩)), isV (.int .i64 n), isV (.pointer (some ⟨w.heap.size + 1, 1, none⟩)), isV (.int .i64 p'), isN n (intsV (ordN n p')), isN n (intsV (ordN n p)), isN n (intsV (ordN n p'))]) (by kernel_rfl) (by kernel_rfl) (Vof_mono (by simp [isV_mono, isN_mono])) ?op ?fin
  case op =>
    intro i o ho a V2 _ _ hfrm hE0 hdep
    have hE : Ext V V2 := Ext.trans ((Ext.refl V).drew) hE0
    match i, ho with
    | 0, ho =>
      injection ho with ho
      subst ho
      have e1 : a.tmps[2]?.getD undef = .pointer (some ⟨w.heap.size, 0, none⟩) := slot_of (hfrm 2 (frm_of 2 (by kernel_rfl)))
      exact rel_val (by simp [execOp, go_sem, e1]) rfl
    | 1, ho =>
      injection ho with ho
      subst ho
      have e1 : a.tmps[9]?.getD undef = .pointer (some ⟨w.heap.size, 0, none⟩) := slot_of (hdep ⟨0, .data⟩ (by simp) (by kernel_rfl) 9 (by kernel_rfl))
      have c1 : V2.cell? ⟨w.heap.size, 0, none⟩ = some (.int .i64 n) := (HB2.out.grow hE).cell 0
      exact rel_val (by simp [execOp, go_sem, e1, c1]) rfl
    | 2, ho =>
      injection ho with ho
      subst ho
      have e1 : a.tmps[2]?.getD undef = .pointer (some ⟨w.heap.size, 0, none⟩) := slot_of (hfrm 2 (frm_of 2 (by kernel_rfl)))
      exact rel_val (by simp [execOp, go_sem, e1]) rfl
    | 3, ho =>
      injection ho with ho
      subst ho
      have e1 : a.tmps[11]?.getD undef = .pointer (some ⟨w.heap.size, 1, none⟩) := slot_of (hdep ⟨2, .data⟩ (by simp) (by kernel_rfl) 11 (by kernel_rfl))
      have c1 : V2.cell? ⟨w.heap.size, 1, none⟩ = some (.int .i64 p) := (HB2.out.grow hE).cell 1
      exact rel_val (by simp [execOp, go_sem, e1, c1]) rfl
    | 4, ho =>
      injection ho with ho
      subst ho
      have e1 : a.tmps[10]?.getD undef = .int .i64 n := slot_of (hdep ⟨1, .data⟩ (by simp) (by kernel_rfl) 10 (by kernel_rfl))
      have e2 : a.tmps[12]?.getD undef = .int .i64 p := slot_of (hdep ⟨3, .data⟩ (by simp) (by kernel_rfl) 12 (by kernel_rfl))
      exact rel_call 70 [.tmp 10, .tmp 12] #[3, 3] rfl (by kernel_rfl) [.int .i64 n, .int .i64 p] (by simp [Act.eval, e1, e2]) (ret_lst (ordered_lst n p hn hp _))
    | 5, ho =>
      injection ho with ho
      subst ho
      have e1 : a.tmps[3]?.getD undef = .pointer (some ⟨w.heap.size + 1, 0, none⟩) := slot_of (hfrm 3 (frm_of 3 (by kernel_rfl)))
      exact rel_val (by simp [execOp, go_sem, e1]) rfl
    | 6, ho =>
      injection ho with ho
      subst ho
      have e1 : a.tmps[14]?.getD undef = .pointer (some ⟨w.heap.size + 1, 0, none⟩) := slot_of (hdep ⟨5, .data⟩ (by simp) (by kernel_rfl) 14 (by kernel_rfl))
      have c1 : V2.cell? ⟨w.heap.size + 1, 0, none⟩ = some (.int .i64 n) := (HC2.out.grow hE).cell 0
      exact rel_val (by simp [execOp, go_sem, e1, c1]) rfl
    | 7, ho =>
      injection ho with ho
      subst ho
      have e1 : a.tmps[3]?.getD undef = .pointer (some ⟨w.heap.size + 1, 0, none⟩) := slot_of (hfrm 3 (frm_of 3 (by kernel_rfl)))
      exact rel_val (by simp [execOp, go_sem, e1]) rfl
    | 8, ho =>
      injection ho with ho
      subst ho
      have e1 : a.tmps[16]?.getD undef = .pointer (some ⟨w.heap.size + 1, 1, none⟩) := slot_of (hdep ⟨7, .data⟩ (by simp) (by kernel_rfl) 16 (by kernel_rfl))
      have c1 : V2.cell? ⟨w.heap.size + 1, 1, none⟩ = some (.int .i64 p') := (HC2.out.grow hE).cell 1
      exact rel_val (by simp [execOp, go_sem, e1, c1]) rfl
    | 9, ho =>
      injection ho with ho
      subst ho
      have e1 : a.tmps[15]?.getD undef = .int .i64 n := slot_of (hdep ⟨6, .data⟩ (by simp) (by kernel_rfl) 15 (by kernel_rfl))
      have e2 : a.tmps[17]?.getD undef = .int .i64 p' := slot_of (hdep ⟨8, .data⟩ (by simp) (by kernel_rfl) 17 (by kernel_rfl))
      exact rel_call 70 [.tmp 15, .tmp 17] #[3, 3] rfl (by kernel_rfl) [.int .i64 n, .int .i64 p'] (by simp [Act.eval, e1, e2]) (ret_lst (ordered_lst n p' hn hp' _))
    | 10, ho =>
      injection ho with ho
      subst ho
      obtain ⟨q1, r1, e1', hL1⟩ := hdep ⟨4, .data⟩ (by simp) (by kernel_rfl) 13 (by kernel_rfl)
      have e1 := slot_of e1'
      exact rel_val (v := .slice (some ⟨q1, 0, none⟩) n r1) (by simp [execOp, go_sem, e1]) ⟨q1, r1, rfl, hL1⟩
    | 11, ho =>
      injection ho with ho
      subst ho
      obtain ⟨q1, r1, e1', hL1⟩ := hdep ⟨9, .data⟩ (by simp) (by kernel_rfl) 18 (by kernel_rfl)
      have e1 := slot_of e1'
      exact rel_val (v := .slice (some ⟨q1, 0, none⟩) n r1) (by simp [execOp, go_sem, e1]) ⟨q1, r1, rfl, hL1⟩
    | k + 12, ho => exact absurd (List.getElem?_eq_some_iff.1 ho).1 (by simp)
  case fin =>
    intro vs V1 hE0 hvs
    have hE : Ext V V1 := Ext.trans ((Ext.refl V).drew) hE0
    obtain ⟨g1, c1, h10, hL1⟩ := hvs 10 (by simp)
    obtain ⟨g2, c2, h11, hL2⟩ := hvs 11 (by simp)
    simp [putAll, Act.put, h10, h11]
    clear hvs
    have HB3 := Lib.hid (HB2.out.grow hE)
    have HC3 := Lib.hid (HC2.out.grow hE)
    have HR3 := Lib.hid (HR2.out.grow hE)
    have HE3 := Lib.hid (Ext.trans HE2.out hE)
    have HL1 := Lib.hid hL1
    have HL2 := Lib.hid hL2
    have o1 := Old.mk hL1.lt
    have o2 := Old.mk hL2.lt
    clear HB2 HC2 HR2 HE2 hE hE0 hL1 hL2 h10 h11
    go_wp2_with fail
    go_loopw [7, 8] (fun s i wr => ∃ (k : Nat) (B : Option Addr) (d : Nat) (z : World), k ≤ n ∧ i = .int .i64 k ∧ s = .slice B k d ∧ wr = ext V1 z ∧ wr.ownsRow V1.heap.size 3 1 (.slice B k d) k (intsV ((compL (ordN n p) (ordN n p')).take k))) (fun _ i _ => n - (intOf i).toNat)
    case atStart => exact ⟨0, none, 0, V1, Nat.zero_le _, rfl, rfl, (ext_of (Ext.refl V1)).symm, own_nil _ _ _ _⟩
    case round =>
      obtain ⟨k, B, d, z, hk, rfl, rfl, rfl, hown⟩ := hrel
      have HO := Lib.hid hown
      clear hown
      by_cases hkn : k < n
      · have hk2 : (k : Int) < (n : Int) := by omega
        have hlk : (ordN n p').getD k 0 < n := by
          rw [List.getD_eq_getElem?_getD, List.getElem?_eq_getElem (by rw [ordN_len]; exact hkn)]
          exact ordN_lt hp' _ (List.getElem_mem _)
        have d1 := lst_int HL2.out k (by rw [ordN_len]; exact hkn)
        have HT := Lib.hid (show (compL (ordN n p) (ordN n p')).take (k + 1) = (compL (ordN n p) (ordN n p')).take k ++ [(ordN n p).getD ((ordN n p').getD k 0) 0] by
          rw [List.take_succ_eq_append_getElem (by rw [hcl]; exact hkn)]
          congr 2
          simp only [compL, List.getElem_map]
          rw [List.getD_eq_getElem?_getD (l := ordN n p') (i := k), List.getElem?_eq_getElem (by rw [ordN_len]; exact hkn)]; rfl)
        generalize (ordN n p').getD k 0 = q at *
        have hq2 : (q : Int) < (n : Int) := by omega
        have d2 := lst_int HL1.out q (by rw [ordN_len]; exact hlk)
        generalize (ordN n p).getD q 0 = v at *
        have hsm : k + 1 ≤ 65536 := by omega
        go_wp2_with (at_builtin; refine wpList_append_ext rfl V1 (by exact (Ext.ext_self V1 z).alloc _) infoI (.tmp 25) (.tmp 33) rfl _ k (intsV ((compL (ordN n p) (ordN n p')).take k)) rfl (by exact own_grow HO.out ((Ext.refl _).alloc _)) _ 1 1 [.int .i64 (v : Int)] rfl (Slc.of_blk (cs := #[.int .i64 (v : Int)]) (t := 3) (Blk.new _ _ _) rfl) (by simp [Value.oneCell']) hsm (by decide) ?_; intro B' d' z2 hown2)
        refine ⟨⟨k + 1, B', d', z2, by omega, by go_num, rfl, rfl, ?_⟩, by simp [intOf]; omega⟩
        rw [HT.out, intsV_append]
        exact hown2
      · obtain rfl : k = n := by omega
        have ht : (compL (ordN k p) (ordN k p')).take k = (compL (ordN k p) (ordN k p')) := List.take_of_length_le (by omega)
        rw [ht] at HO
        obtain ⟨g3, hg3, _, hL3⟩ := lst_of_own (by omega) (by rw [ints_len, hcl]) HO.out
        subst hg3
        have HL3 := Lib.hid hL3
        have HB2 := Lib.hid (HB3.out.ext z)
        have HC2 := Lib.hid (HC3.out.ext z)
        have HR2 := Lib.hid (HR3.out.ext z)
        have HE2 := Lib.hid (HE3.out.ext z)
        clear hL3 ht HO HB3 HC3 HR3 HE3 HL1 HL2
        go_wp2_with fail
        generalize ext V1 z = V3 at *
        refine wp_region_rel' 9 _ rfl (Vof [isV (.pointer (some ⟨w.heap.size, 0, none⟩)), isV (.int .i64 k), isV (.slice (some ⟨g3, 0, none⟩) k d), isV (.int .i64 (num (compL (ordN k p) (ordN k p')))), isV (.agg #[.int .i64 k, .int .i64 p', .int .u16 (uv pad')]), isV (.pointer (some ⟨w.heap.size, 2, none⟩)), isV (.int .u16 (uv pad)), isV (.int .u16 (uv (hidW k p' pad' pad))), isV (.agg #[.int .i64 (k : Int), .int .i64 ((num (compL (ordN k p) (ordN k p')) : Nat) : Int), .int .u16 (uv (hidW k p' pad' pad))])]) (by kernel_rfl) (by kernel_rfl) (Vof_mono (by simp [isV_mono])) ?op ?last
        case op =>
          intro i o ho a V2 _ _ hfrm hE0 hdep
          have hE : Ext V3 V2 := Ext.trans ((Ext.refl V3).drew) hE0
          match i, ho with
          | 0, ho =>
            injection ho with ho
            subst ho
            have e1 : a.tmps[2]?.getD undef = .pointer (some ⟨w.heap.size, 0, none⟩) := slot_of (hfrm 2 (frm_of 2 (by kernel_rfl)))
            exact rel_val (by simp [execOp, go_sem, e1]) rfl
          | 1, ho =>
            injection ho with ho
            subst ho
            have e1 : a.tmps[35]?.getD undef = .pointer (some ⟨w.heap.size, 0, none⟩) := slot_of (hdep ⟨0, .data⟩ (by simp) (by kernel_rfl) 35 (by kernel_rfl))
            have c1 : V2.cell? ⟨w.heap.size, 0, none⟩ = some (.int .i64 k) := (HB2.out.grow hE).cell 0
            exact rel_val (by simp [execOp, go_sem, e1, c1]) rfl
          | 2, ho =>
            injection ho with ho
            subst ho
            have e1 : a.tmps[7]?.getD undef = .slice (some ⟨g3, 0, none⟩) k d := slot_of (hfrm 7 (frm_of 7 (by kernel_rfl)))
            exact rel_val (by simp [execOp, go_sem, e1]) rfl
          | 3, ho =>
            injection ho with ho
            subst ho
            have e1 : a.tmps[37]?.getD undef = .slice (some ⟨g3, 0, none⟩) k d := slot_of (hdep ⟨2, .data⟩ (by simp) (by kernel_rfl) 37 (by kernel_rfl))
            exact rel_call 98 [.tmp 37] #[56] rfl (by kernel_rfl) [.slice (some ⟨g3, 0, none⟩) k d] (by simp [Act.eval, e1]) (ret_val (refNumber_any (compL (ordN k p) (ordN k p')) k hn.2 hcl hlt g3 d _ (HL3.out.grow hE)))
          | 4, ho =>
            injection ho with ho
            subst ho
            have e1 : a.tmps[3]?.getD undef = .pointer (some ⟨w.heap.size + 1, 0, none⟩) := slot_of (hfrm 3 (frm_of 3 (by kernel_rfl)))
            have c1 : V2.cell? ⟨w.heap.size + 1, 0, none⟩ = some (.int .i64 k) := (HC2.out.grow hE).cell 0
            have c2 : V2.cell? ⟨w.heap.size + 1, 1, none⟩ = some (.int .i64 p') := (HC2.out.grow hE).cell 1
            have c3 : V2.cell? ⟨w.heap.size + 1, 2, none⟩ = some (.int .u16 (uv pad')) := (HC2.out.grow hE).cell 2
            exact rel_val (by simp [execOp, go_sem, e1, c1, c2, c3]) rfl
          | 5, ho =>
            injection ho with ho
            subst ho
            have e1 : a.tmps[2]?.getD undef = .pointer (some ⟨w.heap.size, 0, none⟩) := slot_of (hfrm 2 (frm_of 2 (by kernel_rfl)))
            exact rel_val (by simp [execOp, go_sem, e1]) rfl
          | 6, ho =>
            injection ho with ho
            subst ho
            have e1 : a.tmps[40]?.getD undef = .pointer (some ⟨w.heap.size, 2, none⟩) := slot_of (hdep ⟨5, .data⟩ (by simp) (by kernel_rfl) 40 (by kernel_rfl))
            have c1 : V2.cell? ⟨w.heap.size, 2, none⟩ = some (.int .u16 (uv pad)) := (HB2.out.grow hE).cell 2
            exact rel_val (by simp [execOp, go_sem, e1, c1]) rfl
          | 7, ho =>
            injection ho with ho
            subst ho
            have e1 : a.tmps[39]?.getD undef = .agg #[.int .i64 k, .int .i64 p', .int .u16 (uv pad')] := slot_of (hdep ⟨4, .data⟩ (by simp) (by kernel_rfl) 39 (by kernel_rfl))
            have e2 : a.tmps[41]?.getD undef = .int .u16 (uv pad) := slot_of (hdep ⟨6, .data⟩ (by simp) (by kernel_rfl) 41 (by kernel_rfl))
            exact rel_call 57 [.tmp 39, .tmp 41] #[55, 27] rfl (by kernel_rfl) [.agg #[.int .i64 k, .int .i64 p', .int .u16 (uv pad')], .int .u16 (uv pad)] (by simp [Act.eval, e1, e2]) (ret_val (hidden_any k p' pad' pad hn hp' _))
          | 8, ho =>
            injection ho with ho
            subst ho
            have e1 : a.tmps[36]?.getD undef = .int .i64 k := slot_of (hdep ⟨1, .data⟩ (by simp) (by kernel_rfl) 36 (by kernel_rfl))
            have e2 : a.tmps[38]?.getD undef = .int .i64 (num (compL (ordN k p) (ordN k p'))) := slot_of (hdep ⟨3, .data⟩ (by simp) (by kernel_rfl) 38 (by kernel_rfl))
            have e3 : a.tmps[42]?.getD undef = (.int .u16 (uv (hidW k p' pad' pad))) := slot_of (hdep ⟨7, .data⟩ (by simp) (by kernel_rfl) 42 (by kernel_rfl))
            exact rel_val (by simp [execOp, go_sem, e1, e2, e3]) rfl
          | k + 9, ho => exact absurd (List.getElem?_eq_some_iff.1 ho).1 (by simp)
        case last =>
          intro a V2 _ hdf hfrm hE0 hval
          have hE : Ext V3 V2 := Ext.trans ((Ext.refl V3).drew) hE0
          have e1 : a.tmps[4]?.getD undef = .pointer (some ⟨w.heap.size + 1 + 1, 0, none⟩) := slot_of (hfrm 4 (frm_of 4 (by kernel_rfl)))
          have e2 : a.tmps[43]?.getD undef = .agg #[.int .i64 (k : Int), .int .i64 ((num (compL (ordN k p) (ordN k p')) : Nat) : Int), .int .u16 (uv (hidW k p' pad' pad))] := slot_of (hval 8 43 (by simp) (by kernel_rfl))
          have hR := HR2.out.grow hE
          have r0 : V2.cell? ⟨w.heap.size + 1 + 1, 0, none⟩ = some (.int .i64 0) := hR.cell 0
          have r1 : V2.cell? ⟨w.heap.size + 1 + 1, 1, none⟩ = some (.int .i64 0) := hR.cell 1
          have r2 : V2.cell? ⟨w.heap.size + 1 + 1, 2, none⟩ = some (.int .u16 0) := hR.cell 2
          have hf := hR.frozen
          simp [Oper.wp, execOp, e1, e2, go_sem, r0, r1, r2, hf]
          clear hfrm hval
          go_wp2_with fail
          refine bodyPost_ret (results_cell_row rfl _ _ (w.heap.size + 1 + 1) 55 #[.int .i64 (k : Int), .int .i64 ((num (compL (ordN k p) (ordN k p')) : Nat) : Int), .int .u16 (uv (hidW k p' pad' pad))] (0, 0) _ (by simpa using e1) (blk3 hR) Try.underlying55 rfl (by kernel_rfl)) hdf ⟨ret_of (rfl), ?_⟩
          have hle : w.heap.size ≤ w.heap.size + 1 + 1 := by omega
          exact (((Ext.trans HE2.out hE).setCell hle _).setCell hle _).setCell hle _
end Go.Proofs.Ytfdcapblgdlkaaa
