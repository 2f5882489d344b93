/- Keys: inverted and composed. -/
import Derived.Test.YtfdcapblgdlkaaaNumber
import Derived.Test.YtfdcapblgdlkaaaRel
namespace Go.Proofs.Ytfdcapblgdlkaaa
open Go.RowKit

theorem len_sub {α : Type} [BEq α] [LawfulBEq α] : ∀ (l l' : List α), l.Nodup → (∀ a ∈ l, a ∈ l') → l.length ≤ l'.length := by
  intro l
  induction l with
  | nil => intro _ _ _; exact Nat.zero_le _
  | cons a l ih =>
    intro l' hd hs
    obtain ⟨hna, hd'⟩ := List.nodup_cons.1 hd
    have ha := hs a (List.mem_cons_self ..)
    have h := ih (l'.erase a) hd' (fun b hb => by
      have hba : b ≠ a := fun e => by subst e; exact hna hb
      exact (List.mem_erase_of_ne hba).2 (hs b (List.mem_cons_of_mem _ hb)))
    rw [List.length_erase_of_mem ha] at h
    have := List.length_pos_of_mem ha
    simp only [List.length_cons]; omega
theorem perm_range {l : List Nat} {n : Nat} (hd : l.Nodup) (hlt : ∀ x ∈ l, x < n) (hlen : l.length = n) : l.Perm (List.range n) := by
  rw [List.perm_iff_count]
  intro a
  have hm : ∀ x, x < n → x ∈ l := by
    intro x hx
    apply Classical.byContradiction
    intro h
    have := len_sub (x :: l) (List.range n) (List.nodup_cons.2 ⟨h, hd⟩) (fun b hb => by
      rcases List.mem_cons.1 hb with rfl | hb
      · exact List.mem_range.2 hx
      · exact List.mem_range.2 (hlt b hb))
    simp at this; omega
  have h1 : ∀ (m : List Nat), m.Nodup → m.count a = if a ∈ m then 1 else 0 := fun m hm => hm.count
  rw [h1 l hd, h1 _ List.nodup_range]
  by_cases ha : a < n
  · rw [if_pos (hm a ha), if_pos (List.mem_range.2 ha)]
  · rw [if_neg (fun h => ha (hlt a h)), if_neg (fun h => ha (List.mem_range.1 h))]
theorem inv_perm {l : List Nat} {n : Nat} (hl : l.length = n) (hp : l.Perm (List.range n)) : (inv l).Perm (List.range n) := by
  have hm : ∀ v, v < n → v ∈ l := fun v hv => hp.symm.subset (List.mem_range.2 hv)
  refine perm_range ?_ ?_ (by rw [inv_len, hl])
  · unfold inv
    rw [hl]
    apply List.pairwise_map.2
    refine List.Pairwise.imp_of_mem ?_ (List.nodup_range (n := n))
    intro a b ha hb hab e
    have h1 := List.getElem_idxOf (List.idxOf_lt_length_of_mem (hm a (List.mem_range.1 ha)))
    have h2 := List.getElem_idxOf (List.idxOf_lt_length_of_mem (hm b (List.mem_range.1 hb)))
    apply hab
    rw [← h1, ← h2]
    simp only [e]
  · intro x hx
    obtain ⟨v, hv, rfl⟩ := List.mem_map.1 hx
    rw [hl] at hv
    have := List.idxOf_lt_length_of_mem (hm v (List.mem_range.1 hv))
    omega
/-- one order after another one -/
def compL (a b : List Nat) : List Nat := b.map fun i => a.getD i 0
theorem compL_len (a b : List Nat) : (compL a b).length = b.length := by simp [compL]
theorem range_getD (a : List Nat) : (List.range a.length).map (fun i => a.getD i 0) = a := by
  apply List.ext_getElem
  · simp
  · intro i h1 h2
    rw [List.getElem_map, List.getElem_range, List.getD_eq_getElem?_getD, List.getElem?_eq_getElem h2]; rfl
theorem compL_perm {a b : List Nat} {n : Nat} (ha : a.Perm (List.range n)) (hb : b.Perm (List.range n)) : (compL a b).Perm (List.range n) := by
  have hl : a.length = n := by rw [ha.length_eq]; simp
  have h1 := hb.map fun i => a.getD i 0
  have e := range_getD a
  rw [hl] at e
  rw [e] at h1
  exact h1.trans ha
theorem compL_val (a b : List Nat) (n : Nat) (hb : b.length = n) : (valL n fun i => .int .i64 ((a.getD (b.getD i 0) 0 : Nat) : Int)) = intsV (compL a b) := by
  unfold valL intsV compL
  rw [List.map_map]
  apply List.ext_getElem
  · simp [hb]
  · intro i h1 h2
    simp only [List.getElem_map, List.getElem_range, Function.comp, List.getD_eq_getElem?_getD]
    have h3 : i < b.length := by simpa using h2
    have h4 : b[i]? = some b[i] := List.getElem?_eq_getElem h3
    rw [h4]; rfl
theorem num_lt' {l : List Nat} {n : Nat} (h : l.Perm (List.range n)) : num l < factN n := by
  have := num_lt l
  rwa [h.length_eq, List.length_range] at this
theorem ord_num {l : List Nat} {n : Nat} (h : l.Perm (List.range n)) : ordN n (num l) = l :=
  dec_num n _ l (by rw [h.length_eq]; simp) h List.pairwise_lt_range
/-- the key that undoes a key -/
def invK (n p : Nat) (pad : BitVec 16) : K := ⟨n, (num (inv (ordN n p)) : Nat), perW (inv (ordN n p)) pad⟩
/-- one key after another one -/
def comK (n p : Nat) (pad : BitVec 16) (p' : Nat) (pad' : BitVec 16) : K := ⟨n, (num (compL (ordN n p) (ordN n p')) : Nat), hidW n p' pad' pad⟩
theorem blk3 {w : World} {g : Nat} {t : TypeId} {a b c x y z : Value} (h : Blk w g t #[a, b, c]) : Blk (((w.setCell ⟨g, 0, none⟩ x).setCell ⟨g, 1, none⟩ y).setCell ⟨g, 2, none⟩ z) g t #[x, y, z] := by
  have := ((h.set_ 0 x).set_ 1 y).set_ 2 z
  simpa using this
set_option maxRecDepth 100000 in
set_option maxHeartbeats 2000000 in
theorem invert_any (n p : Nat) (pad : BitVec 16) (hn : 1 ≤ n ∧ n ≤ 15) (hp : p < factN n) (w : World) : Calls Try.prog 73 #[(K.mk n p pad).val] w fun e w' => e = .returned (invK n p pad).val ∧ Ext w w' := by
  have hn2 : (n : Int) ≤ 15 := by omega
  go_enter Try.func73, Try.ntmps73
  go_wp2_with fail
  have HB := Lib.hid ((Blk.new w 55 #[.int .i64 (n : Int), .int .i64 (p : Int), .int .u16 (uv pad)]).alloc (.cells #[.int .i64 0, .int .i64 0, .int .u16 0] 55))
  have HR := Lib.hid (Blk.new' (w.alloc (.cells #[.int .i64 (n : Int), .int .i64 (p : Int), .int .u16 (uv pad)] 55)) 55 #[.int .i64 0, .int .i64 0, .int .u16 0] (w.heap.size + 1) (by simp))
  have HE := Lib.hid (((Ext.refl w).alloc (.cells #[.int .i64 (n : Int), .int .i64 (p : Int), .int .u16 (uv pad)] 55)).alloc (.cells #[.int .i64 0, .int .i64 0, .int .u16 0] 55))
  generalize (w.alloc (.cells #[.int .i64 (n : Int), .int .i64 (p : Int), .int .u16 (uv pad)] 55)).alloc (.cells #[.int .i64 0, .int .i64 0, .int .u16 0] 55) = W at *
  refine calls_lst (order_lst n p pad hn hp W) fun g1 c1 z1 hL1 => ?_
  go_wp2_with fail
  refine calls_list (inverse_any (ordN n p) n hn.2 (ordN_len n p) (ordN_perm hp) g1 c1 _ hL1) fun g2 z2 _ hB2 => ?_
  have hip := inv_perm (ordN_len n p) (ordN_perm hp)
  have hil : (inv (ordN n p)).length = n := by rw [inv_len, ordN_len]
  have hlt : ∀ x ∈ inv (ordN n p), x < n := fun x hx => List.mem_range.1 (hip.subset hx)
  have hL2 : Lst 3 (ext (ext W z1) z2) g2 n (intsV (inv (ordN n p))) := by
    have := Lst.of_blk hB2 (by rw [ints_len, hil]; unfold maxLen; omega)
    rwa [ints_len, hil] at this
  rw [ints_len, hil]
  have HL2 := Lib.hid hL2
  have HB2 := Lib.hid ((HB.out.ext z1).ext z2)
  have HR2 := Lib.hid ((HR.out.ext z1).ext z2)
  have HE2 := Lib.hid ((HE.out.ext z1).ext z2)
  clear hL1 hB2 hL2 HB HR HE
  generalize ext (ext W z1) z2 = V at *
  generalize hII : inv (ordN n p) = I at *
  have HII := Lib.hid hII
  clear hII
  go_wp2_with fail
  refine wp_region_rel' 13 _ rfl (Vof [isV (.pointer (some ⟨w.heap.size, 0, none⟩)), isV (.int .i64 n), isV (.slice (some ⟨g2, 0, none⟩) n n), isV (.int .i64 (num I)), isV (.pointer (some ⟨w.heap.size, 2, none⟩)), isV (.int .u16 (uv pad)), isV (.pointer (some ⟨w.heap.size, 0, none⟩)), isV (.int .i64 n), isL 27 n (valL n fun i => bitV (pad.getLsbD i)), isV (.slice (some ⟨g2, 0, none⟩) n n), isL 27 n (valL n fun i => bitV (perF I pad i)), isV (.int .u16 (uv (wordF n (perF I pad)))), isV (.agg #[.int .i64 (n : Int), .int .i64 ((num I : Nat) : Int), .int .u16 (uv (wordF n (perF I pad)))])]) (by kernel_rfl) (by kernel_rfl) (Vof_mono (by simp [isV_mono, isL_mono])) ?op ?last
  case op =>
    intro i o ho a V2 _ _ hfrm hE0 hdep
    have hE : Ext V V2 := Ext.trans ((Ext.refl V).drew) hE0
    match i, ho with
    | 0, ho =>
      injection ho with ho
      subst ho
      have e1 : a.tmps[1]?.getD undef = .pointer (some ⟨w.heap.size, 0, none⟩) := slot_of (hfrm 1 (frm_of 1 (by kernel_rfl)))
      exact rel_val (by simp [execOp, go_sem, e1]) rfl
    | 1, ho =>
      injection ho with ho
      subst ho
      have e1 : a.tmps[7]?.getD undef = .pointer (some ⟨w.heap.size, 0, none⟩) := slot_of (hdep ⟨0, .data⟩ (by simp) (by kernel_rfl) 7 (by kernel_rfl))
      have c1 : V2.cell? ⟨w.heap.size, 0, none⟩ = some (.int .i64 n) := (HB2.out.grow hE).cell 0
      exact rel_val (by simp [execOp, go_sem, e1, c1]) rfl
    | 2, ho =>
      injection ho with ho
      subst ho
      have e1 : a.tmps[3]?.getD undef = .slice (some ⟨g2, 0, none⟩) n n := slot_of (hfrm 3 (frm_of 3 (by kernel_rfl)))
      exact rel_val (by simp [execOp, go_sem, e1]) rfl
    | 3, ho =>
      injection ho with ho
      subst ho
      have e1 : a.tmps[9]?.getD undef = .slice (some ⟨g2, 0, none⟩) n n := slot_of (hdep ⟨2, .data⟩ (by simp) (by kernel_rfl) 9 (by kernel_rfl))
      exact rel_call 95 [.tmp 9] #[56] rfl (by kernel_rfl) [.slice (some ⟨g2, 0, none⟩) n n] (by simp [Act.eval, e1]) (ret_val (Calls.ext_of_same (number_any I n hn.2 hil hlt g2 n _ (HL2.out.grow hE))))
    | 4, ho =>
      injection ho with ho
      subst ho
      have e1 : a.tmps[1]?.getD undef = .pointer (some ⟨w.heap.size, 0, none⟩) := slot_of (hfrm 1 (frm_of 1 (by kernel_rfl)))
      exact rel_val (by simp [execOp, go_sem, e1]) rfl
    | 5, ho =>
      injection ho with ho
      subst ho
      have e1 : a.tmps[11]?.getD undef = .pointer (some ⟨w.heap.size, 2, none⟩) := slot_of (hdep ⟨4, .data⟩ (by simp) (by kernel_rfl) 11 (by kernel_rfl))
      have c1 : V2.cell? ⟨w.heap.size, 2, none⟩ = some (.int .u16 (uv pad)) := (HB2.out.grow hE).cell 2
      exact rel_val (by simp [execOp, go_sem, e1, c1]) rfl
    | 6, ho =>
      injection ho with ho
      subst ho
      have e1 : a.tmps[1]?.getD undef = .pointer (some ⟨w.heap.size, 0, none⟩) := slot_of (hfrm 1 (frm_of 1 (by kernel_rfl)))
      exact rel_val (by simp [execOp, go_sem, e1]) rfl
    | 7, ho =>
      injection ho with ho
      subst ho
      have e1 : a.tmps[13]?.getD undef = .pointer (some ⟨w.heap.size, 0, none⟩) := slot_of (hdep ⟨6, .data⟩ (by simp) (by kernel_rfl) 13 (by kernel_rfl))
      have c1 : V2.cell? ⟨w.heap.size, 0, none⟩ = some (.int .i64 n) := (HB2.out.grow hE).cell 0
      exact rel_val (by simp [execOp, go_sem, e1, c1]) rfl
    | 8, ho =>
      injection ho with ho
      subst ho
      have e1 : a.tmps[12]?.getD undef = .int .u16 (uv pad) := slot_of (hdep ⟨5, .data⟩ (by simp) (by kernel_rfl) 12 (by kernel_rfl))
      have e2 : a.tmps[14]?.getD undef = .int .i64 n := slot_of (hdep ⟨7, .data⟩ (by simp) (by kernel_rfl) 14 (by kernel_rfl))
      exact rel_call 89 [.tmp 12, .tmp 14] #[27, 3] rfl (by kernel_rfl) [.int .u16 (uv pad), .int .i64 n] (by simp [Act.eval, e1, e2]) (ret_list (valL_len _ _) (bits_any pad n hn.2 _))
    | 9, ho =>
      injection ho with ho
      subst ho
      have e1 : a.tmps[3]?.getD undef = .slice (some ⟨g2, 0, none⟩) n n := slot_of (hfrm 3 (frm_of 3 (by kernel_rfl)))
      exact rel_val (by simp [execOp, go_sem, e1]) rfl
    | 10, ho =>
      injection ho with ho
      subst ho
      obtain ⟨q1, e1', hL1⟩ := hdep ⟨8, .data⟩ (by simp) (by kernel_rfl) 15 (by kernel_rfl)
      have e1 := slot_of e1'
      have e2 : a.tmps[16]?.getD undef = .slice (some ⟨g2, 0, none⟩) n n := slot_of (hdep ⟨9, .data⟩ (by simp) (by kernel_rfl) 16 (by kernel_rfl))
      exact rel_call 88 [.tmp 15, .tmp 16] #[123, 56] rfl (by kernel_rfl) [.slice (some ⟨q1, 0, none⟩) n n, .slice (some ⟨g2, 0, none⟩) n n] (by simp [Act.eval, e1, e2]) (ret_list (valL_len _ _) (pick_any (fun i => pad.getLsbD i) I n hn.2 hil hlt q1 g2 n _ hL1 (HL2.out.grow hE)))
    | 11, ho =>
      injection ho with ho
      subst ho
      obtain ⟨q1, e1', hL1⟩ := hdep ⟨10, .data⟩ (by simp) (by kernel_rfl) 17 (by kernel_rfl)
      have e1 := slot_of e1'
      exact rel_call 87 [.tmp 17] #[123] rfl (by kernel_rfl) [.slice (some ⟨q1, 0, none⟩) n n] (by simp [Act.eval, e1]) (ret_val (Calls.ext_of_same (word_any (perF I pad) n hn.2 q1 _ hL1)))
    | 12, ho =>
      injection ho with ho
      subst ho
      have e1 : a.tmps[8]?.getD undef = .int .i64 n := slot_of (hdep ⟨1, .data⟩ (by simp) (by kernel_rfl) 8 (by kernel_rfl))
      have e2 : a.tmps[10]?.getD undef = .int .i64 (num I) := slot_of (hdep ⟨3, .data⟩ (by simp) (by kernel_rfl) 10 (by kernel_rfl))
      have e3 : a.tmps[18]?.getD undef = .int .u16 (uv (wordF n (perF I pad))) := slot_of (hdep ⟨11, .data⟩ (by simp) (by kernel_rfl) 18 (by kernel_rfl))
      exact rel_val (by simp [execOp, go_sem, e1, e2, e3]) rfl
    | k + 13, ho => exact absurd (List.getElem?_eq_some_iff.1 ho).1 (by simp)
  case last =>
    intro a V2 _ hdf hfrm hE0 hval
    have hE : Ext V V2 := Ext.trans ((Ext.refl V).drew) hE0
    have e1 : a.tmps[2]?.getD undef = .pointer (some ⟨w.heap.size + 1, 0, none⟩) := slot_of (hfrm 2 (frm_of 2 (by kernel_rfl)))
    have e2 : a.tmps[19]?.getD undef = .agg #[.int .i64 (n : Int), .int .i64 ((num I : Nat) : Int), .int .u16 (uv (wordF n (perF I pad)))] := slot_of (hval 12 19 (by simp) (by kernel_rfl))
    have hR := HR2.out.grow hE
    have r0 : V2.cell? ⟨w.heap.size + 1, 0, none⟩ = some (.int .i64 0) := hR.cell 0
    have r1 : V2.cell? ⟨w.heap.size + 1, 1, none⟩ = some (.int .i64 0) := hR.cell 1
    have r2 : V2.cell? ⟨w.heap.size + 1, 2, none⟩ = some (.int .u16 0) := hR.cell 2
    have hf := hR.frozen
    simp [Oper.wp, execOp, e1, e2, go_sem, r0, r1, r2, hf]
    clear hfrm hval
    go_wp2_with fail
    refine bodyPost_ret (results_cell_row rfl _ _ (w.heap.size + 1) 55 #[.int .i64 (n : Int), .int .i64 ((num I : Nat) : Int), .int .u16 (uv (wordF n (perF I pad)))] (0, 0) _ (by simpa using e1) (blk3 hR) Try.underlying55 rfl (by kernel_rfl)) hdf ⟨ret_of (by rw [invK, HII.out, perW, hil]), ?_⟩
    have hle : w.heap.size ≤ w.heap.size + 1 := by omega
    exact (((Ext.trans HE2.out hE).setCell hle _).setCell hle _).setCell hle _
set_option maxRecDepth 100000 in
set_option maxHeartbeats 2000000 in
theorem inverted_any (n p : Nat) (pad : BitVec 16) (hn : 1 ≤ n ∧ n ≤ 15) (hp : p < factN n) (w : World) : Calls Try.prog 79 #[(K.mk n p pad).val] w fun e w' => e = .returned (invK n p pad).val ∧ Ext w w' := by
  have hn2 : (n : Int) ≤ 15 := by omega
  go_enter Try.func79, Try.ntmps79
  go_wp2_with fail
  have HB := Lib.hid ((Blk.new w 55 #[.int .i64 (n : Int), .int .i64 (p : Int), .int .u16 (uv pad)]).alloc (.cells #[.int .i64 0, .int .i64 0, .int .u16 0] 55))
  have HR := Lib.hid (Blk.new' (w.alloc (.cells #[.int .i64 (n : Int), .int .i64 (p : Int), .int .u16 (uv pad)] 55)) 55 #[.int .i64 0, .int .i64 0, .int .u16 0] (w.heap.size + 1) (by simp))
  have HE := Lib.hid (((Ext.refl w).alloc (.cells #[.int .i64 (n : Int), .int .i64 (p : Int), .int .u16 (uv pad)] 55)).alloc (.cells #[.int .i64 0, .int .i64 0, .int .u16 0] 55))
  generalize (w.alloc (.cells #[.int .i64 (n : Int), .int .i64 (p : Int), .int .u16 (uv pad)] 55)).alloc (.cells #[.int .i64 0, .int .i64 0, .int .u16 0] 55) = W at *
  refine calls_lst (ordered_lst n p hn hp W) fun g1 c1 z1 hL1 => ?_
  go_wp2_with fail
  refine calls_list (back_any (ordN n p) n hn.2 (ordN_len n p) (ordN_perm hp) g1 c1 _ hL1) fun g2 z2 _ hB2 => ?_
  have hip := inv_perm (ordN_len n p) (ordN_perm hp)
  have hil : (inv (ordN n p)).length = n := by rw [inv_len, ordN_len]
  have hlt : ∀ x ∈ inv (ordN n p), x < n := fun x hx => List.mem_range.1 (hip.subset hx)
  have hL2 : Lst 3 (ext (ext W z1) z2) g2 n (intsV (inv (ordN n p))) := by
    have := Lst.of_blk hB2 (by rw [ints_len, hil]; unfold maxLen; omega)
    rwa [ints_len, hil] at this
  rw [ints_len, hil]
  have HL2 := Lib.hid hL2
  have HB2 := Lib.hid ((HB.out.ext z1).ext z2)
  have HR2 := Lib.hid ((HR.out.ext z1).ext z2)
  have HE2 := Lib.hid ((HE.out.ext z1).ext z2)
  clear hL1 hB2 hL2 HB HR HE
  generalize ext (ext W z1) z2 = V at *
  generalize hII : inv (ordN n p) = I at *
  have HII := Lib.hid hII
  clear hII
  go_wp2_with fail
  refine wp_region_rel' 9 _ rfl (Vof [isV (.pointer (some ⟨w.heap.size, 0, none⟩)), isV (.int .i64 n), isV (.slice (some ⟨g2, 0, none⟩) n n), isV (.int .i64 (num I)), isV (.slice (some ⟨g2, 0, none⟩) n n), isV (.pointer (some ⟨w.heap.size, 2, none⟩)), isV (.int .u16 (uv pad)), isV (.int .u16 (uv (wordF n (perF I pad)))), isV (.agg #[.int .i64 (n : Int), .int .i64 ((num I : Nat) : Int), .int .u16 (uv (wordF n (perF I pad)))])]) (by kernel_rfl) (by kernel_rfl) (Vof_mono (by simp [isV_mono])) ?op ?last
  case op =>
    intro i o ho a V2 _ _ hfrm hE0 hdep
    have hE : Ext V V2 := Ext.trans ((Ext.refl V).drew) hE0
    match i, ho with
    | 0, ho =>
      injection ho with ho
      subst ho
      have e1 : a.tmps[1]?.getD undef = .pointer (some ⟨w.heap.size, 0, none⟩) := slot_of (hfrm 1 (frm_of 1 (by kernel_rfl)))
      exact rel_val (by simp [execOp, go_sem, e1]) rfl
    | 1, ho =>
      injection ho with ho
      subst ho
      have e1 : a.tmps[10]?.getD undef = .pointer (some ⟨w.heap.size, 0, none⟩) := slot_of (hdep ⟨0, .data⟩ (by simp) (by kernel_rfl) 10 (by kernel_rfl))
      have c1 : V2.cell? ⟨w.heap.size, 0, none⟩ = some (.int .i64 n) := (HB2.out.grow hE).cell 0
      exact rel_val (by simp [execOp, go_sem, e1, c1]) rfl
    | 2, ho =>
      injection ho with ho
      subst ho
      have e1 : a.tmps[3]?.getD undef = .slice (some ⟨g2, 0, none⟩) n n := slot_of (hfrm 3 (frm_of 3 (by kernel_rfl)))
      exact rel_val (by simp [execOp, go_sem, e1]) rfl
    | 3, ho =>
      injection ho with ho
      subst ho
      have e1 : a.tmps[12]?.getD undef = .slice (some ⟨g2, 0, none⟩) n n := slot_of (hdep ⟨2, .data⟩ (by simp) (by kernel_rfl) 12 (by kernel_rfl))
      exact rel_call 98 [.tmp 12] #[56] rfl (by kernel_rfl) [.slice (some ⟨g2, 0, none⟩) n n] (by simp [Act.eval, e1]) (ret_val (refNumber_any I n hn.2 hil hlt g2 n _ (HL2.out.grow hE)))
    | 4, ho =>
      injection ho with ho
      subst ho
      have e1 : a.tmps[3]?.getD undef = .slice (some ⟨g2, 0, none⟩) n n := slot_of (hfrm 3 (frm_of 3 (by kernel_rfl)))
      exact rel_val (by simp [execOp, go_sem, e1]) rfl
    | 5, ho =>
      injection ho with ho
      subst ho
      have e1 : a.tmps[1]?.getD undef = .pointer (some ⟨w.heap.size, 0, none⟩) := slot_of (hfrm 1 (frm_of 1 (by kernel_rfl)))
      exact rel_val (by simp [execOp, go_sem, e1]) rfl
    | 6, ho =>
      injection ho with ho
      subst ho
      have e1 : a.tmps[15]?.getD undef = .pointer (some ⟨w.heap.size, 2, none⟩) := slot_of (hdep ⟨5, .data⟩ (by simp) (by kernel_rfl) 15 (by kernel_rfl))
      have c1 : V2.cell? ⟨w.heap.size, 2, none⟩ = some (.int .u16 (uv pad)) := (HB2.out.grow hE).cell 2
      exact rel_val (by simp [execOp, go_sem, e1, c1]) rfl
    | 7, ho =>
      injection ho with ho
      subst ho
      have e1 : a.tmps[14]?.getD undef = .slice (some ⟨g2, 0, none⟩) n n := slot_of (hdep ⟨4, .data⟩ (by simp) (by kernel_rfl) 14 (by kernel_rfl))
      have e2 : a.tmps[16]?.getD undef = .int .u16 (uv pad) := slot_of (hdep ⟨6, .data⟩ (by simp) (by kernel_rfl) 16 (by kernel_rfl))
      exact rel_call 90 [.tmp 14, .tmp 16] #[56, 27] rfl (by kernel_rfl) [.slice (some ⟨g2, 0, none⟩) n n, .int .u16 (uv pad)] (by simp [Act.eval, e1, e2]) (ret_val (Calls.ext_of_same (permuted_any pad I n hn.2 hil hlt g2 n _ (HL2.out.grow hE))))
    | 8, ho =>
      injection ho with ho
      subst ho
      have e1 : a.tmps[11]?.getD undef = .int .i64 n := slot_of (hdep ⟨1, .data⟩ (by simp) (by kernel_rfl) 11 (by kernel_rfl))
      have e2 : a.tmps[13]?.getD undef = .int .i64 (num I) := slot_of (hdep ⟨3, .data⟩ (by simp) (by kernel_rfl) 13 (by kernel_rfl))
      have e3 : a.tmps[17]?.getD undef = .int .u16 (uv (wordF n (perF I pad))) := slot_of (hdep ⟨7, .data⟩ (by simp) (by kernel_rfl) 17 (by kernel_rfl))
      exact rel_val (by simp [execOp, go_sem, e1, e2, e3]) rfl
    | k + 9, ho => exact absurd (List.getElem?_eq_some_iff.1 ho).1 (by simp)
  case last =>
    intro a V2 _ hdf hfrm hE0 hval
    have hE : Ext V V2 := Ext.trans ((Ext.refl V).drew) hE0
    have e1 : a.tmps[2]?.getD undef = .pointer (some ⟨w.heap.size + 1, 0, none⟩) := slot_of (hfrm 2 (frm_of 2 (by kernel_rfl)))
    have e2 : a.tmps[18]?.getD undef = .agg #[.int .i64 (n : Int), .int .i64 ((num I : Nat) : Int), .int .u16 (uv (wordF n (perF I pad)))] := slot_of (hval 8 18 (by simp) (by kernel_rfl))
    have hR := HR2.out.grow hE
    have r0 : V2.cell? ⟨w.heap.size + 1, 0, none⟩ = some (.int .i64 0) := hR.cell 0
    have r1 : V2.cell? ⟨w.heap.size + 1, 1, none⟩ = some (.int .i64 0) := hR.cell 1
    have r2 : V2.cell? ⟨w.heap.size + 1, 2, none⟩ = some (.int .u16 0) := hR.cell 2
    have hf := hR.frozen
    simp [Oper.wp, execOp, e1, e2, go_sem, r0, r1, r2, hf]
    clear hfrm hval
    go_wp2_with fail
    refine bodyPost_ret (results_cell_row rfl _ _ (w.heap.size + 1) 55 #[.int .i64 (n : Int), .int .i64 ((num I : Nat) : Int), .int .u16 (uv (wordF n (perF I pad)))] (0, 0) _ (by simpa using e1) (blk3 hR) Try.underlying55 rfl (by kernel_rfl)) hdf ⟨ret_of (by rw [invK, HII.out, perW, hil]), ?_⟩
    have hle : w.heap.size ≤ w.heap.size + 1 := by omega
    exact (((Ext.trans HE2.out hE).setCell hle _).setCell hle _).setCell hle _
set_option maxRecDepth 100000 in
set_option maxHeartbeats 2000000 in
theorem compose_any (n p : Nat) (pad : BitVec 16) (p' : Nat) (pad' : BitVec 16) (hn : 1 ≤ n ∧ n ≤ 15) (hp : p < factN n) (hp' : p' < factN n) (w : World) : Calls Try.prog 76 #[(K.mk n p pad).val, (K.mk n p' pad').val] w fun e w' => e = .returned (comK n p pad p' pad').val ∧ Ext w w' := by
  have hn2 : (n : Int) ≤ 15 := by omega
  go_enter Try.func76, Try.ntmps76
  go_wp2_with fail
  have HB2 := Lib.hid (((Blk.new w 55 #[.int .i64 (n : Int), .int .i64 (p : Int), .int .u16 (uv pad)]).alloc (.cells #[.int .i64 (n : Int), .int .i64 (p' : Int), .int .u16 (uv pad')] 55)).alloc (.cells #[.int .i64 0, .int .i64 0, .int .u16 0] 55))
  have HC2 := Lib.hid ((Blk.new' (w.alloc (.cells #[.int .i64 (n : Int), .int .i64 (p : Int), .int .u16 (uv pad)] 55)) 55 #[.int .i64 (n : Int), .int .i64 (p' : Int), .int .u16 (uv pad')] (w.heap.size + 1) (by simp)).alloc (.cells #[.int .i64 0, .int .i64 0, .int .u16 0] 55))
  have HR2 := Lib.hid (Blk.new' ((w.alloc (.cells #[.int .i64 (n : Int), .int .i64 (p : Int), .int .u16 (uv pad)] 55)).alloc (.cells #[.int .i64 (n : Int), .int .i64 (p' : Int), .int .u16 (uv pad')] 55)) 55 #[.int .i64 0, .int .i64 0, .int .u16 0] (w.heap.size + 1 + 1) (by simp))
  have HE2 := Lib.hid ((((Ext.refl w).alloc (.cells #[.int .i64 (n : Int), .int .i64 (p : Int), .int .u16 (uv pad)] 55)).alloc (.cells #[.int .i64 (n : Int), .int .i64 (p' : Int), .int .u16 (uv pad')] 55)).alloc (.cells #[.int .i64 0, .int .i64 0, .int .u16 0] 55))
  generalize ((w.alloc (.cells #[.int .i64 (n : Int), .int .i64 (p : Int), .int .u16 (uv pad)] 55)).alloc (.cells #[.int .i64 (n : Int), .int .i64 (p' : Int), .int .u16 (uv pad')] 55)).alloc (.cells #[.int .i64 0, .int .i64 0, .int .u16 0] 55) = V at *
  have hcp := compL_perm (ordN_perm hp) (ordN_perm hp')
  have hcl : (compL (ordN n p) (ordN n p')).length = n := by rw [compL_len, ordN_len]
  have hlt : ∀ x ∈ compL (ordN n p) (ordN n p'), x < n := fun x hx => List.mem_range.1 (hcp.subset hx)
  refine wp_region_rel' 13 _ rfl (Vof [isV (.pointer (some ⟨w.heap.size, 0, none⟩)), isV (.int .i64 n), isV (.agg #[.int .i64 n, .int .i64 p, .int .u16 (uv pad)]), isN n (intsV (ordN n p)), isV (.agg #[.int .i64 n, .int .i64 p', .int .u16 (uv pad')]), isN n (intsV (ordN n p')), isL 3 n (intsV (compL (ordN n p) (ordN n p'))), isV (.int .i64 (num (compL (ordN n p) (ordN n p')))), isV (.agg #[.int .i64 n, .int .i64 p', .int .u16 (uv pad')]), isV (.pointer (some ⟨w.heap.size, 2, none⟩)), isV (.int .u16 (uv pad)), isV (.int .u16 (uv (hidW n p' pad' pad))), isV (.agg #[.int .i64 (n : Int), .int .i64 ((num (compL (ordN n p) (ordN n p')) : Nat) : Int), .int .u16 (uv (hidW n p' pad' pad))])]) (by kernel_rfl) (by kernel_rfl) (Vof_mono (by simp [isV_mono, isL_mono, isN_mono])) ?op ?last
  case op =>
    intro i o ho a V2 _ _ hfrm hE0 hdep
    have hE : Ext V V2 := Ext.trans ((Ext.refl V).drew) hE0
    match i, ho with
    | 0, ho =>
      injection ho with ho
      subst ho
      have e1 : a.tmps[2]?.getD undef = .pointer (some ⟨w.heap.size, 0, none⟩) := slot_of (hfrm 2 (frm_of 2 (by kernel_rfl)))
      exact rel_val (by simp [execOp, go_sem, e1]) rfl
    | 1, ho =>
      injection ho with ho
      subst ho
      have e1 : a.tmps[5]?.getD undef = .pointer (some ⟨w.heap.size, 0, none⟩) := slot_of (hdep ⟨0, .data⟩ (by simp) (by kernel_rfl) 5 (by kernel_rfl))
      have c1 : V2.cell? ⟨w.heap.size, 0, none⟩ = some (.int .i64 n) := (HB2.out.grow hE).cell 0
      exact rel_val (by simp [execOp, go_sem, e1, c1]) rfl
    | 2, ho =>
      injection ho with ho
      subst ho
      have e1 : a.tmps[2]?.getD undef = .pointer (some ⟨w.heap.size, 0, none⟩) := slot_of (hfrm 2 (frm_of 2 (by kernel_rfl)))
      have c1 : V2.cell? ⟨w.heap.size, 0, none⟩ = some (.int .i64 n) := (HB2.out.grow hE).cell 0
      have c2 : V2.cell? ⟨w.heap.size, 1, none⟩ = some (.int .i64 p) := (HB2.out.grow hE).cell 1
      have c3 : V2.cell? ⟨w.heap.size, 2, none⟩ = some (.int .u16 (uv pad)) := (HB2.out.grow hE).cell 2
      exact rel_val (by simp [execOp, go_sem, e1, c1, c2, c3]) rfl
    | 3, ho =>
      injection ho with ho
      subst ho
      have e1 : a.tmps[7]?.getD undef = .agg #[.int .i64 n, .int .i64 p, .int .u16 (uv pad)] := slot_of (hdep ⟨2, .data⟩ (by simp) (by kernel_rfl) 7 (by kernel_rfl))
      exact rel_call 69 [.tmp 7] #[55] rfl (by kernel_rfl) [.agg #[.int .i64 n, .int .i64 p, .int .u16 (uv pad)]] (by simp [Act.eval, e1]) (ret_lst (order_lst n p pad hn hp _))
    | 4, ho =>
      injection ho with ho
      subst ho
      have e1 : a.tmps[3]?.getD undef = .pointer (some ⟨w.heap.size + 1, 0, none⟩) := slot_of (hfrm 3 (frm_of 3 (by kernel_rfl)))
      have c1 : V2.cell? ⟨w.heap.size + 1, 0, none⟩ = some (.int .i64 n) := (HC2.out.grow hE).cell 0
      have c2 : V2.cell? ⟨w.heap.size + 1, 1, none⟩ = some (.int .i64 p') := (HC2.out.grow hE).cell 1
      have c3 : V2.cell? ⟨w.heap.size + 1, 2, none⟩ = some (.int .u16 (uv pad')) := (HC2.out.grow hE).cell 2
      exact rel_val (by simp [execOp, go_sem, e1, c1, c2, c3]) rfl
    | 5, ho =>
      injection ho with ho
      subst ho
      have e1 : a.tmps[9]?.getD undef = .agg #[.int .i64 n, .int .i64 p', .int .u16 (uv pad')] := slot_of (hdep ⟨4, .data⟩ (by simp) (by kernel_rfl) 9 (by kernel_rfl))
      exact rel_call 69 [.tmp 9] #[55] rfl (by kernel_rfl) [.agg #[.int .i64 n, .int .i64 p', .int .u16 (uv pad')]] (by simp [Act.eval, e1]) (ret_lst (order_lst n p' pad' hn hp' _))
    | 6, ho =>
      injection ho with ho
      subst ho
      obtain ⟨q1, r1, e1', hL1⟩ := hdep ⟨3, .data⟩ (by simp) (by kernel_rfl) 8 (by kernel_rfl)
      have e1 := slot_of e1'
      obtain ⟨q2, r2, e2', hL2⟩ := hdep ⟨5, .data⟩ (by simp) (by kernel_rfl) 10 (by kernel_rfl)
      have e2 := slot_of e2'
      exact rel_call 97 [.tmp 8, .tmp 10] #[56, 56] rfl (by kernel_rfl) [.slice (some ⟨q1, 0, none⟩) n r1, .slice (some ⟨q2, 0, none⟩) n r2] (by simp [Act.eval, e1, e2]) (ret_list (by rw [ints_len, hcl]) (compL_val (ordN n p) (ordN n p') n (ordN_len n p') ▸ pickI_any (ordN n p) (ordN n p') n r1 hn.2 (ordN_len n p) (ordN_len n p') (ordN_lt hp') q1 q2 r2 _ hL1 hL2))
    | 7, ho =>
      injection ho with ho
      subst ho
      obtain ⟨q1, e1', hL1⟩ := hdep ⟨6, .data⟩ (by simp) (by kernel_rfl) 11 (by kernel_rfl)
      have e1 := slot_of e1'
      have hL1' := Lst.of_blk hL1 (by rw [ints_len, hcl]; unfold maxLen; omega)
      rw [ints_len, hcl] at hL1'
      exact rel_call 95 [.tmp 11] #[56] rfl (by kernel_rfl) [.slice (some ⟨q1, 0, none⟩) n n] (by simp [Act.eval, e1]) (ret_val (Calls.ext_of_same (number_any (compL (ordN n p) (ordN n p')) n hn.2 hcl hlt q1 n _ hL1')))
    | 8, ho =>
      injection ho with ho
      subst ho
      have e1 : a.tmps[3]?.getD undef = .pointer (some ⟨w.heap.size + 1, 0, none⟩) := slot_of (hfrm 3 (frm_of 3 (by kernel_rfl)))
      have c1 : V2.cell? ⟨w.heap.size + 1, 0, none⟩ = some (.int .i64 n) := (HC2.out.grow hE).cell 0
      have c2 : V2.cell? ⟨w.heap.size + 1, 1, none⟩ = some (.int .i64 p') := (HC2.out.grow hE).cell 1
      have c3 : V2.cell? ⟨w.heap.size + 1, 2, none⟩ = some (.int .u16 (uv pad')) := (HC2.out.grow hE).cell 2
      exact rel_val (by simp [execOp, go_sem, e1, c1, c2, c3]) rfl
    | 9, ho =>
      injection ho with ho
      subst ho
      have e1 : a.tmps[2]?.getD undef = .pointer (some ⟨w.heap.size, 0, none⟩) := slot_of (hfrm 2 (frm_of 2 (by kernel_rfl)))
      exact rel_val (by simp [execOp, go_sem, e1]) rfl
    | 10, ho =>
      injection ho with ho
      subst ho
      have e1 : a.tmps[14]?.getD undef = .pointer (some ⟨w.heap.size, 2, none⟩) := slot_of (hdep ⟨9, .data⟩ (by simp) (by kernel_rfl) 14 (by kernel_rfl))
      have c1 : V2.cell? ⟨w.heap.size, 2, none⟩ = some (.int .u16 (uv pad)) := (HB2.out.grow hE).cell 2
      exact rel_val (by simp [execOp, go_sem, e1, c1]) rfl
    | 11, ho =>
      injection ho with ho
      subst ho
      have e1 : a.tmps[13]?.getD undef = .agg #[.int .i64 n, .int .i64 p', .int .u16 (uv pad')] := slot_of (hdep ⟨8, .data⟩ (by simp) (by kernel_rfl) 13 (by kernel_rfl))
      have e2 : a.tmps[15]?.getD undef = .int .u16 (uv pad) := slot_of (hdep ⟨10, .data⟩ (by simp) (by kernel_rfl) 15 (by kernel_rfl))
      exact rel_call 55 [.tmp 13, .tmp 15] #[55, 27] rfl (by kernel_rfl) [.agg #[.int .i64 n, .int .i64 p', .int .u16 (uv pad')], .int .u16 (uv pad)] (by simp [Act.eval, e1, e2]) (ret_val (hide_any n p' pad' pad hn hp' _))
    | 12, ho =>
      injection ho with ho
      subst ho
      have e1 : a.tmps[6]?.getD undef = .int .i64 n := slot_of (hdep ⟨1, .data⟩ (by simp) (by kernel_rfl) 6 (by kernel_rfl))
      have e2 : a.tmps[12]?.getD undef = .int .i64 (num (compL (ordN n p) (ordN n p'))) := slot_of (hdep ⟨7, .data⟩ (by simp) (by kernel_rfl) 12 (by kernel_rfl))
      have e3 : a.tmps[16]?.getD undef = (.int .u16 (uv (hidW n p' pad' pad))) := slot_of (hdep ⟨11, .data⟩ (by simp) (by kernel_rfl) 16 (by kernel_rfl))
      exact rel_val (by simp [execOp, go_sem, e1, e2, e3]) rfl
    | k + 13, ho => exact absurd (List.getElem?_eq_some_iff.1 ho).1 (by simp)
  case last =>
    intro a V2 _ hdf hfrm hE0 hval
    have hE : Ext V V2 := Ext.trans ((Ext.refl V).drew) hE0
    have e1 : a.tmps[4]?.getD undef = .pointer (some ⟨w.heap.size + 1 + 1, 0, none⟩) := slot_of (hfrm 4 (frm_of 4 (by kernel_rfl)))
    have e2 : a.tmps[17]?.getD undef = .agg #[.int .i64 (n : Int), .int .i64 ((num (compL (ordN n p) (ordN n p')) : Nat) : Int), .int .u16 (uv (hidW n p' pad' pad))] := slot_of (hval 12 17 (by simp) (by kernel_rfl))
    have hR := HR2.out.grow hE
    have r0 : V2.cell? ⟨w.heap.size + 1 + 1, 0, none⟩ = some (.int .i64 0) := hR.cell 0
    have r1 : V2.cell? ⟨w.heap.size + 1 + 1, 1, none⟩ = some (.int .i64 0) := hR.cell 1
    have r2 : V2.cell? ⟨w.heap.size + 1 + 1, 2, none⟩ = some (.int .u16 0) := hR.cell 2
    have hf := hR.frozen
    simp [Oper.wp, execOp, e1, e2, go_sem, r0, r1, r2, hf]
    clear hfrm hval
    go_wp2_with fail
    refine bodyPost_ret (results_cell_row rfl _ _ (w.heap.size + 1 + 1) 55 #[.int .i64 (n : Int), .int .i64 ((num (compL (ordN n p) (ordN n p')) : Nat) : Int), .int .u16 (uv (hidW n p' pad' pad))] (0, 0) _ (by simpa using e1) (blk3 hR) Try.underlying55 rfl (by kernel_rfl)) hdf ⟨ret_of (rfl), ?_⟩
    have hle : w.heap.size ≤ w.heap.size + 1 + 1 := by omega
    exact (((Ext.trans HE2.out hE).setCell hle _).setCell hle _).setCell hle _
end Go.Proofs.Ytfdcapblgdlkaaa
