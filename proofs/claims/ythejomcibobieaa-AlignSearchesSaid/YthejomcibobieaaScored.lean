/- The reference's score (Scored, 55). -/
import Derived.Test.YthejomcibobieaaMatched
import Derived.Test.YthejomcibobieaaAlike
import Derived.Test.YthejomcibobieaaSlices
import Derived.Test.YthejomcibobieaaPart
namespace Go.Proofs.Ythejomcibobieaa
open Go.RowKit

def mayL (c : Cl) (lp lq : List Mi) (v : Mv) (b : Nat → Int) (pi j : Nat) : Bool := match lp[pi]?, lq[j]? with | some m, some o => alikeB c m o v b | _, _ => false
def rowV (n g : Nat) : Value := .slice (some ⟨g, 0, none⟩) n n
def partB (f : Nat → Bool) (k : Nat) : Nat → Bool := fun j => decide (j < k) && f j
theorem partB_zero (f : Nat → Bool) : partB f 0 = fun _ => false := by funext j; simp [partB]
theorem partB_all (f : Nat → Bool) (n : Nat) : bl (partB f n) n = bl f n := by
  apply Array.ext_getElem?
  intro j
  rcases Nat.lt_or_ge j n with h | h
  · rw [bl_at _ h, bl_at _ h]; simp [partB, h]
  · rw [Array.getElem?_eq_none (by simpa [bl] using h), Array.getElem?_eq_none (by simpa [bl] using h)]
theorem partB_set (f : Nat → Bool) (n k : Nat) : (bl (partB f k) n).setIfInBounds k (.bool (f k)) = bl (partB f (k + 1)) n := by
  rw [bl_set]
  congr 1
  funext j
  unfold upd partB
  by_cases e : j = k
  · subst e; rw [if_pos rfl]; simp
  · rw [if_neg e]
    by_cases h : j < k
    · rw [decide_eq_true h, decide_eq_true (by omega : j < k + 1)]
    · rw [decide_eq_false h, decide_eq_false (by omega)]
theorem row_of {gr n k : Nat} {f : Nat → Bool} {w w' : World} {v1 : Value} (hE : RT gr 4 (bl (partB f (k + 1)) n) w w') (hB : Blk w gr 4 (bl (partB f k) n)) (hs : isS gr 4 (bl (partB f (k + 1)) n) k 1 v1 w') : Blk w' gr 4 (bl (partB f (k + 1)) n) := by
  obtain ⟨c1, h1, h2, h3⟩ := hE.part _ hB (by simp [bl])
  obtain ⟨c2, g1, g2, g3⟩ := hs
  have e : c1 = c2 := by unfold Blk at h1 g1; rw [h1] at g1; injection g1 with g1; injection g1
  subst e
  have e2 : c1 = bl (partB f (k + 1)) n := by
    apply Array.ext_getElem?
    intro j
    by_cases e : j = k
    · subst e; exact g3 j (Nat.le_refl _) (by omega)
    · rcases h3 j with h | h
      · rw [h]
        rcases Nat.lt_or_ge j n with hj | hj
        · rw [bl_at _ hj, bl_at _ hj]
          have : partB f k j = partB f (k + 1) j := by
            unfold partB
            by_cases hk : j < k
            · rw [decide_eq_true hk, decide_eq_true (by omega : j < k + 1)]
            · rw [decide_eq_false hk, decide_eq_false (by omega : ¬ j < k + 1)]
          rw [this]
        · rw [Array.getElem?_eq_none (by simpa [bl] using hj), Array.getElem?_eq_none (by simpa [bl] using hj)]
      · exact h
  rw [← e2]; exact h1
theorem infoR : ElemInfo Try.prog 121 122 1 24 := elemInfo (z := .slice none 0 0) Try.underlying121 (by kernel_rfl) rfl (by decide)
set_option maxRecDepth 100000 in
set_option maxHeartbeats 8000000 in
theorem scored_any (c : Cl) (lp lq : List Mi) (v : Mv) (b : Nat → Int) (hp : ∀ m ∈ lp, m.ok) (hq : ∀ m ∈ lq, m.ok) (ht : -3 ≤ v.turn ∧ v.turn ≤ 3) (hdx : -4 ≤ v.dx ∧ v.dx ≤ 4) (hdy : -4 ≤ v.dy ∧ v.dy ≤ 4) (hb : ∀ pi, pi < 4 → -1 ≤ b pi ∧ b pi ≤ 1) (hnp : lp.length ≤ 100) (hnq : lq.length ≤ 100) (Ap Aq : Option Addr) (cp cq : Nat) (w : World) (hP : Pts w Ap lp) (hQ : Pts w Aq lq) :
    Calls Try.prog 55 #[.slice Ap lp.length cp, .slice Aq lq.length cq, c.val, v.val, bendV b] w fun e w' => e = .returned (.int .i64 (mmk (nbF lq.length (mayL c lp lq v b)) lp.length [])) ∧ Ext w w' := by
  have HP := Lib.hid hP
  have HQ := Lib.hid hQ
  have HAl := Lib.hid (fun m o (hm : Mi.ok m) (ho : Mi.ok o) w => alike_any c m o v b hm ho ht hdx hdy hb w)
  clear hP hQ
  go_enter Try.func55, Try.ntmps55
  go_wp2_with fail
  have HCl := Lib.hid (((Blk.new w 38 #[.int .i64 c.turns, .int .i64 c.shift, .int .i64 c.elastic, .int .i64 c.reach, .int .i64 c.spread]).alloc (.cells #[.int .i64 v.turn, .int .i64 v.dx, .int .i64 v.dy] 26)).alloc (.cells #[.int .i64 (b 0), .int .i64 (b 1), .int .i64 (b 2), .int .i64 (b 3)] 28))
  have HMv := Lib.hid ((Blk.new' (w.alloc (.cells #[.int .i64 c.turns, .int .i64 c.shift, .int .i64 c.elastic, .int .i64 c.reach, .int .i64 c.spread] 38)) 26 #[.int .i64 v.turn, .int .i64 v.dx, .int .i64 v.dy] (w.heap.size + 1) (by simp)).alloc (.cells #[.int .i64 (b 0), .int .i64 (b 1), .int .i64 (b 2), .int .i64 (b 3)] 28))
  have HBe := Lib.hid (Blk.new' ((w.alloc (.cells #[.int .i64 c.turns, .int .i64 c.shift, .int .i64 c.elastic, .int .i64 c.reach, .int .i64 c.spread] 38)).alloc (.cells #[.int .i64 v.turn, .int .i64 v.dx, .int .i64 v.dy] 26)) 28 #[.int .i64 (b 0), .int .i64 (b 1), .int .i64 (b 2), .int .i64 (b 3)] (w.heap.size + 1 + 1) (by simp))
  have HE := Lib.hid ((((Ext.refl w).alloc (.cells #[.int .i64 c.turns, .int .i64 c.shift, .int .i64 c.elastic, .int .i64 c.reach, .int .i64 c.spread] 38)).alloc (.cells #[.int .i64 v.turn, .int .i64 v.dx, .int .i64 v.dy] 26)).alloc (.cells #[.int .i64 (b 0), .int .i64 (b 1), .int .i64 (b 2), .int .i64 (b 3)] 28))
  generalize ((w.alloc (.cells #[.int .i64 c.turns, .int .i64 c.shift, .int .i64 c.elastic, .int .i64 c.reach, .int .i64 c.spread] 38)).alloc (.cells #[.int .i64 v.turn, .int .i64 v.dx, .int .i64 v.dy] 26)).alloc (.cells #[.int .i64 (b 0), .int .i64 (b 1), .int .i64 (b 2), .int .i64 (b 3)] 28) = V at *
  go_loopw [11, 12, 13, 14] (fun vs t _ _ wr => ∃ (pi : Nat) (gs : List Nat) (uv : Value), uv = vs ∧ pi ≤ lp.length ∧ t = .int .i64 pi ∧ gs.length = pi ∧ wr.ownsRow V.heap.size 122 1 vs pi (gs.map (rowV lq.length)) ∧ (∀ x g, gs[x]? = some g → V.heap.size ≤ g ∧ Blk wr g 4 (bl (mayL c lp lq v b x) lq.length) ∧ vs.ownBlock ≠ some g) ∧ Ext V wr) (fun _ t _ _ _ => lp.length - (intOf t).toNat)
  case atStart => exact ⟨0, [], _, rfl, Nat.zero_le _, rfl, rfl, own_nil _ _ _ _, fun x g h => by simp at h, Ext.refl _⟩
  case round =>
    obtain ⟨pi, gs, uv, rfl, hi, rfl, hgl, hown, hrows, hE⟩ := hrel
    have HOwn := Lib.hid hown
    have HRows := Lib.hid hrows
    have HEV := Lib.hid hE
    clear hown hrows hE
    by_cases hin : pi < lp.length
    · have hii : (pi : Int) < lp.length := by omega
      go_wp2_with (at_make; refine wpList_make_blk _ rfl (.tmp 22) (.tmp 22) 122 rfl 4 (.bool false) zInfoB lq.length (by omega) rfl rfl ?_; intro z1 hB1; have o1 := Old.mk hB1.lt)
      have HR0 := Lib.hid (show Blk (ext wr z1) wr.heap.size 4 (bl (partB (mayL c lp lq v b pi) 0) lq.length) from by rw [partB_zero, ← seen_none]; exact hB1)
      have hgr : V.heap.size ≤ wr.heap.size := HEV.out.size
      have HE1 := Lib.hid (Ext.ext (Ext.refl wr) z1)
      clear hB1 o1
      generalize ext wr z1 = W1 at *
      obtain ⟨W0, hW0⟩ : ∃ W0, W0 = wr := ⟨_, rfl⟩
      subst hW0
      obtain ⟨gr, hgre⟩ : ∃ gr, gr = W0.heap.size := ⟨_, rfl⟩
      rw [← hgre] at HR0 hgr ⊢
      have HGR := Lib.hid hgre
      clear hgre
      go_loopw [14] (fun t w2 => ∃ k : Nat, k ≤ lq.length ∧ t = .int .i64 k ∧ Blk w2 gr 4 (bl (partB (mayL c lp lq v b pi) k) lq.length) ∧ Ext W0 w2) (fun t _ => lq.length - (intOf t).toNat)
      case atStart => exact ⟨0, Nat.zero_le _, rfl, HR0.out, HE1.out⟩
      case round =>
        clear HR0 HE1
        obtain ⟨k, hk, rfl, hrow, hE2⟩ := hrel
        have HRow := Lib.hid hrow
        have HE2 := Lib.hid hE2
        clear hrow hE2
        by_cases hkn : k < lq.length
        · have hki : (k : Int) < lq.length := by omega
          go_wp2_with fail
          obtain ⟨m, hm⟩ : ∃ m, lp[pi]? = some m := ⟨_, List.getElem?_eq_getElem hin⟩
          obtain ⟨mo, ho⟩ : ∃ o, lq[k]? = some o := ⟨_, List.getElem?_eq_getElem hkn⟩
          have hwV : Ext w wr := (HE.out.trans HEV.out).trans HE2.out
          have pP := HP.out
          have pQ := HQ.out
          rcases pP with rfl | ⟨bp, op, rfl, hbp, hcp⟩
          · simp at hin
          rcases pQ with rfl | ⟨bq, oq, rfl, hbq, hcq⟩
          · simp at hkn
          obtain ⟨p0, p1, p2, p3⟩ := hcp pi m hm
          obtain ⟨q0, q1, q2, q3⟩ := hcq k mo ho
          have hpc0 : ∀ V2, Ext w V2 → V2.cell? ⟨bp, op + pi * 4, none⟩ = some (.int .i64 m.x) := fun V2 h => by rw [h.cell (by exact hbp)]; exact p0
          have hpc1 : ∀ V2, Ext w V2 → V2.cell? ⟨bp, op + pi * 4 + 1, none⟩ = some (.int .i64 m.y) := fun V2 h => by rw [h.cell (by exact hbp)]; exact p1
          have hpc2 : ∀ V2, Ext w V2 → V2.cell? ⟨bp, op + pi * 4 + 2, none⟩ = some (.int .u8 m.kind) := fun V2 h => by rw [h.cell (by exact hbp)]; exact p2
          have hpc3 : ∀ V2, Ext w V2 → V2.cell? ⟨bp, op + pi * 4 + 3, none⟩ = some (.int .u8 m.dir) := fun V2 h => by rw [h.cell (by exact hbp)]; exact p3
          have hqc0 : ∀ V2, Ext w V2 → V2.cell? ⟨bq, oq + k * 4, none⟩ = some (.int .i64 mo.x) := fun V2 h => by rw [h.cell (by exact hbq)]; exact q0
          have hqc1 : ∀ V2, Ext w V2 → V2.cell? ⟨bq, oq + k * 4 + 1, none⟩ = some (.int .i64 mo.y) := fun V2 h => by rw [h.cell (by exact hbq)]; exact q1
          have hqc2 : ∀ V2, Ext w V2 → V2.cell? ⟨bq, oq + k * 4 + 2, none⟩ = some (.int .u8 mo.kind) := fun V2 h => by rw [h.cell (by exact hbq)]; exact q2
          have hqc3 : ∀ V2, Ext w V2 → V2.cell? ⟨bq, oq + k * 4 + 3, none⟩ = some (.int .u8 mo.dir) := fun V2 h => by rw [h.cell (by exact hbq)]; exact q3
          have HAm := Lib.hid (HAl.out m mo (hp m (List.mem_of_getElem? hm)) (hq mo (List.mem_of_getElem? ho)))
          have hVr : Ext V wr := HEV.out.trans HE2.out
          have HCr := Lib.hid (HCl.out.grow hVr)
          have HMr := Lib.hid (HMv.out.grow hVr)
          have HBr := Lib.hid (HBe.out.grow hVr)
          have HMay := Lib.hid (show mayL c lp lq v b pi k = alikeB c m mo v b from by unfold mayL; rw [hm, ho])
          have hwg0 : w.heap.size + 1 + 1 < gr := Nat.lt_of_lt_of_le HBe.out.lt hgr
          have hwg : w.heap.size ≤ gr := by omega
          have hwg2 : w.heap.size + 1 + 1 < gr := Nat.lt_of_lt_of_le HBe.out.lt hgr
          clear p0 p1 p2 p3 q0 q1 q2 q3 hcp hcq HP HQ hVr
          refine wp_region_rel1 (R := RT (gr) 4 (bl (partB (mayL c lp lq v b pi) (k + 1)) lq.length)) (Vof [isV (.slice (some ⟨gr, 0, none⟩) lq.length lq.length), isV (.int .i64 (k : Int)), isV (c.val), isV (.slice (some ⟨bp, op, none⟩) lp.length cp), isV (.int .i64 (pi : Int)), isV (.pointer (some ⟨bp, op + pi * 4, none⟩)), isV (m.val), isV (.slice (some ⟨bq, oq, none⟩) lq.length cq), isV (.int .i64 (k : Int)), isV (.pointer (some ⟨bq, oq + k * 4, none⟩)), isV (mo.val), isV (v.val), isV (bendV b), isV (.bool (alikeB c m mo v b)), isV (.pointer (some ⟨gr, k, none⟩)), isS gr 4 (bl (partB (mayL c lp lq v b pi) (k + 1)) lq.length) k 1]) (by kernel_rfl) (by kernel_rfl) RT.refl RT.trans (Vof_monoR (by simp [isV_monoR, isS_mono])) ?op ?fin
          case op =>
            intro i o ho a V2 _ _ hfrm hE0 hdep
            have hE : RT (gr) 4 (bl (partB (mayL c lp lq v b pi) (k + 1)) lq.length) wr V2 := RT.trans _ _ _ (RT.of_ext ((Ext.refl wr).drew)) hE0
            match i, ho with
            | 0, ho =>
              injection ho with ho
              subst ho
              have e1 : a.tmps[13]?.getD undef = .slice (some ⟨gr, 0, none⟩) lq.length lq.length := slot_of (hfrm 13 (frm_of 13 (by kernel_rfl)))
              exact owes_val rfl (by simp [execOp, go_sem, e1]) rfl
            | 1, ho =>
              injection ho with ho
              subst ho
              have e1 : a.tmps[14]?.getD undef = .int .i64 (k : Int) := slot_of (hfrm 14 (frm_of 14 (by kernel_rfl)))
              exact owes_val rfl (by simp [execOp, go_sem, e1]) rfl
            | 2, ho =>
              injection ho with ho
              subst ho
              have e1 : a.tmps[7]?.getD undef = .pointer (some ⟨w.heap.size, 0, none⟩) := slot_of (hfrm 7 (frm_of 7 (by kernel_rfl)))
              have c0 : V2.cell? ⟨w.heap.size, 0, none⟩ = some (.int .i64 c.turns) := (hE.blk HCr.out (by omega)).cell 0
              have c1 : V2.cell? ⟨w.heap.size, 1, none⟩ = some (.int .i64 c.shift) := (hE.blk HCr.out (by omega)).cell 1
              have c2 : V2.cell? ⟨w.heap.size, 2, none⟩ = some (.int .i64 c.elastic) := (hE.blk HCr.out (by omega)).cell 2
              have c3 : V2.cell? ⟨w.heap.size, 3, none⟩ = some (.int .i64 c.reach) := (hE.blk HCr.out (by omega)).cell 3
              have c4 : V2.cell? ⟨w.heap.size, 4, none⟩ = some (.int .i64 c.spread) := (hE.blk HCr.out (by omega)).cell 4
              exact owes_val rfl (by simp [execOp, go_sem, e1, c0, c1, c2, c3, c4]) rfl
            | 3, ho =>
              injection ho with ho
              subst ho
              have e1 : a.tmps[0]?.getD undef = .slice (some ⟨bp, op, none⟩) lp.length cp := slot_of (hfrm 0 (frm_of 0 (by kernel_rfl)))
              exact owes_val rfl (by simp [execOp, go_sem, e1]) rfl
            | 4, ho =>
              injection ho with ho
              subst ho
              have e1 : a.tmps[12]?.getD undef = .int .i64 (pi : Int) := slot_of (hfrm 12 (frm_of 12 (by kernel_rfl)))
              exact owes_val rfl (by simp [execOp, go_sem, e1]) rfl
            | 5, ho =>
              injection ho with ho
              subst ho
              have e1 : a.tmps[33]?.getD undef = .slice (some ⟨bp, op, none⟩) lp.length cp := slot_of (hdep ⟨3, .data⟩ (by simp) (by kernel_rfl))
              have e2 : a.tmps[34]?.getD undef = .int .i64 (pi : Int) := slot_of (hdep ⟨4, .data⟩ (by simp) (by kernel_rfl))
              exact owes_val rfl (by simp [execOp, go_sem, e1, e2, hii]) rfl
            | 6, ho =>
              injection ho with ho
              subst ho
              have e1 : a.tmps[35]?.getD undef = .pointer (some ⟨bp, op + pi * 4, none⟩) := slot_of (hdep ⟨5, .data⟩ (by simp) (by kernel_rfl))
              have c0 := hpc0 V2 (hE.below hwV hwg)
              have c1 := hpc1 V2 (hE.below hwV hwg)
              have c2 := hpc2 V2 (hE.below hwV hwg)
              have c3 := hpc3 V2 (hE.below hwV hwg)
              exact owes_val rfl (by simp [execOp, go_sem, e1, c0, c1, c2, c3]) rfl
            | 7, ho =>
              injection ho with ho
              subst ho
              have e1 : a.tmps[1]?.getD undef = .slice (some ⟨bq, oq, none⟩) lq.length cq := slot_of (hfrm 1 (frm_of 1 (by kernel_rfl)))
              exact owes_val rfl (by simp [execOp, go_sem, e1]) rfl
            | 8, ho =>
              injection ho with ho
              subst ho
              have e1 : a.tmps[14]?.getD undef = .int .i64 (k : Int) := slot_of (hfrm 14 (frm_of 14 (by kernel_rfl)))
              exact owes_val rfl (by simp [execOp, go_sem, e1]) rfl
            | 9, ho =>
              injection ho with ho
              subst ho
              have e1 : a.tmps[37]?.getD undef = .slice (some ⟨bq, oq, none⟩) lq.length cq := slot_of (hdep ⟨7, .data⟩ (by simp) (by kernel_rfl))
              have e2 : a.tmps[38]?.getD undef = .int .i64 (k : Int) := slot_of (hdep ⟨8, .data⟩ (by simp) (by kernel_rfl))
              exact owes_val rfl (by simp [execOp, go_sem, e1, e2, hki]) rfl
            | 10, ho =>
              injection ho with ho
              subst ho
              have e1 : a.tmps[39]?.getD undef = .pointer (some ⟨bq, oq + k * 4, none⟩) := slot_of (hdep ⟨9, .data⟩ (by simp) (by kernel_rfl))
              have c0 := hqc0 V2 (hE.below hwV hwg)
              have c1 := hqc1 V2 (hE.below hwV hwg)
              have c2 := hqc2 V2 (hE.below hwV hwg)
              have c3 := hqc3 V2 (hE.below hwV hwg)
              exact owes_val rfl (by simp [execOp, go_sem, e1, c0, c1, c2, c3]) rfl
            | 11, ho =>
              injection ho with ho
              subst ho
              have e1 : a.tmps[8]?.getD undef = .pointer (some ⟨w.heap.size + 1, 0, none⟩) := slot_of (hfrm 8 (frm_of 8 (by kernel_rfl)))
              have c0 : V2.cell? ⟨w.heap.size + 1, 0, none⟩ = some (.int .i64 v.turn) := (hE.blk HMr.out (by omega)).cell 0
              have c1 : V2.cell? ⟨w.heap.size + 1, 1, none⟩ = some (.int .i64 v.dx) := (hE.blk HMr.out (by omega)).cell 1
              have c2 : V2.cell? ⟨w.heap.size + 1, 2, none⟩ = some (.int .i64 v.dy) := (hE.blk HMr.out (by omega)).cell 2
              exact owes_val rfl (by simp [execOp, go_sem, e1, c0, c1, c2]) rfl
            | 12, ho =>
              injection ho with ho
              subst ho
              have e1 : a.tmps[9]?.getD undef = .pointer (some ⟨w.heap.size + 1 + 1, 0, none⟩) := slot_of (hfrm 9 (frm_of 9 (by kernel_rfl)))
              have c0 : V2.cell? ⟨w.heap.size + 1 + 1, 0, none⟩ = some (.int .i64 (b 0)) := (hE.blk HBr.out (by omega)).cell 0
              have c1 : V2.cell? ⟨w.heap.size + 1 + 1, 1, none⟩ = some (.int .i64 (b 1)) := (hE.blk HBr.out (by omega)).cell 1
              have c2 : V2.cell? ⟨w.heap.size + 1 + 1, 2, none⟩ = some (.int .i64 (b 2)) := (hE.blk HBr.out (by omega)).cell 2
              have c3 : V2.cell? ⟨w.heap.size + 1 + 1, 3, none⟩ = some (.int .i64 (b 3)) := (hE.blk HBr.out (by omega)).cell 3
              exact owes_val rfl (by simp [execOp, go_sem, e1, c0, c1, c2, c3]) rfl
            | 13, ho =>
              injection ho with ho
              subst ho
              have e1 : a.tmps[32]?.getD undef = c.val := slot_of (hdep ⟨2, .data⟩ (by simp) (by kernel_rfl))
              have e2 : a.tmps[36]?.getD undef = m.val := slot_of (hdep ⟨6, .data⟩ (by simp) (by kernel_rfl))
              have e3 : a.tmps[40]?.getD undef = mo.val := slot_of (hdep ⟨10, .data⟩ (by simp) (by kernel_rfl))
              have e4 : a.tmps[41]?.getD undef = v.val := slot_of (hdep ⟨11, .data⟩ (by simp) (by kernel_rfl))
              have e5 : a.tmps[42]?.getD undef = bendV b := slot_of (hdep ⟨12, .data⟩ (by simp) (by kernel_rfl))
              exact owes_call rfl 74 [.tmp 32, .tmp 36, .tmp 40, .tmp 41, .tmp 42] #[38, 24, 24, 26, 28] rfl (by kernel_rfl) [c.val, m.val, mo.val, v.val, bendV b] (by simp [Act.eval, e1, e2, e3, e4, e5]) (HAm.out _) (fun _ => rfl)
            | 14, ho =>
              injection ho with ho
              subst ho
              have e1 : a.tmps[30]?.getD undef = .slice (some ⟨gr, 0, none⟩) lq.length lq.length := slot_of (hdep ⟨0, .data⟩ (by simp) (by kernel_rfl))
              have e2 : a.tmps[31]?.getD undef = .int .i64 (k : Int) := slot_of (hdep ⟨1, .data⟩ (by simp) (by kernel_rfl))
              exact owes_val rfl (by simp [execOp, go_sem, e1, e2, hki]) rfl
            | 15, ho =>
              injection ho with ho
              subst ho
              have e1 : a.tmps[44]?.getD undef = .pointer (some ⟨gr, k, none⟩) := slot_of (hdep ⟨14, .data⟩ (by simp) (by kernel_rfl))
              have e2 : a.tmps[43]?.getD undef = .bool (alikeB c m mo v b) := slot_of (hdep ⟨13, .data⟩ (by simp) (by kernel_rfl))
              obtain ⟨cur0, kk1, kk2, _⟩ := hE.part _ HRow.out (by simp [bl])
              refine owes_store1 rfl k (.bool (alikeB c m mo v b)) (fun cur hB hs => ?_) ⟨cur0, kk1, kk2⟩ (by rw [bl_at _ hkn]; unfold partB; rw [HMay.out]; simp) (fun _ h => h)
              obtain ⟨u0, hu0⟩ : ∃ u, cur[k]? = some u := ⟨_, Array.getElem?_eq_getElem (by rw [hs]; simpa [bl] using hkn)⟩
              have r0 := (hB.cell k).trans hu0
              have hf := hB.frozen k
              simp [execOp, e1, e2, go_sem, r0, hf]
            | k + 16, ho => exact absurd (List.getElem?_eq_some_iff.1 ho).1 (by simp)
          case fin =>
            intro vs V4 hE0 hvs
            have hE : RT gr 4 (bl (partB (mayL c lp lq v b pi) (k + 1)) lq.length) wr V4 := RT.trans _ _ _ (RT.of_ext ((Ext.refl wr).drew)) hE0
            have s1 := Lib.hid (row_of (v1 := undef) hE HRow.out (hvs 15 (by simp)))
            have LE := Lib.hid (hE.below HE2.out (by have := HGR.out; omega))
            clear hE hE0 hvs
            simp only [putAll, Act.put]
            go_wp2_with fail
            exact ⟨⟨k + 1, by omega, by go_num, s1.out, LE.out⟩, by simp [intOf]; omega⟩
        · obtain rfl : k = lq.length := by omega
          have HRw := Lib.hid (show Blk wr gr 4 (bl (mayL c lp lq v b pi) lq.length) from partB_all (mayL c lp lq v b pi) lq.length ▸ HRow.out)
          have hgre := HGR.out
          subst hgre
          go_wp2_with (at_builtin; refine wpList_append_keep rfl V (by exact (HEV.out.trans HE2.out).alloc _) infoR (.tmp 45) (.tmp 47) rfl _ pi (gs.map (rowV lq.length)) rfl (by exact own_grow (own_grow HOwn.out HE2.out) ((Ext.refl _).alloc _)) _ 1 1 [rowV lq.length W0.heap.size] rfl (by decide) (Slc.of_blk (cs := #[rowV lq.length W0.heap.size]) (t := 122) (Blk.new wr 122 #[rowV lq.length W0.heap.size]) rfl) (by simp [rowV, Value.oneCell']) (by omega) (by decide) ?_; intro A2 c2 z2 hown2 hkeep)
          have hcur : ∀ g', uv.ownBlock = some g' → g' < W0.heap.size := fun g' h => (HOwn.out.lt g' h).2
          refine ⟨⟨pi + 1, gs ++ [W0.heap.size], _, rfl, by omega, by go_num, by simp [hgl], by rw [List.map_append]; exact hown2, ?_, Ext.ext_self V z2⟩, by simp [intOf]; omega⟩
          intro x g hx
          have hgx : V.heap.size ≤ g ∧ Blk wr g 4 (bl (mayL c lp lq v b x) lq.length) ∧ uv.ownBlock ≠ some g := by
            by_cases hxi : x < gs.length
            · rw [List.getElem?_append_left hxi] at hx
              obtain ⟨y1, y2, y3⟩ := HRows.out x g hx
              exact ⟨y1, y2.grow HE2.out, y3⟩
            · rw [List.getElem?_append_right (by omega)] at hx
              have hx0 : x - gs.length = 0 := by
                rcases Nat.eq_zero_or_pos (x - gs.length) with h | h
                · exact h
                · rw [List.getElem?_eq_none (by simp; omega)] at hx; cases hx
              rw [hx0] at hx
              injection hx with hx
              subst hx
              obtain rfl : x = pi := by omega
              exact ⟨hgr, HRw.out, fun h => by have := hcur _ h; omega⟩
          have hB4 := hgx.2.1.alloc (.cells #[.slice (some ⟨W0.heap.size, 0, none⟩) lq.length lq.length] 122)
          obtain ⟨y1, y2⟩ := hkeep g hB4.lt hgx.2.2
          exact ⟨hgx.1, y1.trans hB4, y2⟩
    · obtain rfl : pi = lp.length := by omega
      go_wp2_with fail
      obtain ⟨A4, c4, rfl⟩ := own_slice HOwn.out
      have C : ∀ gO, (0 < lp.length → A4 = some ⟨gO, 0, none⟩) → (0 < lp.length → MayOk wr wr.heap.size gO lp.length lq.length (mayL c lp lq v b)) → Calls Try.prog 75 #[.slice A4 lp.length c4, .int .i64 lq.length] wr fun e w' => e = .returned (.int .i64 (mmk (nbF lq.length (mayL c lp lq v b)) lp.length [])) ∧ Ext wr w' := fun gO h1 h2 => matched_any lp.length lq.length gO c4 A4 (mayL c lp lq v b) h1 (by omega) (by omega) wr h2
      have hC : Calls Try.prog 75 #[.slice A4 lp.length c4, .int .i64 lq.length] wr fun e w' => e = .returned (.int .i64 (mmk (nbF lq.length (mayL c lp lq v b)) lp.length [])) ∧ Ext wr w' := by
        by_cases h0 : 0 < lp.length
        · obtain ⟨gO, e, hg1, hL⟩ := lst_of_own h0 (by rw [List.length_map, hgl]) HOwn.out
          refine C gO (fun _ => e) fun _ => ⟨hL.lt, fun x hx => ?_⟩
          obtain ⟨g, hg⟩ : ∃ g, gs[x]? = some g := ⟨_, List.getElem?_eq_getElem (by omega)⟩
          obtain ⟨y1, y2, y3⟩ := HRows.out x g hg
          refine ⟨g, y2.lt, ?_, fun j hj => by rw [y2.cell]; exact bl_at _ hj⟩
          rw [hL.at_ x (by rw [List.length_map]; omega), List.getElem?_map, hg]
          rfl
        · exact C 0 (fun h => absurd h h0) fun h => absurd h h0
      clear C
      refine Calls.ext hC fun z5 => ?_
      go_wp2_with fail
      go_ret
      exact ⟨rfl, (HE.out.trans HEV.out).ext z5⟩
end Go.Proofs.Ythejomcibobieaa
