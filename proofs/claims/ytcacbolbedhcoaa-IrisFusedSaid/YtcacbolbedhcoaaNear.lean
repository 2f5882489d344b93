/- Nearest, and its reference. -/
import Derived.Test.YtcacbolbedhcoaaRefMatch
import Derived.Test.YtcacbolbedhcoaaRefFuse
namespace Go.Proofs.Ytcacbolbedhcoaa
open Go.RowKit

/-- the nearest of the first k codes -/
def nearP (l : List Ir) (b : Ir) (t : Int) : Nat → Pt
  | 0 => ⟨0, 0, 0⟩
  | k + 1 => if lessP (best7 (l.getD k Ir.zero) b t) (nearP l b t k) then best7 (l.getD k Ir.zero) b t else nearP l b t k
def nearI (l : List Ir) (b : Ir) (t : Int) : Nat → Int
  | 0 => -1
  | k + 1 => if lessP (best7 (l.getD k Ir.zero) b t) (nearP l b t k) then (k : Int) else nearI l b t k
theorem near_fit (l : List Ir) (b : Ir) (t : Int) (k : Nat) : (nearP l b t k).fit := by
  induction k with
  | zero => unfold nearP Pt.fit; simp
  | succ k ih =>
    rw [nearP]
    have hp : (best7 (l.getD k Ir.zero) b t).fit := best_fit _ _ _
    generalize best7 (l.getD k Ir.zero) b t = p at *
    cases lessP p (nearP l b t k)
    · exact ih
    · exact hp
theorem near_sign (l : List Ir) (b : Ir) (t : Int) (k : Nat) : ((nearP l b t k).den == 0) = decide (nearI l b t k < 0) ∧ -1 ≤ nearI l b t k ∧ nearI l b t k < k := by
  induction k with
  | zero => exact ⟨rfl, by simp [nearI], by simp [nearI]⟩
  | succ k ih =>
    rw [nearP, nearI]
    generalize best7 (l.getD k Ir.zero) b t = p at *
    cases h : lessP p (nearP l b t k)
    · exact ⟨ih.1, ih.2.1, by have := ih.2.2; simp; omega⟩
    · have hd : 0 < p.den := by
        unfold lessP at h
        rw [Bool.and_eq_true] at h
        simpa using h.1
      refine ⟨?_, by simp only [if_true]; omega, by simp only [if_true]; omega⟩
      have h1 : (p.den == 0) = false := by simp; omega
      simp [h1]
def nearV (l : List Ir) (b : Ir) (t : Int) : Value :=
  if 64 < l.length then .tuple #[.int .i64 0, .int .i64 4] else if allI l && okI b then if inB t 0 7 then if nearI l b t l.length < 0 then .tuple #[.int .i64 0, .int .i64 6] else .tuple #[.int .i64 (nearI l b t l.length), .int .i64 0]
  else .tuple #[.int .i64 0, .int .i64 2] else .tuple #[.int .i64 0, .int .i64 30]
theorem valid1 (a : Ir) (A : Option Addr) (c : Nat) (w : World) (hl : Irs w A [a]) : Calls Try.prog 47 #[.slice A 1 c] w fun e w' => e = .returned (.bool (okI a)) ∧ Ext w w' := by
  have h := valid_any A c [a] w hl (by simp)
  have hv : allI [a] = okI a := by simp [allI]
  rw [hv] at h
  exact h

set_option maxRecDepth 100000 in
set_option maxHeartbeats 2000000 in
theorem near_ok (A : Option Addr) (c : Nat) (l : List Ir) (b : Ir) (t : Int) (w : World) (hl : Irs w A l) (hn : l.length ≤ 64) (h1 : allI l = true) (h2 : okI b = true) (h3 : inB t 0 7 = true) : Calls Try.prog 35 #[.slice A l.length c, b.val, .int .i64 t] w fun e w' => e = .returned (if nearI l b t l.length < 0 then .tuple #[.int .i64 0, .int .i64 6] else .tuple #[.int .i64 (nearI l b t l.length), .int .i64 0]) ∧ Ext w w' := by
  obtain ⟨V, hV⟩ : ∃ V : Value, (if nearI l b t l.length < 0 then .tuple #[.int .i64 0, .int .i64 6] else .tuple #[.int .i64 (nearI l b t l.length), .int .i64 0]) = V := ⟨_, rfl⟩
  rw [hV]
  have HV := Lib.hid hV
  clear hV
  have ht : 0 ≤ t ∧ t ≤ 7 := by simpa [inB] using h3
  have HL := Lib.hid hl
  have C := Lib.hid (fun A c w hl => h1 ▸ valid_any A c l w hl (by omega))
  have C2 := Lib.hid (fun A c w hl => h2 ▸ valid1 b A c w hl)
  have C3 := Lib.hid (fun w => h3 ▸ within_any t 0 7 w)
  have hA2 : decide ((64 : Int) < (l.length : Int)) = false := by simp; omega
  clear h1 h2 h3 hl
  go_enter Try.func35, Try.ntmps35
  go_wp2_with fail
  refine Calls.ext (C.out A c _ (HL.out.grow ((Ext.refl w).alloc _))) fun z => ?_
  go_wp2_with (go_at_call 47; refine Calls.ext (C2.out _ 1 _ (by exact Irs.one (Blk.new' _ 27 _ _ (by simp)))) fun z2 => ?_)
  have HBb := Lib.hid ((((Blk.new w 27 #[.int .u64 (uw b.code), .int .u64 (uw b.mask)]).ext z).alloc (.cells #[.int .u64 (uw b.code), .int .u64 (uw b.mask)] 27)).ext z2)
  have HE0 := Lib.hid (((((Ext.refl w).alloc (.cells #[.int .u64 (uw b.code), .int .u64 (uw b.mask)] 27)).ext z).alloc (.cells #[.int .u64 (uw b.code), .int .u64 (uw b.mask)] 27)).ext z2)
  generalize ext ((ext (w.alloc (.cells #[.int .u64 (uw b.code), .int .u64 (uw b.mask)] 27)) z).alloc (.cells #[.int .u64 (uw b.code), .int .u64 (uw b.mask)] 27)) z2 = W0 at *
  go_wp2_with (go_at_call 45; refine Calls.same (C3.out _) ?_)
  have HO := Lib.hid (Blk.new W0 98 #[.int .i64 0, .int .i64 0, .int .i64 0])
  have HE := Lib.hid ((Ext.refl W0).alloc (.cells #[.int .i64 0, .int .i64 0, .int .i64 0] 98))
  generalize W0.alloc (.cells #[.int .i64 0, .int .i64 0, .int .i64 0] 98) = W1 at *
  generalize hg : W0.heap.size = o at *
  have hoW : W0.heap.size ≤ o := by omega
  have hNo : w.heap.size < o := by have := HBb.out.lt; omega
  clear hg
  go_loopw [9, 30] (fun at_ i wr => ∃ (k : Nat), k ≤ l.length ∧ i = .int .i64 k ∧ at_ = .int .i64 (nearI l b t k) ∧ Ext W0 wr ∧ Blk wr o 98 (nearP l b t k).cells) (fun _ i _ => l.length - (intOf i).toNat)
  case atStart => exact ⟨0, Nat.zero_le _, rfl, rfl, HE.out, HO.out⟩
  case round =>
    obtain ⟨k, hk, rfl, rfl, hE, hB⟩ := hrel
    by_cases hlk : k < l.length
    · rcases HL.out with h | ⟨bb, off, rfl, hbb, hc⟩
      · subst h; simp at hlk
      obtain ⟨c0, c1⟩ := hc k l[k] (List.getElem?_eq_getElem hlk)
      have hEw := HE0.out.trans hE
      have e0 : wr.cell? ⟨bb, off + k * 2, none⟩ = some (.int .u64 (uw l[k].code)) := (hEw.cell (p := ⟨bb, off + k * 2, none⟩) hbb).trans c0
      have e1 : wr.cell? ⟨bb, off + k * 2 + 1, none⟩ = some (.int .u64 (uw l[k].mask)) := (hEw.cell (p := ⟨bb, off + k * 2 + 1, none⟩) hbb).trans c1
      have hBb := HBb.out.grow hE
      have f0 : wr.cell? ⟨w.heap.size, 0, none⟩ = some (.int .u64 (uw b.code)) := hBb.cell 0
      have f1 : wr.cell? ⟨w.heap.size, 1, none⟩ = some (.int .u64 (uw b.mask)) := hBb.cell 1
      have g0 : wr.cell? ⟨o, 0, none⟩ = some (.int .i64 (nearP l b t k).num) := hB.cell 0
      have g1 : wr.cell? ⟨o, 1, none⟩ = some (.int .i64 (nearP l b t k).den) := hB.cell 1
      have g2 : wr.cell? ⟨o, 2, none⟩ = some (.int .i64 (nearP l b t k).turn) := hB.cell 2
      have gf := hB.frozen
      have o1 : Nonempty (Old bb wr) := Old.mk (Nat.lt_of_lt_of_le hbb hEw.size)
      have o2 : Nonempty (Old w.heap.size wr) := Old.mk hBb.lt
      have o3 : Nonempty (Old o wr) := Old.mk hB.lt
      have hgd : l.getD k Ir.zero = l[k] := by simp [List.getElem?_eq_getElem hlk]
      have hP : nearP l b t (k + 1) = if lessP (best7 l[k] b t) (nearP l b t k) then best7 l[k] b t else nearP l b t k := by rw [nearP, hgd]
      have hI : nearI l b t (k + 1) = if lessP (best7 l[k] b t) (nearP l b t k) then (k : Int) else nearI l b t k := by rw [nearI, hgd]
      have CD := Lib.hid (dist_any l[k] b t ht)
      have hfp : (best7 l[k] b t).fit := best_fit _ _ _
      have hfq := near_fit l b t k
      have HBk := Lib.hid hB
      have HEk := Lib.hid hE
      clear hc c0 c1 hbb hEw hBb hB hE hgd
      generalize best7 l[k] b t = p at *
      generalize l[k] = x at *
      generalize nearP l b t k = q at *
      generalize nearI l b t k = at_ at *
      cases hls : lessP p q
      · have HP := Lib.hid (show nearP l b t (k + 1) = q by rw [hP, hls]; rfl)
        have HI := Lib.hid (show nearI l b t (k + 1) = at_ by rw [hI, hls]; rfl)
        have CL := Lib.hid (fun w => hls ▸ less_any p q w hfp hfq)
        clear hP hI hls hfp hfq
        go_wp2_with (first | (go_at_call 55; refine Calls.ext (CD.out _) fun z3 => ?_) | (go_at_call 61; refine Calls.ext (CL.out _) fun z4 => ?_))
        go_roundw
        case rel =>
          have hEx := ((((Ext.refl wr).alloc (.cells #[.int .u64 (uw x.code), .int .u64 (uw x.mask)] 27)).ext z3).alloc (.cells p.cells 98)).ext z4
          exact ⟨k + 1, by omega, by go_num, by rw [HI.out], HEk.out.trans hEx, by rw [HP.out]; exact HBk.out.grow hEx⟩
        case measure => simp [intOf]; omega
      · have HP := Lib.hid (show nearP l b t (k + 1) = p by rw [hP, hls]; rfl)
        have HI := Lib.hid (show nearI l b t (k + 1) = (k : Int) by rw [hI, hls]; rfl)
        have CL := Lib.hid (fun w => hls ▸ less_any p q w hfp hfq)
        clear hP hI hls hfp hfq
        go_wp2_with (first | (go_at_call 55; refine Calls.ext (CD.out _) fun z3 => ?_) | (go_at_call 61; refine Calls.ext (CL.out _) fun z4 => ?_))
        go_roundw
        case rel =>
          have hEx := ((((Ext.refl wr).alloc (.cells #[.int .u64 (uw x.code), .int .u64 (uw x.mask)] 27)).ext z3).alloc (.cells p.cells 98)).ext z4
          refine ⟨k + 1, by omega, by go_num, by rw [HI.out], ?_, ?_⟩
          · exact ((((HEk.out.trans hEx).setCell (p := ⟨o, 0, none⟩) hoW _).setCell (p := ⟨o, 1, none⟩) hoW _).setCell (p := ⟨o, 2, none⟩) hoW _)
          · rw [HP.out]; exact (((HBk.out.grow hEx).set_ 0 _).set_ 1 _).set_ 2 _
        case measure => simp [intOf]; omega
    · have hkl : k = l.length := by omega
      subst hkl
      have hsg := near_sign l b t l.length
      have hEw := HE0.out.trans hE
      have HEw := Lib.hid hEw
      clear hE hB hEw
      generalize nearI l b t l.length = at_ at *
      by_cases hneg : at_ < 0
      · have hv := HV.out
        rw [if_pos hneg] at hv
        have HV2 := Lib.hid hv
        clear hv HV hsg
        have hd : decide (at_ < 0) = true := by simpa using hneg
        go_wp2_with fail
        go_ret2
        exact ⟨ret_of HV2.out, HEw.out⟩
      · have hv := HV.out
        rw [if_neg hneg] at hv
        have HV2 := Lib.hid hv
        clear hv HV hsg
        have hd : decide (at_ < 0) = false := by simpa using hneg
        go_wp2_with fail
        go_ret2
        exact ⟨ret_of HV2.out, HEw.out⟩
set_option maxRecDepth 100000 in
set_option maxHeartbeats 1000000 in
theorem Nearest_any (A : Option Addr) (c : Nat) (l : List Ir) (b : Ir) (t : Int) (w : World) (hl : Irs w A l) (hn : l.length ≤ 9000000000000) : Calls Try.prog 35 #[.slice A l.length c, b.val, .int .i64 t] w fun e w' => e = .returned (nearV l b t) ∧ Ext w w' := by
  by_cases h64 : 64 < l.length
  · have Hv := Lib.hid (show nearV l b t = .tuple #[.int .i64 0, .int .i64 4] by simp [nearV, h64])
    have hA2 : decide ((64 : Int) < (l.length : Int)) = true := by simp; omega
    clear hl
    go_enter Try.func35, Try.ntmps35
    go_wp2_with fail
    go_ret2
    refine ⟨ret_of Hv.out.symm, ?_⟩
    repeat' (first | with_reducible exact Ext.refl _ | with_reducible refine Ext.drew ?_ | with_reducible refine Ext.alloc ?_ _ | with_reducible refine Ext.ext ?_ _ | with_reducible refine Ext.setCell ?_ (by simp) _)
  · have hA2 : decide ((64 : Int) < (l.length : Int)) = false := by simp; omega
    cases h1 : allI l
    · have Hv := Lib.hid (show nearV l b t = .tuple #[.int .i64 0, .int .i64 30] by simp [nearV, h64, h1])
      have HL := Lib.hid hl
      have C := Lib.hid (fun A c w hl => h1 ▸ valid_any A c l w hl hn)
      clear h1 hl
      go_enter Try.func35, Try.ntmps35
      go_wp2_with (go_at_call 47; refine Calls.ext (C.out A c _ (HL.out.grow ((Ext.refl w).alloc _))) fun z => ?_)
      go_ret2
      refine ⟨ret_of Hv.out.symm, ?_⟩
      repeat' (first | with_reducible exact Ext.refl _ | with_reducible refine Ext.drew ?_ | with_reducible refine Ext.alloc ?_ _ | with_reducible refine Ext.ext ?_ _ | with_reducible refine Ext.setCell ?_ (by simp) _)
    · cases h2 : okI b
      · have Hv := Lib.hid (show nearV l b t = .tuple #[.int .i64 0, .int .i64 30] by simp [nearV, h64, h2])
        have HL := Lib.hid hl
        have C := Lib.hid (fun A c w hl => h1 ▸ valid_any A c l w hl hn)
        have C2 := Lib.hid (fun A c w hl => h2 ▸ valid1 b A c w hl)
        clear h1 h2 hl
        go_enter Try.func35, Try.ntmps35
        go_wp2_with fail
        refine Calls.ext (C.out A c _ (HL.out.grow ((Ext.refl w).alloc _))) fun z => ?_
        go_wp2_with (go_at_call 47; refine Calls.ext (C2.out _ 1 _ (by exact Irs.one (Blk.new' _ 27 _ _ (by simp)))) fun z2 => ?_)
        go_ret2
        refine ⟨ret_of Hv.out.symm, ?_⟩
        repeat' (first | with_reducible exact Ext.refl _ | with_reducible refine Ext.drew ?_ | with_reducible refine Ext.alloc ?_ _ | with_reducible refine Ext.ext ?_ _ | with_reducible refine Ext.setCell ?_ (by simp) _)
      · cases h3 : inB t 0 7
        · have Hv := Lib.hid (show nearV l b t = .tuple #[.int .i64 0, .int .i64 2] by simp [nearV, h64, h1, h2, h3])
          have HL := Lib.hid hl
          have C := Lib.hid (fun A c w hl => h1 ▸ valid_any A c l w hl hn)
          have C2 := Lib.hid (fun A c w hl => h2 ▸ valid1 b A c w hl)
          clear h1 h2 hl
          go_enter Try.func35, Try.ntmps35
          go_wp2_with fail
          refine Calls.ext (C.out A c _ (HL.out.grow ((Ext.refl w).alloc _))) fun z => ?_
          go_wp2_with (first | (go_at_call 47; refine Calls.ext (C2.out _ 1 _ (by exact Irs.one (Blk.new' _ 27 _ _ (by simp)))) fun z2 => ?_) | (go_at_call 45; refine Calls.same (within_any _ _ _ _) ?_))
          go_ret2
          refine ⟨ret_of Hv.out.symm, ?_⟩
          repeat' (first | with_reducible exact Ext.refl _ | with_reducible refine Ext.drew ?_ | with_reducible refine Ext.alloc ?_ _ | with_reducible refine Ext.ext ?_ _ | with_reducible refine Ext.setCell ?_ (by simp) _)
        · have hv : nearV l b t = if nearI l b t l.length < 0 then .tuple #[.int .i64 0, .int .i64 6] else .tuple #[.int .i64 (nearI l b t l.length), .int .i64 0] := by simp only [nearV, if_neg h64, h1, h2, h3, Bool.and_self, if_true]
          rw [hv]
          exact near_ok A c l b t w hl (by omega) h1 h2 h3
set_option maxRecDepth 100000 in
set_option maxHeartbeats 2000000 in
theorem refNear_ok (A : Option Addr) (c : Nat) (l : List Ir) (b : Ir) (t : Int) (w : World) (hl : Irs w A l) (hn : l.length ≤ 64) (h1 : allI l = true) (h2 : okI b = true) (h3 : inB t 0 7 = true) : Calls Try.prog 36 #[.slice A l.length c, b.val, .int .i64 t] w fun e w' => e = .returned (if nearI l b t l.length < 0 then .tuple #[.int .i64 0, .int .i64 6] else .tuple #[.int .i64 (nearI l b t l.length), .int .i64 0]) ∧ Ext w w' := by
  obtain ⟨V, hV⟩ : ∃ V : Value, (if nearI l b t l.length < 0 then .tuple #[.int .i64 0, .int .i64 6] else .tuple #[.int .i64 (nearI l b t l.length), .int .i64 0]) = V := ⟨_, rfl⟩
  rw [hV]
  have HV := Lib.hid hV
  clear hV
  have ht : 0 ≤ t ∧ t ≤ 7 := by simpa [inB] using h3
  have HL := Lib.hid hl
  have C := Lib.hid (fun A c w hl => h1 ▸ refAll_any A c l w hl (by omega))
  have C2 := Lib.hid (fun w => h2 ▸ refValid_any b w)
  have C3 := Lib.hid (fun w => h3 ▸ refWithin_any t 0 7 w)
  have hA2 : decide ((64 : Int) < (l.length : Int)) = false := by simp; omega
  clear h1 h2 h3 hl
  go_enter Try.func36, Try.ntmps36
  go_wp2_with fail
  refine Calls.ext (C.out A c _ (HL.out.grow ((Ext.refl w).alloc _))) fun z => ?_
  go_wp2_with (first | (go_at_call 39; refine Calls.ext (C2.out _) fun z2 => ?_) | (go_at_call 46; refine Calls.same (C3.out _) ?_))
  have HBb := Lib.hid (((Blk.new w 27 #[.int .u64 (uw b.code), .int .u64 (uw b.mask)]).ext z).ext z2)
  have HE0 := Lib.hid ((((Ext.refl w).alloc (.cells #[.int .u64 (uw b.code), .int .u64 (uw b.mask)] 27)).ext z).ext z2)
  generalize ext (ext (w.alloc (.cells #[.int .u64 (uw b.code), .int .u64 (uw b.mask)] 27)) z) z2 = W0 at *
  have f0 : W0.cell? ⟨w.heap.size, 0, none⟩ = some (.int .u64 (uw b.code)) := HBb.out.cell 0
  have f1 : W0.cell? ⟨w.heap.size, 1, none⟩ = some (.int .u64 (uw b.mask)) := HBb.out.cell 1
  have o2 : Nonempty (Old w.heap.size W0) := Old.mk HBb.out.lt
  go_loopw [8, 9, 10, 11] (fun num den at_ i wr => ∃ (k : Nat) (z : World), k ≤ l.length ∧ i = .int .i64 k ∧ num = .int .i64 (fNum (nearP l b t k)) ∧ den = .int .i64 (fDen (nearP l b t k)) ∧ at_ = .int .i64 (nearI l b t k) ∧ wr = ext W0 z) (fun _ _ _ i _ => l.length - (intOf i).toNat)
  case atStart => exact ⟨0, W0, Nat.zero_le _, rfl, rfl, rfl, rfl, (ext_of (Ext.refl W0)).symm⟩
  case round =>
    obtain ⟨k, z3, hk, rfl, rfl, rfl, rfl, rfl⟩ := hrel
    by_cases hlk : k < l.length
    · rcases HL.out with h | ⟨bb, off, rfl, hbb, hc⟩
      · subst h; simp at hlk
      obtain ⟨c0, c1⟩ := hc k l[k] (List.getElem?_eq_getElem hlk)
      have e0 : W0.cell? ⟨bb, off + k * 2, none⟩ = some (.int .u64 (uw l[k].code)) := (HE0.out.cell (p := ⟨bb, off + k * 2, none⟩) hbb).trans c0
      have e1 : W0.cell? ⟨bb, off + k * 2 + 1, none⟩ = some (.int .u64 (uw l[k].mask)) := (HE0.out.cell (p := ⟨bb, off + k * 2 + 1, none⟩) hbb).trans c1
      have o1 : Nonempty (Old bb W0) := Old.mk (Nat.lt_of_lt_of_le hbb HE0.out.size)
      have hgd : l.getD k Ir.zero = l[k] := by simp [List.getElem?_eq_getElem hlk]
      have hP : nearP l b t (k + 1) = if lessP (best7 l[k] b t) (nearP l b t k) then best7 l[k] b t else nearP l b t k := by rw [nearP, hgd]
      have hI : nearI l b t (k + 1) = if lessP (best7 l[k] b t) (nearP l b t k) then (k : Int) else nearI l b t k := by rw [nearI, hgd]
      have CD := FarI_any l[k] b t ht
      have hfp : (best7 l[k] b t).fit := best_fit _ _ _
      have hfq := near_fit l b t k
      have hsg := near_sign l b t k
      clear hc c0 c1 hbb hgd
      unfold farV at CD
      generalize best7 l[k] b t = p at *
      generalize l[k] = x at *
      generalize nearP l b t k = q at *
      generalize nearI l b t k = at_ at *
      obtain ⟨p0, p1, p2, p3⟩ := hfp
      obtain ⟨q0, q1, q2, q3⟩ := hfq
      have m1 := mul_le p.num q.den p0 p1 q2 q3
      have m2 := mul_le q.num p.den q0 q1 p2 p3
      obtain ⟨hs1, hs2, hs3⟩ := hsg
      cases hpd : (p.den == 0)
      · have hp0 : decide (0 < p.den) = true := by simp at hpd ⊢; omega
        have u1 : fNum p = p.num := by simp [fNum, hpd]
        have u2 : fDen p = p.den := by simp [fDen, hpd]
        have u3 : fAt p = p.turn := by simp [fAt, hpd]
        have u4 : fIs p = true := by simp [fIs, hpd]
        rw [u1, u2, u3, u4] at CD
        cases hqd : (q.den == 0)
        · have s1 : fNum q = q.num := by simp [fNum, hqd]
          have s2 : fDen q = q.den := by simp [fDen, hqd]
          have hat : decide (at_ < 0) = false := by rw [← hs1, hqd]
          rw [s1, s2]
          cases hls : decide (p.num * q.den < q.num * p.den)
          · have hl0 : lessP p q = false := by simp only [lessP, hp0, hqd, hls]; rfl
            have S1 := Lib.hid (show fNum (nearP l b t (k + 1)) = q.num by rw [hP, hl0]; exact s1)
            have S2 := Lib.hid (show fDen (nearP l b t (k + 1)) = q.den by rw [hP, hl0]; exact s2)
            have S3 := Lib.hid (show nearI l b t (k + 1) = at_ by rw [hI, hl0]; rfl)
            have HCD := Lib.hid CD
            clear hP hI CD hs1
            clear hl0 s1 s2 u1 u2 u3 u4
            go_wp2_with fail
            refine wp_region_ext (by kernel_rfl) (by kernel_rfl) ?_
            repeat (go_big_quiet_step ((go_at_call 56; exact Calls.quiet_ext (HCD.out _))))
            refine wpQuiet_nil ?_
            rintro _ ⟨z4, rfl⟩
            go_wp2_with fail
            go_roundw
            case rel => exact ⟨k + 1, _, by omega, by go_num, by rw [S1.out], by rw [S2.out], by rw [S3.out], (ext_of (((Ext.refl W0).ext z3).ext z4)).symm⟩
            case measure => simp [intOf]; omega
          · have hl0 : lessP p q = true := by simp only [lessP, hp0, hqd, hls]; rfl
            have S1 := Lib.hid (show fNum (nearP l b t (k + 1)) = p.num by rw [hP, hl0]; exact u1)
            have S2 := Lib.hid (show fDen (nearP l b t (k + 1)) = p.den by rw [hP, hl0]; exact u2)
            have S3 := Lib.hid (show nearI l b t (k + 1) = (k : Int) by rw [hI, hl0]; rfl)
            have HCD := Lib.hid CD
            clear hP hI CD hs1
            clear hl0 s1 s2 u1 u2 u3 u4
            go_wp2_with fail
            refine wp_region_ext (by kernel_rfl) (by kernel_rfl) ?_
            repeat (go_big_quiet_step ((go_at_call 56; exact Calls.quiet_ext (HCD.out _))))
            refine wpQuiet_nil ?_
            rintro _ ⟨z4, rfl⟩
            go_wp2_with fail
            go_roundw
            case rel => exact ⟨k + 1, _, by omega, by go_num, by rw [S1.out], by rw [S2.out], by rw [S3.out], (ext_of (((Ext.refl W0).ext z3).ext z4)).symm⟩
            case measure => simp [intOf]; omega
        · have s1 : fNum q = 0 := by simp [fNum, hqd]
          have s2 : fDen q = 1 := by simp [fDen, hqd]
          have hat : decide (at_ < 0) = true := by rw [← hs1, hqd]
          rw [s1, s2]
          have hl0 : lessP p q = true := by simp only [lessP, hp0, hqd]; rfl
          have S1 := Lib.hid (show fNum (nearP l b t (k + 1)) = p.num by rw [hP, hl0]; exact u1)
          have S2 := Lib.hid (show fDen (nearP l b t (k + 1)) = p.den by rw [hP, hl0]; exact u2)
          have S3 := Lib.hid (show nearI l b t (k + 1) = (k : Int) by rw [hI, hl0]; rfl)
          have HCD := Lib.hid CD
          clear hP hI CD hs1
          clear hl0 s1 s2 u1 u2 u3 u4
          go_wp2_with fail
          refine wp_region_ext (by kernel_rfl) (by kernel_rfl) ?_
          repeat (go_big_quiet_step ((go_at_call 56; exact Calls.quiet_ext (HCD.out _))))
          refine wpQuiet_nil ?_
          rintro _ ⟨z4, rfl⟩
          go_wp2_with fail
          go_roundw
          case rel => exact ⟨k + 1, _, by omega, by go_num, by rw [S1.out], by rw [S2.out], by rw [S3.out], (ext_of (((Ext.refl W0).ext z3).ext z4)).symm⟩
          case measure => simp [intOf]; omega
      · have hp0 : decide (0 < p.den) = false := by simp at hpd ⊢; omega
        have u4 : fIs p = false := by simp [fIs, hpd]
        rw [u4] at CD
        have hl0 : lessP p q = false := by simp only [lessP, hp0]; rfl
        have S1 := Lib.hid (show fNum (nearP l b t (k + 1)) = fNum q by rw [hP, hl0]; rfl)
        have S2 := Lib.hid (show fDen (nearP l b t (k + 1)) = fDen q by rw [hP, hl0]; rfl)
        have S3 := Lib.hid (show nearI l b t (k + 1) = at_ by rw [hI, hl0]; rfl)
        have HCD := Lib.hid CD
        clear hP hI CD hs1
        clear hl0 u4
        generalize fNum p = x1 at *
        generalize fDen p = x2 at *
        generalize fAt p = x3 at *
        generalize fNum q = y1 at *
        generalize fDen q = y2 at *
        go_wp2_with fail
        refine wp_region_ext (by kernel_rfl) (by kernel_rfl) ?_
        repeat (go_big_quiet_step ((go_at_call 56; exact Calls.quiet_ext (HCD.out _))))
        refine wpQuiet_nil ?_
        rintro _ ⟨z4, rfl⟩
        go_wp2_with fail
        go_roundw
        case rel => exact ⟨k + 1, _, by omega, by go_num, by rw [S1.out], by rw [S2.out], by rw [S3.out], (ext_of (((Ext.refl W0).ext z3).ext z4)).symm⟩
        case measure => simp [intOf]; omega
    · have hkl : k = l.length := by omega
      subst hkl
      have hsg := near_sign l b t l.length
      generalize nearI l b t l.length = at_ at *
      by_cases hneg : at_ < 0
      · have hv := HV.out
        rw [if_pos hneg] at hv
        have HV2 := Lib.hid hv
        clear hv HV hsg
        have hd : decide (at_ < 0) = true := by simpa using hneg
        go_wp2_with fail
        go_ret2
        exact ⟨ret_of HV2.out, HE0.out.ext z3⟩
      · have hv := HV.out
        rw [if_neg hneg] at hv
        have HV2 := Lib.hid hv
        clear hv HV hsg
        have hd : decide (at_ < 0) = false := by simpa using hneg
        go_wp2_with fail
        go_ret2
        exact ⟨ret_of HV2.out, HE0.out.ext z3⟩
set_option maxRecDepth 100000 in
set_option maxHeartbeats 1000000 in
theorem refNearest_any (A : Option Addr) (c : Nat) (l : List Ir) (b : Ir) (t : Int) (w : World) (hl : Irs w A l) (hn : l.length ≤ 9000000000000) : Calls Try.prog 36 #[.slice A l.length c, b.val, .int .i64 t] w fun e w' => e = .returned (nearV l b t) ∧ Ext w w' := by
  by_cases h64 : 64 < l.length
  · have Hv := Lib.hid (show nearV l b t = .tuple #[.int .i64 0, .int .i64 4] by simp [nearV, h64])
    have hA2 : decide ((64 : Int) < (l.length : Int)) = true := by simp; omega
    clear hl
    go_enter Try.func36, Try.ntmps36
    go_wp2_with fail
    go_ret2
    refine ⟨ret_of Hv.out.symm, ?_⟩
    repeat' (first | with_reducible exact Ext.refl _ | with_reducible refine Ext.drew ?_ | with_reducible refine Ext.alloc ?_ _ | with_reducible refine Ext.ext ?_ _ | with_reducible refine Ext.setCell ?_ (by simp) _)
  · have hA2 : decide ((64 : Int) < (l.length : Int)) = false := by simp; omega
    cases h1 : allI l
    · have Hv := Lib.hid (show nearV l b t = .tuple #[.int .i64 0, .int .i64 30] by simp [nearV, h64, h1])
      have HL := Lib.hid hl
      have C := Lib.hid (fun A c w hl => h1 ▸ refAll_any A c l w hl hn)
      clear h1 hl
      go_enter Try.func36, Try.ntmps36
      go_wp2_with (go_at_call 59; refine Calls.ext (C.out A c _ (HL.out.grow ((Ext.refl w).alloc _))) fun z => ?_)
      go_ret2
      refine ⟨ret_of Hv.out.symm, ?_⟩
      repeat' (first | with_reducible exact Ext.refl _ | with_reducible refine Ext.drew ?_ | with_reducible refine Ext.alloc ?_ _ | with_reducible refine Ext.ext ?_ _ | with_reducible refine Ext.setCell ?_ (by simp) _)
    · cases h2 : okI b
      · have Hv := Lib.hid (show nearV l b t = .tuple #[.int .i64 0, .int .i64 30] by simp [nearV, h64, h2])
        have HL := Lib.hid hl
        have C := Lib.hid (fun A c w hl => h1 ▸ refAll_any A c l w hl hn)
        have C2 := Lib.hid (fun w => h2 ▸ refValid_any b w)
        clear h1 h2 hl
        go_enter Try.func36, Try.ntmps36
        go_wp2_with fail
        refine Calls.ext (C.out A c _ (HL.out.grow ((Ext.refl w).alloc _))) fun z => ?_
        go_wp2_with (go_at_call 39; refine Calls.ext (C2.out _) fun z2 => ?_)
        go_ret2
        refine ⟨ret_of Hv.out.symm, ?_⟩
        repeat' (first | with_reducible exact Ext.refl _ | with_reducible refine Ext.drew ?_ | with_reducible refine Ext.alloc ?_ _ | with_reducible refine Ext.ext ?_ _ | with_reducible refine Ext.setCell ?_ (by simp) _)
      · cases h3 : inB t 0 7
        · have Hv := Lib.hid (show nearV l b t = .tuple #[.int .i64 0, .int .i64 2] by simp [nearV, h64, h1, h2, h3])
          have HL := Lib.hid hl
          have C := Lib.hid (fun A c w hl => h1 ▸ refAll_any A c l w hl hn)
          have C2 := Lib.hid (fun w => h2 ▸ refValid_any b w)
          clear h1 h2 hl
          go_enter Try.func36, Try.ntmps36
          go_wp2_with fail
          refine Calls.ext (C.out A c _ (HL.out.grow ((Ext.refl w).alloc _))) fun z => ?_
          go_wp2_with (first | (go_at_call 39; refine Calls.ext (C2.out _) fun z2 => ?_) | (go_at_call 46; refine Calls.same (refWithin_any _ _ _ _) ?_))
          go_ret2
          refine ⟨ret_of Hv.out.symm, ?_⟩
          repeat' (first | with_reducible exact Ext.refl _ | with_reducible refine Ext.drew ?_ | with_reducible refine Ext.alloc ?_ _ | with_reducible refine Ext.ext ?_ _ | with_reducible refine Ext.setCell ?_ (by simp) _)
        · have hv : nearV l b t = if nearI l b t l.length < 0 then .tuple #[.int .i64 0, .int .i64 6] else .tuple #[.int .i64 (nearI l b t l.length), .int .i64 0] := by simp only [nearV, if_neg h64, h1, h2, h3, Bool.and_self, if_true]
          rw [hv]
          exact refNear_ok A c l b t w hl (by omega) h1 h2 h3
end Go.Proofs.Ytcacbolbedhcoaa
