/- Valid codes, turned codes, comparisons. -/
import Derived.Test.YtcacbolbedhcoaaLeaf
import Derived.Test.YtcacbolbedhcoaaSlices
import Derived.RegionTactic
namespace Go.Proofs.Ytcacbolbedhcoaa
open Go.RowKit

/-- A slice that starts at A has the codes l. -/
def Irs (w : World) (A : Option Addr) (l : List Ir) : Prop :=
  l = [] ∨ ∃ b off, A = some ⟨b, off, none⟩ ∧ b < w.heap.size ∧ ∀ k x, l[k]? = some x →
    w.cell? ⟨b, off + k * 2, none⟩ = some (.int .u64 (uw x.code)) ∧ w.cell? ⟨b, off + k * 2 + 1, none⟩ = some (.int .u64 (uw x.mask))
theorem Irs.grow {w w' : World} {A : Option Addr} {l : List Ir} (h : Irs w A l) (hg : Ext w w') : Irs w' A l := by
  rcases h with h | ⟨b, off, rfl, hb, hc⟩
  · exact .inl h
  · refine .inr ⟨b, off, rfl, Nat.lt_of_lt_of_le hb hg.size, fun k x hk => ?_⟩
    obtain ⟨c0, c1⟩ := hc k x hk
    exact ⟨(hg.cell hb).trans c0, (hg.cell hb).trans c1⟩
theorem Irs.one {w : World} {g : Nat} {t : TypeId} {a : Ir} (h : Blk w g t #[.int .u64 (uw a.code), .int .u64 (uw a.mask)]) : Irs w (some ⟨g, 0, none⟩) [a] := by
  refine .inr ⟨g, 0, rfl, h.lt, fun k x hk => ?_⟩
  match k with
  | 0 => obtain rfl : a = x := by simpa using hk
         exact ⟨h.cell 0, h.cell 1⟩
  | k + 1 => simp at hk
theorem Irs.two {w : World} {g : Nat} {t : TypeId} {a b : Ir} (h : Blk w g t #[.int .u64 (uw a.code), .int .u64 (uw a.mask), .int .u64 (uw b.code), .int .u64 (uw b.mask)]) : Irs w (some ⟨g, 0, none⟩) [a, b] := by
  refine .inr ⟨g, 0, rfl, h.lt, fun k x hk => ?_⟩
  match k with
  | 0 => obtain rfl : a = x := by simpa using hk
         exact ⟨h.cell 0, h.cell 1⟩
  | 1 => obtain rfl : b = x := by simpa using hk
         exact ⟨h.cell 2, h.cell 3⟩
  | k + 2 => simp at hk

def allI (l : List Ir) : Bool := l.all okI
theorem allI_drop (l : List Ir) (k : Nat) (h : k < l.length) : allI (l.drop k) = (okI l[k] && allI (l.drop (k + 1))) := by
  unfold allI; rw [List.drop_eq_getElem_cons h, List.all_cons]

set_option maxHeartbeats 1000000 in
theorem valid_any (A : Option Addr) (c : Nat) (l : List Ir) (w : World) (hl : Irs w A l) (hn : l.length ≤ 9000000000000) :
    Calls Try.prog 47 #[.slice A l.length c] w fun e w' => e = .returned (.bool (allI l)) ∧ Ext w w' := by
  go_enter Try.func47, Try.ntmps47
  go_wp2_with fail
  go_loopw [7] (fun i wr => ∃ (k : Nat) (z : World), k ≤ l.length ∧ i = .int .i64 k ∧ wr = ext w z ∧ allI l = allI (l.drop k)) (fun i _ => l.length - (intOf i).toNat)
  case atStart => exact ⟨0, w, Nat.zero_le _, rfl, (ext_of (Ext.refl w)).symm, rfl⟩
  case round =>
    obtain ⟨k, z, hk, rfl, rfl, hd⟩ := hrel
    have HD := Lib.hid hd
    clear hd
    by_cases hlt : k < l.length
    · rcases hl with rfl | ⟨b, off, rfl, hb, hc⟩
      · simp at hlt
      have hbo := Old.mk hb
      obtain ⟨c0, c1⟩ := hc k l[k] (List.getElem?_eq_getElem hlt)
      have HD2 := Lib.hid (HD.out.trans (allI_drop l k hlt))
      clear hc HD
      generalize l[k] = x at *
      cases hx : okI x
      · have C := Lib.hid (fun w => (by simp [chkI, hx] : chkI x = 30) ▸ check_any x w)
        rw [hx] at HD2
        clear hx
        go_wp2_with (go_at_call 21; refine Calls.ext (C.out _) fun z2 => ?_)
        go_ret
        exact ⟨ret_of (by rw [HD2.out]; rfl), (((Ext.refl w).ext z).alloc _).ext z2⟩
      · have C := Lib.hid (fun w => (by simp [chkI, hx] : chkI x = 0) ▸ check_any x w)
        rw [hx, Bool.true_and] at HD2
        clear hx
        go_wp2_with (go_at_call 21; refine Calls.ext (C.out _) fun z2 => ?_)
        go_roundw
        case rel => exact ⟨k + 1, _, by omega, by go_num, (ext_of ((((Ext.refl w).ext z).alloc _).ext z2)).symm, HD2.out⟩
        case measure => simp [intOf]; omega
    · have Hv := Lib.hid (show allI l = true by rw [HD.out, List.drop_of_length_le (by omega)]; rfl)
      go_wp2_with fail
      go_ret
      exact ⟨ret_of (by rw [Hv.out]; rfl), (Ext.refl w).ext z⟩

def turnI' (a : Ir) (t : Int) : Ir := ⟨turnW a.code t, turnW a.mask t⟩
set_option maxHeartbeats 1000000 in
theorem turn_any (a : Ir) (t : Int) (w : World) (ht : -7 ≤ t ∧ t ≤ 7) : Calls Try.prog 48 #[a.val, .int .i64 t] w fun e w' => e = .returned (turnI' a t).val ∧ Ext w w' := by
  go_enter Try.func48, Try.ntmps48
  go_wp2_with fail
  refine wp_region_ext (by kernel_rfl) (by kernel_rfl) ?_
  repeat (go_big_quiet_step (fail))
  refine wpQuiet_nil ?_
  rintro _ ⟨z2, rfl⟩
  go_wp2_with (go_at_call 63; refine Calls.same (turnWord_any _ _ _ ht) ?_)
  have hB := (((Blk.new' (w.alloc (.cells #[.int .u64 (uw a.code), .int .u64 (uw a.mask)] 27)) 27 #[.int .u64 0, .int .u64 0] (w.heap.size + 1) (by simp)).ext z2).set_ 0 (.int .u64 (uw (turnW a.code t)))).set_ 1 (.int .u64 (uw (turnW a.mask t)))
  have h0 := hB.cell 0
  have h1 := hB.cell 1
  have hE := ((((((Ext.refl w).alloc (.cells #[.int .u64 (uw a.code), .int .u64 (uw a.mask)] 27)).alloc (.cells #[.int .u64 0, .int .u64 0] 27)).ext z2).setCell (p := ⟨w.heap.size + 1, 0, none⟩) (by simp) (.int .u64 (uw (turnW a.code t)))).setCell (p := ⟨w.heap.size + 1, 1, none⟩) (by simp) (.int .u64 (uw (turnW a.mask t))))
  clear hB
  simp only [List.setIfInBounds_toArray, List.set_cons_zero, List.set_cons_succ, List.getElem?_toArray, List.getElem?_cons_zero, List.getElem?_cons_succ] at h0 h1
  generalize ((ext ((w.alloc (.cells #[.int .u64 (uw a.code), .int .u64 (uw a.mask)] 27)).alloc (.cells #[.int .u64 0, .int .u64 0] 27)) z2).setCell ⟨w.heap.size + 1, 0, none⟩ (.int .u64 (uw (turnW a.code t)))).setCell ⟨w.heap.size + 1, 1, none⟩ (.int .u64 (uw (turnW a.mask t))) = Wf at *
  exact bodyPost_ret (v := (turnI' a t).val) (by simp [results, Try.results48, go_sem, h0, h1, turnI']) rfl ⟨rfl, hE⟩

def ctr (a b : Ir) : Int := (cpop ((a.code ^^^ b.code) &&& (a.mask &&& b.mask)) : Int)
def cdn (a b : Ir) : Int := (cpop (a.mask &&& b.mask) : Int)
set_option maxHeartbeats 1000000 in
theorem compare_any (a b : Ir) (w : World) : Calls Try.prog 53 #[a.val, b.val] w fun e w' => e = .returned (.tuple #[.int .i64 (ctr a b), .int .i64 (cdn a b)]) ∧ Ext w w' := by
  go_enter Try.func53, Try.ntmps53
  go_wp2_with (go_at_call 41; refine Calls.same (ones_any _ _) ?_)
  go_ret2
  exact ⟨rfl, ((Ext.refl w).alloc _).alloc _⟩

def turnV (a : Ir) (t : Int) : Value := if okI a then if inB t (-7) 7 then .tuple #[(turnI' a t).val, .int .i64 0] else .tuple #[Ir.zero.val, .int .i64 2] else .tuple #[Ir.zero.val, .int .i64 30]
set_option maxHeartbeats 1000000 in
theorem Turn_any (a : Ir) (t : Int) (w : World) : Calls Try.prog 23 #[a.val, .int .i64 t] w fun e w' => e = .returned (turnV a t) ∧ Ext w w' := by
  have C := Lib.hid (fun A c w hl => valid_any A c [a] w hl (by simp))
  have hv : allI [a] = okI a := by simp [allI]
  rw [hv] at C
  clear hv
  cases ho : okI a
  · have Hv := Lib.hid (show turnV a t = .tuple #[Ir.zero.val, .int .i64 30] by simp [turnV, ho])
    rw [ho] at C
    go_enter Try.func23, Try.ntmps23
    go_wp2_with (go_at_call 47; refine Calls.ext (C.out _ 1 _ (by exact Irs.one (Blk.new' _ 27 _ _ (by simp)))) fun z => ?_)
    refine bodyPost_ret (v := .tuple #[Ir.zero.val, .int .i64 30]) (by simp [results, Try.results23, go_sem, Ir.zero, uw_zero]) rfl ⟨ret_of Hv.out.symm, ?_⟩
    repeat' (first | with_reducible exact Ext.refl _ | with_reducible refine Ext.alloc ?_ _ | with_reducible refine Ext.ext ?_ _ | with_reducible refine Ext.setCell ?_ (by simp) _)
  · rw [ho] at C
    cases hb : inB t (-7) 7
    · have Hv := Lib.hid (show turnV a t = .tuple #[Ir.zero.val, .int .i64 2] by simp [turnV, ho, hb])
      have C2 := Lib.hid (fun w => hb ▸ within_any t (-7) 7 w)
      clear hb
      go_enter Try.func23, Try.ntmps23
      go_wp2_with (first | (go_at_call 47; refine Calls.ext (C.out _ 1 _ (by exact Irs.one (Blk.new' _ 27 _ _ (by simp)))) fun z => ?_) | (go_at_call 45; refine Calls.same (C2.out _) ?_))
      refine bodyPost_ret (v := .tuple #[Ir.zero.val, .int .i64 2]) (by simp [results, Try.results23, go_sem, Ir.zero, uw_zero]) rfl ⟨ret_of Hv.out.symm, ?_⟩
      repeat' (first | with_reducible exact Ext.refl _ | with_reducible refine Ext.alloc ?_ _ | with_reducible refine Ext.ext ?_ _ | with_reducible refine Ext.setCell ?_ (by simp) _)
    · have Hv := Lib.hid (show turnV a t = .tuple #[(turnI' a t).val, .int .i64 0] by simp [turnV, ho, hb])
      have C2 := Lib.hid (fun w => hb ▸ within_any t (-7) 7 w)
      have ht : -7 ≤ t ∧ t ≤ 7 := by simpa [inB] using hb
      clear hb
      go_enter Try.func23, Try.ntmps23
      go_wp2_with (first | (go_at_call 47; refine Calls.ext (C.out _ 1 _ (by exact Irs.one (Blk.new' _ 27 _ _ (by simp)))) fun z => ?_) | (go_at_call 45; refine Calls.same (C2.out _) ?_) | (go_at_call 48; refine Calls.ext (turn_any a t _ ht) fun z2 => ?_))
      refine bodyPost_ret (v := .tuple #[(turnI' a t).val, .int .i64 0]) (by simp [results, Try.results23, go_sem]) rfl ⟨ret_of Hv.out.symm, ?_⟩
      repeat' (first | with_reducible exact Ext.refl _ | with_reducible refine Ext.alloc ?_ _ | with_reducible refine Ext.ext ?_ _ | with_reducible refine Ext.setCell ?_ (by simp) _)
end Go.Proofs.Ytcacbolbedhcoaa
