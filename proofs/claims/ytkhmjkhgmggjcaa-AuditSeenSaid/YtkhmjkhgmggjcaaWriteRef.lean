/- whorlref11.Write and SameLog: what they return. -/
import Derived.Test.YtkhmjkhgmggjcaaWrite
import Derived.Deep.RegionHeld3
namespace Go.Proofs.Ytkhmjkhgmggjcaa
open Go.RowKit

theorem wargB_ref (l : List E) (t k p : Int) (hok : okB l = true) :
    wargB l t k p = (fromB 0 1099511627776 t && !(decide (0 < l.length) && decide (t < (lastE l).time)) && fromB 0 7 k && fromB 0 63 p) := by
  have h1 : fromB (lastE l).time 1099511627776 t = (fromB 0 1099511627776 t && !(decide (0 < l.length) && decide (t < (lastE l).time))) := by
    rcases List.eq_nil_or_concat l with rfl | ⟨l', x, rfl⟩
    · simp [lastE, E.zero]
    · have hx : 0 ≤ x.time := by
        have : ∀ (m : List E) (q : E), chkB q (m ++ [x]) = true → fitsB x = true := by
          intro m
          induction m with
          | nil => intro q h; simp [chkB] at h; exact h.1.1
          | cons y m ih => intro q h; simp only [List.cons_append, chkB, Bool.and_eq_true] at h; exact ih y h.2
        have hf := this l' E.zero (by simp [okB] at hok; exact hok.2)
        simp [fitsB, fromB] at hf; omega
      have hlast : lastE (l'.concat x) = x := by simp [lastE]
      rw [hlast, Bool.eq_iff_iff]
      simp [fromB]
      omega
  rw [wargB, h1]

def x0E (t k p d s : Int) : E := ⟨t, k, p, d, s, bits .xor .u64 d s, 0⟩

set_option maxRecDepth 100000 in
set_option maxHeartbeats 2000000 in
theorem refWrite_ok (A : Option Addr) (c : Nat) (l : List E) (t k p d s : Int) (w : World) (hl : Log w A l) (hok : ∀ x ∈ l, x.ok) (hn : l.length ≤ 100)
    (hg : okB l = true) (h1 : fromB 0 1099511627776 t = true) (h0 : (decide (0 < l.length) && decide (t < (lastE l).time)) = false) (h2 : fromB 0 7 k = true) (h3 : fromB 0 63 p = true) (h60 : l.length ≠ 60) :
    Calls Try.prog 29 #[.slice A l.length c, .int .i64 t, .int .i64 k, .int .i64 p, .int .u64 d, .int .u64 s] w (RetS2 54 7 (l ++ [newE l t k p d s]).length (flat (l ++ [newE l t k p d s])) (.int .i64 0) w) := by
  have HOK := Lib.hid hok
  have HN := Lib.hid hl
  have h60' : ((l.length : Int) == 60) = false := by simp; omega
  clear h60 hok
  rcases Nat.eq_zero_or_pos l.length with hz | hz
  · have hz' : decide (0 < l.length) = false := by rw [hz]; rfl
    clear h0 hz hl
    go_enter Try.func29, Try.ntmps29
    go_wp2_with (first | (go_at_call 49; refine Calls.ext (chained_any A c l _ HN.out HOK.out hn) fun z1 => ?_) | (go_at_call 52; refine Calls.same (within_any _ _ _ _) ?_))
    have HOK2 := HOK; clear HOK
    refine wp_abs w (fun W => Blk W (ext w z1).heap.size 54 (x0E t k p d s).cells) (((Ext.refl w).ext z1).alloc _) (Blk.new _ _ _) (fun z2 hB => ?_)
    have hBw := Old.mk hB.lt
    have hBb : w.heap.size ≤ (ext w z1).heap.size := ext_size w z1
    generalize (ext w z1).heap.size = B at *
    have e0 := hB.cell 0
    have e1 := hB.cell 1
    have e2 := hB.cell 2
    have e3 := hB.cell 3
    have e4 := hB.cell 4
    have e5 := hB.cell 5
    have e6 := hB.cell 6
    have hF := hB.frozen
    simp only [x0E, E.cells, List.getElem?_toArray, List.getElem?_cons_zero, List.getElem?_cons_succ] at e0 e1 e2 e3 e4 e5 e6
    have HB := Lib.hid hB
    have HL := Lib.hid (HN.out.grow (Ext.ext_self w z2))
    have HW := Lib.hid (Ext.ext_self w z2)
    clear hB
    generalize ext w z2 = W at *
    go_region_law (first
      | (refine step_call_ext rfl 50 [.tmp 59] #[39] rfl (by kernel_rfl) [.slice A l.length c] rfl (refLast_any A c l _ (by exact HL.out.grow (by repeat' (first | with_reducible exact Ext.refl _ | with_reducible refine Ext.alloc ?_ _ | with_reducible refine Ext.ext ?_ _ | with_reducible refine Ext.drew ?_))) hn) ?_; intro z3)
      | (refine step_call_ext rfl 55 [.tmp 60, .tmp 61] #[24, 54] rfl (by kernel_rfl) [.int .u64 (lastE l).link, (x0E t k p d s).val] rfl (refLinked_any (lastE l).link (x0E t k p d s) _) ?_; intro z4))
    all_goals
      go_wp2_with fail
      refine wp_abs w (fun W => Blk W B 54 (newE l t k p d s).cells) (((HW.out.drew.ext z3).ext z4).setCell hBb _) (by
        have hb1 := ((HB.out.drew.ext z3).ext z4).set_ 6 (.int .u64 (linkI (lastE l).link (x0E t k p d s)))
        simpa [newE, E.cells, x0E] using hb1) (fun z5 hB => ?_)
      clear e0 e1 e2 e3 e4 e5 e6 hF HB HL hBw
      have HW5 := Lib.hid (Ext.ext_self w z5)
      have HL := Lib.hid (HN.out.grow (Ext.ext_self w z5)).slc
      have hBw := Old.mk hB.lt
      generalize newE l t k p d s = y at *
      have e0 := hB.cell 0
      have e1 := hB.cell 1
      have e2 := hB.cell 2
      have e3 := hB.cell 3
      have e4 := hB.cell 4
      have e5 := hB.cell 5
      have e6 := hB.cell 6
      simp only [E.cells, List.getElem?_toArray, List.getElem?_cons_zero, List.getElem?_cons_succ] at e0 e1 e2 e3 e4 e5 e6
      have HB := Lib.hid hB
      clear hB
      generalize ext w z5 = V at *
      go_region_held3 (fun w' => w'.cell? ⟨B, 0, none⟩ = some (.int .i64 y.time) ∧ w'.cell? ⟨B, 1, none⟩ = some (.int .i64 y.kind) ∧ w'.cell? ⟨B, 2, none⟩ = some (.int .i64 y.person) ∧ w'.cell? ⟨B, 3, none⟩ = some (.int .u64 y.detail) ∧ w'.cell? ⟨B, 4, none⟩ = some (.int .u64 y.salt) ∧ w'.cell? ⟨B, 5, none⟩ = some (.int .u64 y.seal_) ∧ w'.cell? ⟨B, 6, none⟩ = some (.int .u64 y.link)) (simp [go_sem, e0, e1, e2, e3, e4, e5, e6]) (first
        | (refine step_append_new rfl infoE (.tmp 64) (.tmp 65) rfl V.heap.size (by first | (simp; done) | (simp; omega)) _ rfl (own_empty 7 (by first | (simp; done) | (simp; omega)) (by repeat' (first | with_reducible exact Blk.new' _ _ _ _ (by simp) | with_reducible refine Blk.ext ?_ _ | with_reducible refine Blk.drew ?_ | with_reducible refine Blk.alloc ?_ _))) A l.length c (flat l) rfl (by exact HL.out.grow (by repeat' (first | with_reducible exact Ext.refl _ | with_reducible refine Ext.alloc ?_ _ | with_reducible refine Ext.ext ?_ _ | with_reducible refine Ext.drew ?_))) (flat_one' l) (by omega) (by omega) ?_
           intro A1 c1 z6 hown1)
        | (refine step_append_ext rfl V (by repeat' (first | with_reducible exact Ext.refl _ | with_reducible refine Ext.alloc ?_ _ | with_reducible refine Ext.ext ?_ _ | with_reducible refine Ext.drew ?_)) infoE (.tmp 66) (.tmp 68) rfl (.slice A1 l.length c1) l.length (flat l) rfl (by first | exact hown1 | exact own_grow hown1 ((Ext.refl _).alloc _)) _ 1 1 y.cells.toList rfl (Slc.of_blk (cs := y.cells) (t := 54) (by repeat' (first | with_reducible exact Blk.new' _ _ _ _ (by simp) | with_reducible refine Blk.ext ?_ _ | with_reducible refine Blk.drew ?_ | with_reducible refine Blk.alloc ?_ _)) rfl) (by simp [Value.oneCell']) (by omega) (by omega) ?_
           intro A2 c2 z7 hown2))
      all_goals
        go_wp2_with fail
        go_ret2
        refine ⟨A2, c2, ?_, ?_, HW5.out.ext _⟩
        · rfl
        · have h3 := own_mono hown2 HW5.out.size
          rw [flat_append, flat_one]
          exact h3
  · have h0' : decide (t < (lastE l).time) = false := by simpa [hz] using h0
    clear h0
    rcases hl with rfl | ⟨b, off, rfl, hb, hc⟩
    · simp at hz
    have hb' := Old.mk hb
    have hlast : l[l.length - 1]? = some (lastE l) := by
      rcases List.eq_nil_or_concat l with rfl | ⟨l', x, rfl⟩
      · simp at hz
      · simp [lastE]
    obtain ⟨c0, -⟩ := hc (l.length - 1) (lastE l) hlast
    clear hc hlast
    go_enter Try.func29, Try.ntmps29
    go_wp2_with (first | (go_at_call 49; refine Calls.ext (chained_any _ c l _ HN.out HOK.out hn) fun z1 => ?_) | (go_at_call 52; refine Calls.same (within_any _ _ _ _) ?_))
    clear c0 hb hb'
    have HOK2 := HOK; clear HOK
    refine wp_abs w (fun W => Blk W (ext w z1).heap.size 54 (x0E t k p d s).cells) (((Ext.refl w).ext z1).alloc _) (Blk.new _ _ _) (fun z2 hB => ?_)
    have hBw := Old.mk hB.lt
    have hBb : w.heap.size ≤ (ext w z1).heap.size := ext_size w z1
    generalize (ext w z1).heap.size = B at *
    have e0 := hB.cell 0
    have e1 := hB.cell 1
    have e2 := hB.cell 2
    have e3 := hB.cell 3
    have e4 := hB.cell 4
    have e5 := hB.cell 5
    have e6 := hB.cell 6
    have hF := hB.frozen
    simp only [x0E, E.cells, List.getElem?_toArray, List.getElem?_cons_zero, List.getElem?_cons_succ] at e0 e1 e2 e3 e4 e5 e6
    have HB := Lib.hid hB
    have HL := Lib.hid (HN.out.grow (Ext.ext_self w z2))
    have HW := Lib.hid (Ext.ext_self w z2)
    clear hB
    generalize ext w z2 = W at *
    go_region_law (first
      | (refine step_call_ext rfl 50 [.tmp 59] #[39] rfl (by kernel_rfl) [.slice (some ⟨b, off, none⟩) l.length c] rfl (refLast_any _ c l _ (by exact HL.out.grow (by repeat' (first | with_reducible exact Ext.refl _ | with_reducible refine Ext.alloc ?_ _ | with_reducible refine Ext.ext ?_ _ | with_reducible refine Ext.drew ?_))) hn) ?_; intro z3)
      | (refine step_call_ext rfl 55 [.tmp 60, .tmp 61] #[24, 54] rfl (by kernel_rfl) [.int .u64 (lastE l).link, (x0E t k p d s).val] rfl (refLinked_any (lastE l).link (x0E t k p d s) _) ?_; intro z4))
    all_goals
      go_wp2_with fail
      refine wp_abs w (fun W => Blk W B 54 (newE l t k p d s).cells) (((HW.out.drew.ext z3).ext z4).setCell hBb _) (by
        have hb1 := ((HB.out.drew.ext z3).ext z4).set_ 6 (.int .u64 (linkI (lastE l).link (x0E t k p d s)))
        simpa [newE, E.cells, x0E] using hb1) (fun z5 hB => ?_)
      clear e0 e1 e2 e3 e4 e5 e6 hF HB HL hBw
      have HW5 := Lib.hid (Ext.ext_self w z5)
      have HL := Lib.hid (HN.out.grow (Ext.ext_self w z5)).slc
      have hBw := Old.mk hB.lt
      generalize newE l t k p d s = y at *
      have e0 := hB.cell 0
      have e1 := hB.cell 1
      have e2 := hB.cell 2
      have e3 := hB.cell 3
      have e4 := hB.cell 4
      have e5 := hB.cell 5
      have e6 := hB.cell 6
      simp only [E.cells, List.getElem?_toArray, List.getElem?_cons_zero, List.getElem?_cons_succ] at e0 e1 e2 e3 e4 e5 e6
      have HB := Lib.hid hB
      clear hB
      generalize ext w z5 = V at *
      go_region_held3 (fun w' => w'.cell? ⟨B, 0, none⟩ = some (.int .i64 y.time) ∧ w'.cell? ⟨B, 1, none⟩ = some (.int .i64 y.kind) ∧ w'.cell? ⟨B, 2, none⟩ = some (.int .i64 y.person) ∧ w'.cell? ⟨B, 3, none⟩ = some (.int .u64 y.detail) ∧ w'.cell? ⟨B, 4, none⟩ = some (.int .u64 y.salt) ∧ w'.cell? ⟨B, 5, none⟩ = some (.int .u64 y.seal_) ∧ w'.cell? ⟨B, 6, none⟩ = some (.int .u64 y.link)) (simp [go_sem, e0, e1, e2, e3, e4, e5, e6]) (first
        | (refine step_append_new rfl infoE (.tmp 64) (.tmp 65) rfl V.heap.size (by first | (simp; done) | (simp; omega)) _ rfl (own_empty 7 (by first | (simp; done) | (simp; omega)) (by repeat' (first | with_reducible exact Blk.new' _ _ _ _ (by simp) | with_reducible refine Blk.ext ?_ _ | with_reducible refine Blk.drew ?_ | with_reducible refine Blk.alloc ?_ _))) (some ⟨b, off, none⟩) l.length c (flat l) rfl (by exact HL.out.grow (by repeat' (first | with_reducible exact Ext.refl _ | with_reducible refine Ext.alloc ?_ _ | with_reducible refine Ext.ext ?_ _ | with_reducible refine Ext.drew ?_))) (flat_one' l) (by omega) (by omega) ?_
           intro A1 c1 z6 hown1)
        | (refine step_append_ext rfl V (by repeat' (first | with_reducible exact Ext.refl _ | with_reducible refine Ext.alloc ?_ _ | with_reducible refine Ext.ext ?_ _ | with_reducible refine Ext.drew ?_)) infoE (.tmp 66) (.tmp 68) rfl (.slice A1 l.length c1) l.length (flat l) rfl (by first | exact hown1 | exact own_grow hown1 ((Ext.refl _).alloc _)) _ 1 1 y.cells.toList rfl (Slc.of_blk (cs := y.cells) (t := 54) (by repeat' (first | with_reducible exact Blk.new' _ _ _ _ (by simp) | with_reducible refine Blk.ext ?_ _ | with_reducible refine Blk.drew ?_ | with_reducible refine Blk.alloc ?_ _)) rfl) (by simp [Value.oneCell']) (by omega) (by omega) ?_
           intro A2 c2 z7 hown2))
      all_goals
        go_wp2_with fail
        go_ret2
        refine ⟨A2, c2, ?_, ?_, HW5.out.ext _⟩
        · rfl
        · have h3 := own_mono hown2 HW5.out.size
          rw [flat_append, flat_one]
          exact h3

set_option maxRecDepth 100000 in
set_option maxHeartbeats 2000000 in
theorem refWrite_any (A : Option Addr) (c : Nat) (l : List E) (t k p d s : Int) (w : World) (hl : Log w A l) (hok : ∀ x ∈ l, x.ok) (hn : l.length ≤ 100) :
    Calls Try.prog 29 #[.slice A l.length c, .int .i64 t, .int .i64 k, .int .i64 p, .int .u64 d, .int .u64 s] w (RetS2 54 7 (writeL l t k p d s).length (flat (writeL l t k p d s)) (.int .i64 (writeI l t k p)) w) := by
  have HOK := Lib.hid hok
  have HN := Lib.hid hl
  cases hg : okB l
  · have Hv := Lib.hid (show writeL l t k p d s = [] ∧ writeI l t k p = 110 by simp [writeL, writeI, hg])
    clear hok
    go_enter Try.func29, Try.ntmps29
    go_wp2_with (first | (go_at_call 49; refine Calls.ext (chained_any A c l _ HN.out HOK.out hn) fun z1 => ?_))
    go_ret2
    rw [Hv.out.1, Hv.out.2]
    exact ⟨none, 0, rfl, own_nil _ _ _ _, (Ext.refl w).ext _⟩
  · have hwr := wargB_ref l t k p hg
    by_cases hgood : fromB 0 1099511627776 t = true ∧ (decide (0 < l.length) && decide (t < (lastE l).time)) = false ∧ fromB 0 7 k = true ∧ fromB 0 63 p = true
    · obtain ⟨h1, h0, h2, h3⟩ := hgood
      have hw : wargB l t k p = true := by rw [hwr, h1, h0, h2, h3]; rfl
      by_cases h60 : l.length = 60
      · have Hv := Lib.hid (show writeL l t k p d s = [] ∧ writeI l t k p = 9 by simp [writeL, writeI, hg, hw, h60])
        clear hok hwr hw
        have h60' : ((l.length : Int) == 60) = true := by simp; omega
        have hz : 0 < l.length := by omega
        have h0' : decide (t < (lastE l).time) = false := by simpa [hz] using h0
        clear h0 h60
        rcases hl with rfl | ⟨b, off, rfl, hb, hc⟩
        · simp at hz
        have hb' := Old.mk hb
        have hlast : l[l.length - 1]? = some (lastE l) := by
          rcases List.eq_nil_or_concat l with rfl | ⟨l', x, rfl⟩
          · simp at hz
          · simp [lastE]
        obtain ⟨c0, -⟩ := hc (l.length - 1) (lastE l) hlast
        clear hc hlast
        go_enter Try.func29, Try.ntmps29
        go_wp2_with (first | (go_at_call 49; refine Calls.ext (chained_any _ c l _ HN.out HOK.out hn) fun z1 => ?_) | (go_at_call 52; refine Calls.same (within_any _ _ _ _) ?_))
        go_ret2
        rw [Hv.out.1, Hv.out.2]
        exact ⟨none, 0, rfl, own_nil _ _ _ _, (Ext.refl w).ext _⟩
      · have Hv := show writeL l t k p d s = l ++ [newE l t k p d s] ∧ writeI l t k p = 0 by simp [writeL, writeI, hg, hw, h60]
        rw [Hv.1, Hv.2]
        exact refWrite_ok A c l t k p d s w hl hok hn hg h1 h0 h2 h3 h60
    · have hw : wargB l t k p = false := by
        rw [hwr]
        cases e1 : fromB 0 1099511627776 t <;> cases e2 : (decide (0 < l.length) && decide (t < (lastE l).time)) <;> cases e3 : fromB 0 7 k <;> cases e4 : fromB 0 63 p <;> simp_all
      have Hv := Lib.hid (show writeL l t k p d s = [] ∧ writeI l t k p = 2 by simp [writeL, writeI, hg, hw])
      clear hok hwr hw
      have hcases : fromB 0 1099511627776 t = false ∨ (fromB 0 1099511627776 t = true ∧ (decide (0 < l.length) && decide (t < (lastE l).time)) = true) ∨
          (fromB 0 1099511627776 t = true ∧ (decide (0 < l.length) && decide (t < (lastE l).time)) = false ∧ fromB 0 7 k = false) ∨ (fromB 0 1099511627776 t = true ∧ (decide (0 < l.length) && decide (t < (lastE l).time)) = false ∧ fromB 0 7 k = true ∧ fromB 0 63 p = false) := by
        cases e1 : fromB 0 1099511627776 t <;> cases e2 : (decide (0 < l.length) && decide (t < (lastE l).time)) <;> cases e3 : fromB 0 7 k <;> cases e4 : fromB 0 63 p <;> simp_all
      clear hgood
      rcases Nat.eq_zero_or_pos l.length with hz | hz
      · have hz' : decide (0 < l.length) = false := by rw [hz]; rfl
        rw [hz'] at hcases
        simp only [Bool.false_and, Bool.false_eq_true, and_false, false_or, true_and] at hcases
        clear hz hl
        rcases hcases with h1 | ⟨h1, h2⟩ | ⟨h1, h2, h3⟩
        all_goals
          go_enter Try.func29, Try.ntmps29
          go_wp2_with (first | (go_at_call 49; refine Calls.ext (chained_any A c l _ HN.out HOK.out hn) fun z1 => ?_) | (go_at_call 52; refine Calls.same (within_any _ _ _ _) ?_))
          go_ret2
          rw [Hv.out.1, Hv.out.2]
          exact ⟨none, 0, rfl, own_nil _ _ _ _, (Ext.refl w).ext _⟩
      · have hz' : decide (0 < l.length) = true := by simpa using hz
        rw [hz'] at hcases
        simp only [Bool.true_and] at hcases
        rcases hl with rfl | ⟨b, off, rfl, hb, hc⟩
        · simp at hz
        have hb' := Old.mk hb
        have hlast : l[l.length - 1]? = some (lastE l) := by
          rcases List.eq_nil_or_concat l with rfl | ⟨l', x, rfl⟩
          · simp at hz
          · simp [lastE]
        obtain ⟨c0, -⟩ := hc (l.length - 1) (lastE l) hlast
        clear hc hlast
        rcases hcases with h1 | ⟨h1, h0'⟩ | ⟨h1, h0', h2⟩ | ⟨h1, h0', h2, h3⟩
        all_goals
          go_enter Try.func29, Try.ntmps29
          go_wp2_with (first | (go_at_call 49; refine Calls.ext (chained_any _ c l _ HN.out HOK.out hn) fun z1 => ?_) | (go_at_call 52; refine Calls.same (within_any _ _ _ _) ?_))
          go_ret2
          rw [Hv.out.1, Hv.out.2]
          exact ⟨none, 0, rfl, own_nil _ _ _ _, (Ext.refl w).ext _⟩

set_option maxHeartbeats 1000000 in
theorem sameLog_same (A B : Option Addr) (c d : Nat) (l : List E) (w : World) (ha : Log w A l) (hb : Log w B l) (hn : l.length ≤ 200) :
    Calls Try.prog 32 #[.slice A l.length c, .slice B l.length d] w fun e w' => e = .returned (.bool true) ∧ Ext w w' := by
  go_enter Try.func32, Try.ntmps32
  go_wp2_with fail
  go_loopw [5] (fun i wr => ∃ (k : Nat) (z : World), k ≤ l.length ∧ i = .int .i64 k ∧ wr = ext w z) (fun i _ => l.length - (intOf i).toNat)
  case atStart => exact ⟨0, w, Nat.zero_le _, rfl, (ext_of (Ext.refl w)).symm⟩
  case round =>
    obtain ⟨k, z, hk, rfl, rfl⟩ := hrel
    by_cases hlt : k < l.length
    · rcases ha with rfl | ⟨b, off, rfl, hb1, hc⟩
      · simp at hlt
      rcases hb with rfl | ⟨b2, off2, rfl, hb2, hc2⟩
      · simp at hlt
      have ho1 := Old.mk hb1
      have ho2 := Old.mk hb2
      obtain ⟨c0, c1, c2, c3, c4, c5, c6⟩ := hc k l[k] (List.getElem?_eq_getElem hlt)
      obtain ⟨d0, d1, d2, d3, d4, d5, d6⟩ := hc2 k l[k] (List.getElem?_eq_getElem hlt)
      clear hc hc2
      generalize l[k] = x at *
      go_wp2_with fail
      refine wp_region_ext (by kernel_rfl) (by kernel_rfl) ?_
      repeat (go_big_quiet_step (fail))
      refine wpQuiet_nil ?_
      rintro _ ⟨z2, rfl⟩
      go_wp2_with fail
      go_roundw
      case rel => exact ⟨k + 1, _, by omega, by go_num, (ext_of (((Ext.refl w).ext z).ext z2)).symm⟩
      case measure => simp [intOf]; omega
    · go_wp2_with fail
      go_ret
      exact ⟨rfl, (Ext.refl w).ext z⟩
end Go.Proofs.Ytkhmjkhgmggjcaa
