/- The exported places, both sides. -/
import Derived.Test.YthejomcibobieaaPlaced
namespace Go.Proofs.Ythejomcibobieaa
open Go.RowKit

def allC : Cl := ⟨3, 4, 1, 0, 0⟩
theorem allC_ok : allC.ok := ⟨by decide, by decide, by decide, by decide, by decide⟩
def placeE (m : Mi) (v : Mv) (b : Nat → Int) : Int := if okM m then (if isMove allC v && isBend 1 b then 0 else 2) else 20
def placeT (m : Mi) (v : Mv) (b : Nat → Int) : Value := if placeE m v b = 0 then .tuple #[.int .i64 (placeX m v), .int .i64 (placeY m v b), .int .i64 (turnD m v.turn), .int .i64 0] else .tuple #[.int .i64 0, .int .i64 0, .int .i64 0, .int .i64 (placeE m v b)]
theorem okP_one (m : Mi) : okP [m] = okM m := by
  unfold okP
  simp only [chP]
  cases h : okM m
  · rfl
  · have := okM_parts h
    have e : decide (-1 < m.y * 64 + m.x) = true := by simp; omega
    rw [e]; rfl
theorem place_1 {m : Mi} {v : Mv} {b : Nat → Int} (h : okM m = false) : placeT m v b = .tuple #[.int .i64 0, .int .i64 0, .int .i64 0, .int .i64 20] := by
  unfold placeT placeE; rw [h]; rfl
theorem place_2 {m : Mi} {v : Mv} {b : Nat → Int} (h : okM m = true) (h2 : (isMove allC v && isBend 1 b) = false) : placeT m v b = .tuple #[.int .i64 0, .int .i64 0, .int .i64 0, .int .i64 2] := by
  unfold placeT placeE; rw [h, h2]; rfl
theorem place_3 {m : Mi} {v : Mv} {b : Nat → Int} (h : okM m = true) (h2 : (isMove allC v && isBend 1 b) = true) : placeT m v b = .tuple #[.int .i64 (placeX m v), .int .i64 (placeY m v b), .int .i64 (turnD m v.turn), .int .i64 0] := by
  unfold placeT placeE; rw [h, h2]; rfl
theorem move_parts {v : Mv} {c : Cl} (h : isMove c v = true) : (-c.turns ≤ v.turn ∧ v.turn ≤ c.turns) ∧ (-c.shift ≤ v.dx ∧ v.dx ≤ c.shift) ∧ (-c.shift ≤ v.dy ∧ v.dy ≤ c.shift) := by
  unfold isMove at h
  simp only [Bool.and_eq_true, inB_iff] at h
  exact ⟨h.1.1, h.1.2, h.2⟩
theorem bend_parts {e : Int} {b : Nat → Int} (h : isBend e b = true) : ∀ i, i < 4 → -e ≤ b i ∧ b i ≤ e := fun i hi => by
  unfold isBend at h
  rw [Bool.and_eq_true] at h
  exact inB_iff.1 (List.all_eq_true.1 h.1 i (List.mem_range.2 hi))
theorem pts_one {w : World} {g : Nat} {m : Mi} (h : Blk w g 24 #[.int .i64 m.x, .int .i64 m.y, .int .u8 m.kind, .int .u8 m.dir]) : Pts w (some ⟨g, 0, none⟩) [m] :=
  .inr ⟨g, 0, rfl, h.lt, fun k x hk => by
    match k, hk with
    | 0, hk =>
      have : m = x := by simpa using hk
      subst this
      exact ⟨h.cell 0, h.cell 1, h.cell 2, h.cell 3⟩⟩
theorem turn_in {c s x y : Int} (hc : -64 ≤ c ∧ c ≤ 64) (hs : -64 ≤ s ∧ s ≤ 64) (hx : -32 ≤ x ∧ x ≤ 31) (hy : -32 ≤ y ∧ y ≤ 31) : (-200 ≤ 32 + (c * x - s * y + 32) / 64 ∧ 32 + (c * x - s * y + 32) / 64 ≤ 200) ∧ (-200 ≤ 32 + (s * x + c * y + 32) / 64 ∧ 32 + (s * x + c * y + 32) / 64 ≤ 200) := by
  have p1 := prod_in hc hx
  have p2 := prod_in hs hy
  have p3 := prod_in hs hx
  have p4 := prod_in hc hy
  omega
theorem sin_in (n : Int) : -64 ≤ sinI n ∧ sinI n ≤ 64 := by unfold sinI; repeat' split <;> omega
theorem turnX_in {m : Mi} {n : Int} (hx : 0 ≤ m.x ∧ m.x ≤ 63) (hy : 0 ≤ m.y ∧ m.y ≤ 63) : -200 ≤ turnX m n ∧ turnX m n ≤ 200 :=
  (turn_in (by have := cos_in n; omega) (sin_in n) (by omega) (by omega)).1
theorem turnY_in {m : Mi} {n : Int} (hx : 0 ≤ m.x ∧ m.x ≤ 63) (hy : 0 ≤ m.y ∧ m.y ≤ 63) : -200 ≤ turnY m n ∧ turnY m n ≤ 200 :=
  (turn_in (by have := cos_in n; omega) (sin_in n) (by omega) (by omega)).2
set_option maxRecDepth 100000 in
set_option maxHeartbeats 4000000 in
theorem Place_any (m : Mi) (v : Mv) (b : Nat → Int) (hd : 0 ≤ m.dir) (w : World) : Calls Try.prog 17 #[m.val, v.val, bendV b] w fun e w' => e = .returned (placeT m v b) ∧ Ext w w' := by
  have C1 := Lib.hid (fun g w (h : Blk w g 24 #[.int .i64 m.x, .int .i64 m.y, .int .u8 m.kind, .int .u8 m.dir]) => check_any (some ⟨g, 0, none⟩) 1 [m] w (pts_one h) (by simp))
  cases hm : okM m
  · have HV9 := Lib.hid (place_1 (v := v) (b := b) hm)
    have e : chkI [m] = 20 := by unfold chkI; rw [okP_one, hm]; rfl
    rw [e] at C1
    go_enter Try.func17, Try.ntmps17
    go_wp2_with fail
    refine Calls.ext (C1.out _ _ (Blk.new' _ 24 _ _ (by simp))) fun z1 => ?_
    have HM := Lib.hid ((((((Blk.new w 24 #[.int .i64 m.x, .int .i64 m.y, .int .u8 m.kind, .int .u8 m.dir]).alloc (.cells #[.int .i64 v.turn, .int .i64 v.dx, .int .i64 v.dy] 26)).alloc (.cells #[.int .i64 (b 0), .int .i64 (b 1), .int .i64 (b 2), .int .i64 (b 3)] 28))).alloc (.cells #[.int .i64 m.x, .int .i64 m.y, .int .u8 m.kind, .int .u8 m.dir] 24)).ext z1)
    have HV := Lib.hid ((((Blk.new' (w.alloc (.cells #[.int .i64 m.x, .int .i64 m.y, .int .u8 m.kind, .int .u8 m.dir] 24)) 26 #[.int .i64 v.turn, .int .i64 v.dx, .int .i64 v.dy] (w.heap.size + 1) (by simp)).alloc (.cells #[.int .i64 (b 0), .int .i64 (b 1), .int .i64 (b 2), .int .i64 (b 3)] 28)).alloc (.cells #[.int .i64 m.x, .int .i64 m.y, .int .u8 m.kind, .int .u8 m.dir] 24)).ext z1)
    have HB := Lib.hid (((Blk.new' ((w.alloc (.cells #[.int .i64 m.x, .int .i64 m.y, .int .u8 m.kind, .int .u8 m.dir] 24)).alloc (.cells #[.int .i64 v.turn, .int .i64 v.dx, .int .i64 v.dy] 26)) 28 #[.int .i64 (b 0), .int .i64 (b 1), .int .i64 (b 2), .int .i64 (b 3)] (w.heap.size + 1 + 1) (by simp)).alloc (.cells #[.int .i64 m.x, .int .i64 m.y, .int .u8 m.kind, .int .u8 m.dir] 24)).ext z1)
    have HE := Lib.hid ((((((Ext.refl w).alloc (.cells #[.int .i64 m.x, .int .i64 m.y, .int .u8 m.kind, .int .u8 m.dir] 24)).alloc (.cells #[.int .i64 v.turn, .int .i64 v.dx, .int .i64 v.dy] 26)).alloc (.cells #[.int .i64 (b 0), .int .i64 (b 1), .int .i64 (b 2), .int .i64 (b 3)] 28)).alloc (.cells #[.int .i64 m.x, .int .i64 m.y, .int .u8 m.kind, .int .u8 m.dir] 24)).ext z1)
    generalize ext ((((w.alloc (.cells #[.int .i64 m.x, .int .i64 m.y, .int .u8 m.kind, .int .u8 m.dir] 24)).alloc (.cells #[.int .i64 v.turn, .int .i64 v.dx, .int .i64 v.dy] 26)).alloc (.cells #[.int .i64 (b 0), .int .i64 (b 1), .int .i64 (b 2), .int .i64 (b 3)] 28)).alloc (.cells #[.int .i64 m.x, .int .i64 m.y, .int .u8 m.kind, .int .u8 m.dir] 24)) z1 = W at *
    go_wp2_with fail
    refine bodyPost_ret (v := .tuple #[.int .i64 0, .int .i64 0, .int .i64 0, .int .i64 20]) (by simp [results, Try.results17, go_sem]) rfl ⟨ret_of HV9.out.symm, ?_⟩
    repeat' (first | with_reducible exact HE.out | with_reducible refine Ext.alloc ?_ _ | with_reducible refine Ext.ext ?_ _ | with_reducible refine Ext.setCell ?_ (by have := HE.out.size; simp; omega) _)
  · have e : chkI [m] = 0 := by unfold chkI; rw [okP_one, hm]; rfl
    rw [e] at C1
    have C2 := Lib.hid (fun w => move_any allC v allC_ok w)
    have C3 := Lib.hid (fun w => bend_any allC b allC_ok.elastic w)
    cases h2 : isMove allC v
    · have HV9 := Lib.hid (place_2 (v := v) (b := b) hm (by rw [h2]; rfl))
      rw [h2] at C2
      go_enter Try.func17, Try.ntmps17
      go_wp2_with fail
      refine Calls.ext (C1.out _ _ (Blk.new' _ 24 _ _ (by simp))) fun z1 => ?_
      have HM := Lib.hid ((((((Blk.new w 24 #[.int .i64 m.x, .int .i64 m.y, .int .u8 m.kind, .int .u8 m.dir]).alloc (.cells #[.int .i64 v.turn, .int .i64 v.dx, .int .i64 v.dy] 26)).alloc (.cells #[.int .i64 (b 0), .int .i64 (b 1), .int .i64 (b 2), .int .i64 (b 3)] 28))).alloc (.cells #[.int .i64 m.x, .int .i64 m.y, .int .u8 m.kind, .int .u8 m.dir] 24)).ext z1)
      have HV := Lib.hid ((((Blk.new' (w.alloc (.cells #[.int .i64 m.x, .int .i64 m.y, .int .u8 m.kind, .int .u8 m.dir] 24)) 26 #[.int .i64 v.turn, .int .i64 v.dx, .int .i64 v.dy] (w.heap.size + 1) (by simp)).alloc (.cells #[.int .i64 (b 0), .int .i64 (b 1), .int .i64 (b 2), .int .i64 (b 3)] 28)).alloc (.cells #[.int .i64 m.x, .int .i64 m.y, .int .u8 m.kind, .int .u8 m.dir] 24)).ext z1)
      have HB := Lib.hid (((Blk.new' ((w.alloc (.cells #[.int .i64 m.x, .int .i64 m.y, .int .u8 m.kind, .int .u8 m.dir] 24)).alloc (.cells #[.int .i64 v.turn, .int .i64 v.dx, .int .i64 v.dy] 26)) 28 #[.int .i64 (b 0), .int .i64 (b 1), .int .i64 (b 2), .int .i64 (b 3)] (w.heap.size + 1 + 1) (by simp)).alloc (.cells #[.int .i64 m.x, .int .i64 m.y, .int .u8 m.kind, .int .u8 m.dir] 24)).ext z1)
      have HE := Lib.hid ((((((Ext.refl w).alloc (.cells #[.int .i64 m.x, .int .i64 m.y, .int .u8 m.kind, .int .u8 m.dir] 24)).alloc (.cells #[.int .i64 v.turn, .int .i64 v.dx, .int .i64 v.dy] 26)).alloc (.cells #[.int .i64 (b 0), .int .i64 (b 1), .int .i64 (b 2), .int .i64 (b 3)] 28)).alloc (.cells #[.int .i64 m.x, .int .i64 m.y, .int .u8 m.kind, .int .u8 m.dir] 24)).ext z1)
      generalize ext ((((w.alloc (.cells #[.int .i64 m.x, .int .i64 m.y, .int .u8 m.kind, .int .u8 m.dir] 24)).alloc (.cells #[.int .i64 v.turn, .int .i64 v.dx, .int .i64 v.dy] 26)).alloc (.cells #[.int .i64 (b 0), .int .i64 (b 1), .int .i64 (b 2), .int .i64 (b 3)] 28)).alloc (.cells #[.int .i64 m.x, .int .i64 m.y, .int .u8 m.kind, .int .u8 m.dir] 24)) z1 = W at *
      have m0 : W.cell? ⟨w.heap.size, 0, none⟩ = some (.int .i64 m.x) := HM.out.cell 0
      have m1 : W.cell? ⟨w.heap.size, 1, none⟩ = some (.int .i64 m.y) := HM.out.cell 1
      have m2 : W.cell? ⟨w.heap.size, 2, none⟩ = some (.int .u8 m.kind) := HM.out.cell 2
      have m3 : W.cell? ⟨w.heap.size, 3, none⟩ = some (.int .u8 m.dir) := HM.out.cell 3
      have v0 : W.cell? ⟨w.heap.size + 1, 0, none⟩ = some (.int .i64 v.turn) := HV.out.cell 0
      have v1 : W.cell? ⟨w.heap.size + 1, 1, none⟩ = some (.int .i64 v.dx) := HV.out.cell 1
      have v2 : W.cell? ⟨w.heap.size + 1, 2, none⟩ = some (.int .i64 v.dy) := HV.out.cell 2
      have b0 : W.cell? ⟨w.heap.size + 1 + 1, 0, none⟩ = some (.int .i64 (b 0)) := HB.out.cell 0
      have b1 : W.cell? ⟨w.heap.size + 1 + 1, 1, none⟩ = some (.int .i64 (b 1)) := HB.out.cell 1
      have b2 : W.cell? ⟨w.heap.size + 1 + 1, 2, none⟩ = some (.int .i64 (b 2)) := HB.out.cell 2
      have b3 : W.cell? ⟨w.heap.size + 1 + 1, 3, none⟩ = some (.int .i64 (b 3)) := HB.out.cell 3
      have o1 := Old.mk HM.out.lt
      have o2 := Old.mk HV.out.lt
      have o3 := Old.mk HB.out.lt
      go_wp2_with fail
      refine Calls.ext (C2.out _) fun z2 => ?_
      go_wp2_with fail
      refine bodyPost_ret (v := .tuple #[.int .i64 0, .int .i64 0, .int .i64 0, .int .i64 2]) (by simp [results, Try.results17, go_sem]) rfl ⟨ret_of HV9.out.symm, ?_⟩
      repeat' (first | with_reducible exact HE.out | with_reducible refine Ext.alloc ?_ _ | with_reducible refine Ext.ext ?_ _ | with_reducible refine Ext.setCell ?_ (by have := HE.out.size; simp; omega) _)
    · rw [h2] at C2
      cases h3 : isBend 1 b
      · have HV9 := Lib.hid (place_2 (v := v) (b := b) hm (by rw [h2, h3]; rfl))
        have h3' : isBend allC.elastic b = false := h3
        rw [h3'] at C3
        go_enter Try.func17, Try.ntmps17
        go_wp2_with fail
        refine Calls.ext (C1.out _ _ (Blk.new' _ 24 _ _ (by simp))) fun z1 => ?_
        have HM := Lib.hid ((((((Blk.new w 24 #[.int .i64 m.x, .int .i64 m.y, .int .u8 m.kind, .int .u8 m.dir]).alloc (.cells #[.int .i64 v.turn, .int .i64 v.dx, .int .i64 v.dy] 26)).alloc (.cells #[.int .i64 (b 0), .int .i64 (b 1), .int .i64 (b 2), .int .i64 (b 3)] 28))).alloc (.cells #[.int .i64 m.x, .int .i64 m.y, .int .u8 m.kind, .int .u8 m.dir] 24)).ext z1)
        have HV := Lib.hid ((((Blk.new' (w.alloc (.cells #[.int .i64 m.x, .int .i64 m.y, .int .u8 m.kind, .int .u8 m.dir] 24)) 26 #[.int .i64 v.turn, .int .i64 v.dx, .int .i64 v.dy] (w.heap.size + 1) (by simp)).alloc (.cells #[.int .i64 (b 0), .int .i64 (b 1), .int .i64 (b 2), .int .i64 (b 3)] 28)).alloc (.cells #[.int .i64 m.x, .int .i64 m.y, .int .u8 m.kind, .int .u8 m.dir] 24)).ext z1)
        have HB := Lib.hid (((Blk.new' ((w.alloc (.cells #[.int .i64 m.x, .int .i64 m.y, .int .u8 m.kind, .int .u8 m.dir] 24)).alloc (.cells #[.int .i64 v.turn, .int .i64 v.dx, .int .i64 v.dy] 26)) 28 #[.int .i64 (b 0), .int .i64 (b 1), .int .i64 (b 2), .int .i64 (b 3)] (w.heap.size + 1 + 1) (by simp)).alloc (.cells #[.int .i64 m.x, .int .i64 m.y, .int .u8 m.kind, .int .u8 m.dir] 24)).ext z1)
        have HE := Lib.hid ((((((Ext.refl w).alloc (.cells #[.int .i64 m.x, .int .i64 m.y, .int .u8 m.kind, .int .u8 m.dir] 24)).alloc (.cells #[.int .i64 v.turn, .int .i64 v.dx, .int .i64 v.dy] 26)).alloc (.cells #[.int .i64 (b 0), .int .i64 (b 1), .int .i64 (b 2), .int .i64 (b 3)] 28)).alloc (.cells #[.int .i64 m.x, .int .i64 m.y, .int .u8 m.kind, .int .u8 m.dir] 24)).ext z1)
        generalize ext ((((w.alloc (.cells #[.int .i64 m.x, .int .i64 m.y, .int .u8 m.kind, .int .u8 m.dir] 24)).alloc (.cells #[.int .i64 v.turn, .int .i64 v.dx, .int .i64 v.dy] 26)).alloc (.cells #[.int .i64 (b 0), .int .i64 (b 1), .int .i64 (b 2), .int .i64 (b 3)] 28)).alloc (.cells #[.int .i64 m.x, .int .i64 m.y, .int .u8 m.kind, .int .u8 m.dir] 24)) z1 = W at *
        have m0 : W.cell? ⟨w.heap.size, 0, none⟩ = some (.int .i64 m.x) := HM.out.cell 0
        have m1 : W.cell? ⟨w.heap.size, 1, none⟩ = some (.int .i64 m.y) := HM.out.cell 1
        have m2 : W.cell? ⟨w.heap.size, 2, none⟩ = some (.int .u8 m.kind) := HM.out.cell 2
        have m3 : W.cell? ⟨w.heap.size, 3, none⟩ = some (.int .u8 m.dir) := HM.out.cell 3
        have v0 : W.cell? ⟨w.heap.size + 1, 0, none⟩ = some (.int .i64 v.turn) := HV.out.cell 0
        have v1 : W.cell? ⟨w.heap.size + 1, 1, none⟩ = some (.int .i64 v.dx) := HV.out.cell 1
        have v2 : W.cell? ⟨w.heap.size + 1, 2, none⟩ = some (.int .i64 v.dy) := HV.out.cell 2
        have b0 : W.cell? ⟨w.heap.size + 1 + 1, 0, none⟩ = some (.int .i64 (b 0)) := HB.out.cell 0
        have b1 : W.cell? ⟨w.heap.size + 1 + 1, 1, none⟩ = some (.int .i64 (b 1)) := HB.out.cell 1
        have b2 : W.cell? ⟨w.heap.size + 1 + 1, 2, none⟩ = some (.int .i64 (b 2)) := HB.out.cell 2
        have b3 : W.cell? ⟨w.heap.size + 1 + 1, 3, none⟩ = some (.int .i64 (b 3)) := HB.out.cell 3
        have o1 := Old.mk HM.out.lt
        have o2 := Old.mk HV.out.lt
        have o3 := Old.mk HB.out.lt
        go_wp2_with fail
        refine Calls.ext (C2.out _) fun z2 => ?_
        go_wp2_with fail
        refine Calls.ext (C3.out _) fun z3 => ?_
        go_wp2_with fail
        refine bodyPost_ret (v := .tuple #[.int .i64 0, .int .i64 0, .int .i64 0, .int .i64 2]) (by simp [results, Try.results17, go_sem]) rfl ⟨ret_of HV9.out.symm, ?_⟩
        repeat' (first | with_reducible exact HE.out | with_reducible refine Ext.alloc ?_ _ | with_reducible refine Ext.ext ?_ _ | with_reducible refine Ext.setCell ?_ (by have := HE.out.size; simp; omega) _)
      · have HV9 := Lib.hid (place_3 (v := v) (b := b) hm (by rw [h2, h3]; rfl))
        have h3' : isBend allC.elastic b = true := h3
        rw [h3'] at C3
        have hp := okM_parts hm
        have hv := move_parts h2
        have hb := bend_parts h3
        have hv1 : -3 ≤ v.turn ∧ v.turn ≤ 3 := hv.1
        have hv2 : -4 ≤ v.dx ∧ v.dx ≤ 4 := hv.2.1
        have hv3 : -4 ≤ v.dy ∧ v.dy ≤ 4 := hv.2.2
        clear hv
        have C4 := Lib.hid (fun w => turn_any m v.turn hp.1 hp.2.1 ⟨hd, hp.2.2.2⟩ hv1 w)
        have hy1 : -200 ≤ turnY m v.turn ∧ turnY m v.turn ≤ 200 := turnY_in hp.1 hp.2.1
        have hx1 : -200 ≤ turnX m v.turn ∧ turnX m v.turn ≤ 200 := turnX_in hp.1 hp.2.1
        obtain ⟨j, hj⟩ := Int.eq_ofNat_of_zero_le (show 0 ≤ m.x / 16 by omega)
        have hj4 : (j : Int) < 4 := by omega
        have hbj := hb j (by omega)
        have hj5 : (m.x / 16).toNat = j := by omega
        have HX := Lib.hid (show placeX m v = turnX m v.turn + v.dx from rfl)
        have HY := Lib.hid (show placeY m v b = turnY m v.turn + v.dy + b j by unfold placeY; rw [hj5])
        unfold turnV at C4
        rw [hj] at C4
        clear hj hj5 hb
        generalize turnX m v.turn = tx at *
        generalize turnY m v.turn = ty at *
        generalize turnD m v.turn = td at *
        generalize placeX m v = px at *
        generalize placeY m v b = py at *
        go_enter Try.func17, Try.ntmps17
        go_wp2_with fail
        refine Calls.ext (C1.out _ _ (Blk.new' _ 24 _ _ (by simp))) fun z1 => ?_
        have HM := Lib.hid ((((((Blk.new w 24 #[.int .i64 m.x, .int .i64 m.y, .int .u8 m.kind, .int .u8 m.dir]).alloc (.cells #[.int .i64 v.turn, .int .i64 v.dx, .int .i64 v.dy] 26)).alloc (.cells #[.int .i64 (b 0), .int .i64 (b 1), .int .i64 (b 2), .int .i64 (b 3)] 28))).alloc (.cells #[.int .i64 m.x, .int .i64 m.y, .int .u8 m.kind, .int .u8 m.dir] 24)).ext z1)
        have HV := Lib.hid ((((Blk.new' (w.alloc (.cells #[.int .i64 m.x, .int .i64 m.y, .int .u8 m.kind, .int .u8 m.dir] 24)) 26 #[.int .i64 v.turn, .int .i64 v.dx, .int .i64 v.dy] (w.heap.size + 1) (by simp)).alloc (.cells #[.int .i64 (b 0), .int .i64 (b 1), .int .i64 (b 2), .int .i64 (b 3)] 28)).alloc (.cells #[.int .i64 m.x, .int .i64 m.y, .int .u8 m.kind, .int .u8 m.dir] 24)).ext z1)
        have HB := Lib.hid (((Blk.new' ((w.alloc (.cells #[.int .i64 m.x, .int .i64 m.y, .int .u8 m.kind, .int .u8 m.dir] 24)).alloc (.cells #[.int .i64 v.turn, .int .i64 v.dx, .int .i64 v.dy] 26)) 28 #[.int .i64 (b 0), .int .i64 (b 1), .int .i64 (b 2), .int .i64 (b 3)] (w.heap.size + 1 + 1) (by simp)).alloc (.cells #[.int .i64 m.x, .int .i64 m.y, .int .u8 m.kind, .int .u8 m.dir] 24)).ext z1)
        have HE := Lib.hid ((((((Ext.refl w).alloc (.cells #[.int .i64 m.x, .int .i64 m.y, .int .u8 m.kind, .int .u8 m.dir] 24)).alloc (.cells #[.int .i64 v.turn, .int .i64 v.dx, .int .i64 v.dy] 26)).alloc (.cells #[.int .i64 (b 0), .int .i64 (b 1), .int .i64 (b 2), .int .i64 (b 3)] 28)).alloc (.cells #[.int .i64 m.x, .int .i64 m.y, .int .u8 m.kind, .int .u8 m.dir] 24)).ext z1)
        generalize ext ((((w.alloc (.cells #[.int .i64 m.x, .int .i64 m.y, .int .u8 m.kind, .int .u8 m.dir] 24)).alloc (.cells #[.int .i64 v.turn, .int .i64 v.dx, .int .i64 v.dy] 26)).alloc (.cells #[.int .i64 (b 0), .int .i64 (b 1), .int .i64 (b 2), .int .i64 (b 3)] 28)).alloc (.cells #[.int .i64 m.x, .int .i64 m.y, .int .u8 m.kind, .int .u8 m.dir] 24)) z1 = W at *
        have m0 : W.cell? ⟨w.heap.size, 0, none⟩ = some (.int .i64 m.x) := HM.out.cell 0
        have m1 : W.cell? ⟨w.heap.size, 1, none⟩ = some (.int .i64 m.y) := HM.out.cell 1
        have m2 : W.cell? ⟨w.heap.size, 2, none⟩ = some (.int .u8 m.kind) := HM.out.cell 2
        have m3 : W.cell? ⟨w.heap.size, 3, none⟩ = some (.int .u8 m.dir) := HM.out.cell 3
        have v0 : W.cell? ⟨w.heap.size + 1, 0, none⟩ = some (.int .i64 v.turn) := HV.out.cell 0
        have v1 : W.cell? ⟨w.heap.size + 1, 1, none⟩ = some (.int .i64 v.dx) := HV.out.cell 1
        have v2 : W.cell? ⟨w.heap.size + 1, 2, none⟩ = some (.int .i64 v.dy) := HV.out.cell 2
        have b0 : W.cell? ⟨w.heap.size + 1 + 1, 0, none⟩ = some (.int .i64 (b 0)) := HB.out.cell 0
        have b1 : W.cell? ⟨w.heap.size + 1 + 1, 1, none⟩ = some (.int .i64 (b 1)) := HB.out.cell 1
        have b2 : W.cell? ⟨w.heap.size + 1 + 1, 2, none⟩ = some (.int .i64 (b 2)) := HB.out.cell 2
        have b3 : W.cell? ⟨w.heap.size + 1 + 1, 3, none⟩ = some (.int .i64 (b 3)) := HB.out.cell 3
        have o1 := Old.mk HM.out.lt
        have o2 := Old.mk HV.out.lt
        have o3 := Old.mk HB.out.lt
        go_wp2_with fail
        refine Calls.ext (C2.out _) fun z2 => ?_
        go_wp2_with fail
        refine Calls.ext (C3.out _) fun z3 => ?_
        have cb : W.cell? ⟨w.heap.size + 1 + 1, j, none⟩ = some (.int .i64 (b j)) := bend_at _ _ _ HB.out j (by omega)
        generalize b j = bj at *
        go_wp2_with fail
        refine Calls.ext (C4.out _) fun z4 => ?_
        go_wp2_with fail
        refine wp_region_ext (by kernel_rfl) (by kernel_rfl) ?_
        repeat (go_big_quiet_step (fail))
        refine wpQuiet_nil ?_
        rintro _ ⟨z5, rfl⟩
        go_wp2_with fail
        refine bodyPost_ret (v := .tuple #[.int .i64 px, .int .i64 py, .int .i64 td, .int .i64 0]) (by rw [HX.out, HY.out]; simp [results, Try.results17, go_sem]) rfl ⟨ret_of HV9.out.symm, ?_⟩
        repeat' (first | with_reducible exact HE.out | with_reducible refine Ext.alloc ?_ _ | with_reducible refine Ext.ext ?_ _ | with_reducible refine Ext.setCell ?_ (by have := HE.out.size; simp; omega) _)
set_option maxRecDepth 100000 in
set_option maxHeartbeats 4000000 in
theorem refPlace_any (m : Mi) (v : Mv) (b : Nat → Int) (hd : 0 ≤ m.dir) (w : World) : Calls Try.prog 18 #[m.val, v.val, bendV b] w fun e w' => e = .returned (placeT m v b) ∧ Ext w w' := by
  have C1 := Lib.hid (fun g w (h : Blk w g 24 #[.int .i64 m.x, .int .i64 m.y, .int .u8 m.kind, .int .u8 m.dir]) => valid_any (some ⟨g, 0, none⟩) 1 [m] w (pts_one h) (by simp))
  rw [okP_one] at C1
  cases hm : okM m
  · have HV9 := Lib.hid (place_1 (v := v) (b := b) hm)
    rw [hm] at C1
    go_enter Try.func18, Try.ntmps18
    go_wp2_with fail
    refine Calls.ext (C1.out _ _ (Blk.new' _ 24 _ _ (by simp))) fun z1 => ?_
    have HM := Lib.hid ((((((Blk.new w 24 #[.int .i64 m.x, .int .i64 m.y, .int .u8 m.kind, .int .u8 m.dir]).alloc (.cells #[.int .i64 v.turn, .int .i64 v.dx, .int .i64 v.dy] 26)).alloc (.cells #[.int .i64 (b 0), .int .i64 (b 1), .int .i64 (b 2), .int .i64 (b 3)] 28))).alloc (.cells #[.int .i64 m.x, .int .i64 m.y, .int .u8 m.kind, .int .u8 m.dir] 24)).ext z1)
    have HV := Lib.hid ((((Blk.new' (w.alloc (.cells #[.int .i64 m.x, .int .i64 m.y, .int .u8 m.kind, .int .u8 m.dir] 24)) 26 #[.int .i64 v.turn, .int .i64 v.dx, .int .i64 v.dy] (w.heap.size + 1) (by simp)).alloc (.cells #[.int .i64 (b 0), .int .i64 (b 1), .int .i64 (b 2), .int .i64 (b 3)] 28)).alloc (.cells #[.int .i64 m.x, .int .i64 m.y, .int .u8 m.kind, .int .u8 m.dir] 24)).ext z1)
    have HB := Lib.hid (((Blk.new' ((w.alloc (.cells #[.int .i64 m.x, .int .i64 m.y, .int .u8 m.kind, .int .u8 m.dir] 24)).alloc (.cells #[.int .i64 v.turn, .int .i64 v.dx, .int .i64 v.dy] 26)) 28 #[.int .i64 (b 0), .int .i64 (b 1), .int .i64 (b 2), .int .i64 (b 3)] (w.heap.size + 1 + 1) (by simp)).alloc (.cells #[.int .i64 m.x, .int .i64 m.y, .int .u8 m.kind, .int .u8 m.dir] 24)).ext z1)
    have HE := Lib.hid ((((((Ext.refl w).alloc (.cells #[.int .i64 m.x, .int .i64 m.y, .int .u8 m.kind, .int .u8 m.dir] 24)).alloc (.cells #[.int .i64 v.turn, .int .i64 v.dx, .int .i64 v.dy] 26)).alloc (.cells #[.int .i64 (b 0), .int .i64 (b 1), .int .i64 (b 2), .int .i64 (b 3)] 28)).alloc (.cells #[.int .i64 m.x, .int .i64 m.y, .int .u8 m.kind, .int .u8 m.dir] 24)).ext z1)
    generalize ext ((((w.alloc (.cells #[.int .i64 m.x, .int .i64 m.y, .int .u8 m.kind, .int .u8 m.dir] 24)).alloc (.cells #[.int .i64 v.turn, .int .i64 v.dx, .int .i64 v.dy] 26)).alloc (.cells #[.int .i64 (b 0), .int .i64 (b 1), .int .i64 (b 2), .int .i64 (b 3)] 28)).alloc (.cells #[.int .i64 m.x, .int .i64 m.y, .int .u8 m.kind, .int .u8 m.dir] 24)) z1 = W at *
    go_wp2_with fail
    refine bodyPost_ret (v := .tuple #[.int .i64 0, .int .i64 0, .int .i64 0, .int .i64 20]) (by simp [results, Try.results18, go_sem]) rfl ⟨ret_of HV9.out.symm, ?_⟩
    repeat' (first | with_reducible exact HE.out | with_reducible refine Ext.alloc ?_ _ | with_reducible refine Ext.ext ?_ _ | with_reducible refine Ext.setCell ?_ (by have := HE.out.size; simp; omega) _)
  · rw [hm] at C1
    have C2 := Lib.hid (fun w => isMove_any allC v allC_ok w)
    have C3 := Lib.hid (fun w => isBend_any allC b allC_ok.elastic w)
    cases h2 : isMove allC v
    · have HV9 := Lib.hid (place_2 (v := v) (b := b) hm (by rw [h2]; rfl))
      rw [h2] at C2
      go_enter Try.func18, Try.ntmps18
      go_wp2_with fail
      refine Calls.ext (C1.out _ _ (Blk.new' _ 24 _ _ (by simp))) fun z1 => ?_
      have HM := Lib.hid ((((((Blk.new w 24 #[.int .i64 m.x, .int .i64 m.y, .int .u8 m.kind, .int .u8 m.dir]).alloc (.cells #[.int .i64 v.turn, .int .i64 v.dx, .int .i64 v.dy] 26)).alloc (.cells #[.int .i64 (b 0), .int .i64 (b 1), .int .i64 (b 2), .int .i64 (b 3)] 28))).alloc (.cells #[.int .i64 m.x, .int .i64 m.y, .int .u8 m.kind, .int .u8 m.dir] 24)).ext z1)
      have HV := Lib.hid ((((Blk.new' (w.alloc (.cells #[.int .i64 m.x, .int .i64 m.y, .int .u8 m.kind, .int .u8 m.dir] 24)) 26 #[.int .i64 v.turn, .int .i64 v.dx, .int .i64 v.dy] (w.heap.size + 1) (by simp)).alloc (.cells #[.int .i64 (b 0), .int .i64 (b 1), .int .i64 (b 2), .int .i64 (b 3)] 28)).alloc (.cells #[.int .i64 m.x, .int .i64 m.y, .int .u8 m.kind, .int .u8 m.dir] 24)).ext z1)
      have HB := Lib.hid (((Blk.new' ((w.alloc (.cells #[.int .i64 m.x, .int .i64 m.y, .int .u8 m.kind, .int .u8 m.dir] 24)).alloc (.cells #[.int .i64 v.turn, .int .i64 v.dx, .int .i64 v.dy] 26)) 28 #[.int .i64 (b 0), .int .i64 (b 1), .int .i64 (b 2), .int .i64 (b 3)] (w.heap.size + 1 + 1) (by simp)).alloc (.cells #[.int .i64 m.x, .int .i64 m.y, .int .u8 m.kind, .int .u8 m.dir] 24)).ext z1)
      have HE := Lib.hid ((((((Ext.refl w).alloc (.cells #[.int .i64 m.x, .int .i64 m.y, .int .u8 m.kind, .int .u8 m.dir] 24)).alloc (.cells #[.int .i64 v.turn, .int .i64 v.dx, .int .i64 v.dy] 26)).alloc (.cells #[.int .i64 (b 0), .int .i64 (b 1), .int .i64 (b 2), .int .i64 (b 3)] 28)).alloc (.cells #[.int .i64 m.x, .int .i64 m.y, .int .u8 m.kind, .int .u8 m.dir] 24)).ext z1)
      generalize ext ((((w.alloc (.cells #[.int .i64 m.x, .int .i64 m.y, .int .u8 m.kind, .int .u8 m.dir] 24)).alloc (.cells #[.int .i64 v.turn, .int .i64 v.dx, .int .i64 v.dy] 26)).alloc (.cells #[.int .i64 (b 0), .int .i64 (b 1), .int .i64 (b 2), .int .i64 (b 3)] 28)).alloc (.cells #[.int .i64 m.x, .int .i64 m.y, .int .u8 m.kind, .int .u8 m.dir] 24)) z1 = W at *
      have m0 : W.cell? ⟨w.heap.size, 0, none⟩ = some (.int .i64 m.x) := HM.out.cell 0
      have m1 : W.cell? ⟨w.heap.size, 1, none⟩ = some (.int .i64 m.y) := HM.out.cell 1
      have m2 : W.cell? ⟨w.heap.size, 2, none⟩ = some (.int .u8 m.kind) := HM.out.cell 2
      have m3 : W.cell? ⟨w.heap.size, 3, none⟩ = some (.int .u8 m.dir) := HM.out.cell 3
      have v0 : W.cell? ⟨w.heap.size + 1, 0, none⟩ = some (.int .i64 v.turn) := HV.out.cell 0
      have v1 : W.cell? ⟨w.heap.size + 1, 1, none⟩ = some (.int .i64 v.dx) := HV.out.cell 1
      have v2 : W.cell? ⟨w.heap.size + 1, 2, none⟩ = some (.int .i64 v.dy) := HV.out.cell 2
      have b0 : W.cell? ⟨w.heap.size + 1 + 1, 0, none⟩ = some (.int .i64 (b 0)) := HB.out.cell 0
      have b1 : W.cell? ⟨w.heap.size + 1 + 1, 1, none⟩ = some (.int .i64 (b 1)) := HB.out.cell 1
      have b2 : W.cell? ⟨w.heap.size + 1 + 1, 2, none⟩ = some (.int .i64 (b 2)) := HB.out.cell 2
      have b3 : W.cell? ⟨w.heap.size + 1 + 1, 3, none⟩ = some (.int .i64 (b 3)) := HB.out.cell 3
      have o1 := Old.mk HM.out.lt
      have o2 := Old.mk HV.out.lt
      have o3 := Old.mk HB.out.lt
      go_wp2_with fail
      refine Calls.ext (C2.out _) fun z2 => ?_
      go_wp2_with fail
      refine bodyPost_ret (v := .tuple #[.int .i64 0, .int .i64 0, .int .i64 0, .int .i64 2]) (by simp [results, Try.results18, go_sem]) rfl ⟨ret_of HV9.out.symm, ?_⟩
      repeat' (first | with_reducible exact HE.out | with_reducible refine Ext.alloc ?_ _ | with_reducible refine Ext.ext ?_ _ | with_reducible refine Ext.setCell ?_ (by have := HE.out.size; simp; omega) _)
    · rw [h2] at C2
      cases h3 : isBend 1 b
      · have HV9 := Lib.hid (place_2 (v := v) (b := b) hm (by rw [h2, h3]; rfl))
        have h3' : isBend allC.elastic b = false := h3
        rw [h3'] at C3
        go_enter Try.func18, Try.ntmps18
        go_wp2_with fail
        refine Calls.ext (C1.out _ _ (Blk.new' _ 24 _ _ (by simp))) fun z1 => ?_
        have HM := Lib.hid ((((((Blk.new w 24 #[.int .i64 m.x, .int .i64 m.y, .int .u8 m.kind, .int .u8 m.dir]).alloc (.cells #[.int .i64 v.turn, .int .i64 v.dx, .int .i64 v.dy] 26)).alloc (.cells #[.int .i64 (b 0), .int .i64 (b 1), .int .i64 (b 2), .int .i64 (b 3)] 28))).alloc (.cells #[.int .i64 m.x, .int .i64 m.y, .int .u8 m.kind, .int .u8 m.dir] 24)).ext z1)
        have HV := Lib.hid ((((Blk.new' (w.alloc (.cells #[.int .i64 m.x, .int .i64 m.y, .int .u8 m.kind, .int .u8 m.dir] 24)) 26 #[.int .i64 v.turn, .int .i64 v.dx, .int .i64 v.dy] (w.heap.size + 1) (by simp)).alloc (.cells #[.int .i64 (b 0), .int .i64 (b 1), .int .i64 (b 2), .int .i64 (b 3)] 28)).alloc (.cells #[.int .i64 m.x, .int .i64 m.y, .int .u8 m.kind, .int .u8 m.dir] 24)).ext z1)
        have HB := Lib.hid (((Blk.new' ((w.alloc (.cells #[.int .i64 m.x, .int .i64 m.y, .int .u8 m.kind, .int .u8 m.dir] 24)).alloc (.cells #[.int .i64 v.turn, .int .i64 v.dx, .int .i64 v.dy] 26)) 28 #[.int .i64 (b 0), .int .i64 (b 1), .int .i64 (b 2), .int .i64 (b 3)] (w.heap.size + 1 + 1) (by simp)).alloc (.cells #[.int .i64 m.x, .int .i64 m.y, .int .u8 m.kind, .int .u8 m.dir] 24)).ext z1)
        have HE := Lib.hid ((((((Ext.refl w).alloc (.cells #[.int .i64 m.x, .int .i64 m.y, .int .u8 m.kind, .int .u8 m.dir] 24)).alloc (.cells #[.int .i64 v.turn, .int .i64 v.dx, .int .i64 v.dy] 26)).alloc (.cells #[.int .i64 (b 0), .int .i64 (b 1), .int .i64 (b 2), .int .i64 (b 3)] 28)).alloc (.cells #[.int .i64 m.x, .int .i64 m.y, .int .u8 m.kind, .int .u8 m.dir] 24)).ext z1)
        generalize ext ((((w.alloc (.cells #[.int .i64 m.x, .int .i64 m.y, .int .u8 m.kind, .int .u8 m.dir] 24)).alloc (.cells #[.int .i64 v.turn, .int .i64 v.dx, .int .i64 v.dy] 26)).alloc (.cells #[.int .i64 (b 0), .int .i64 (b 1), .int .i64 (b 2), .int .i64 (b 3)] 28)).alloc (.cells #[.int .i64 m.x, .int .i64 m.y, .int .u8 m.kind, .int .u8 m.dir] 24)) z1 = W at *
        have m0 : W.cell? ⟨w.heap.size, 0, none⟩ = some (.int .i64 m.x) := HM.out.cell 0
        have m1 : W.cell? ⟨w.heap.size, 1, none⟩ = some (.int .i64 m.y) := HM.out.cell 1
        have m2 : W.cell? ⟨w.heap.size, 2, none⟩ = some (.int .u8 m.kind) := HM.out.cell 2
        have m3 : W.cell? ⟨w.heap.size, 3, none⟩ = some (.int .u8 m.dir) := HM.out.cell 3
        have v0 : W.cell? ⟨w.heap.size + 1, 0, none⟩ = some (.int .i64 v.turn) := HV.out.cell 0
        have v1 : W.cell? ⟨w.heap.size + 1, 1, none⟩ = some (.int .i64 v.dx) := HV.out.cell 1
        have v2 : W.cell? ⟨w.heap.size + 1, 2, none⟩ = some (.int .i64 v.dy) := HV.out.cell 2
        have b0 : W.cell? ⟨w.heap.size + 1 + 1, 0, none⟩ = some (.int .i64 (b 0)) := HB.out.cell 0
        have b1 : W.cell? ⟨w.heap.size + 1 + 1, 1, none⟩ = some (.int .i64 (b 1)) := HB.out.cell 1
        have b2 : W.cell? ⟨w.heap.size + 1 + 1, 2, none⟩ = some (.int .i64 (b 2)) := HB.out.cell 2
        have b3 : W.cell? ⟨w.heap.size + 1 + 1, 3, none⟩ = some (.int .i64 (b 3)) := HB.out.cell 3
        have o1 := Old.mk HM.out.lt
        have o2 := Old.mk HV.out.lt
        have o3 := Old.mk HB.out.lt
        go_wp2_with fail
        refine Calls.ext (C2.out _) fun z2 => ?_
        go_wp2_with fail
        refine Calls.ext (C3.out _) fun z3 => ?_
        go_wp2_with fail
        refine bodyPost_ret (v := .tuple #[.int .i64 0, .int .i64 0, .int .i64 0, .int .i64 2]) (by simp [results, Try.results18, go_sem]) rfl ⟨ret_of HV9.out.symm, ?_⟩
        repeat' (first | with_reducible exact HE.out | with_reducible refine Ext.alloc ?_ _ | with_reducible refine Ext.ext ?_ _ | with_reducible refine Ext.setCell ?_ (by have := HE.out.size; simp; omega) _)
      · have HV9 := Lib.hid (place_3 (v := v) (b := b) hm (by rw [h2, h3]; rfl))
        have h3' : isBend allC.elastic b = true := h3
        rw [h3'] at C3
        have hp := okM_parts hm
        have hv := move_parts h2
        have hb := bend_parts h3
        have hv1 : -3 ≤ v.turn ∧ v.turn ≤ 3 := hv.1
        have hv2 : -4 ≤ v.dx ∧ v.dx ≤ 4 := hv.2.1
        have hv3 : -4 ≤ v.dy ∧ v.dy ≤ 4 := hv.2.2
        clear hv
        have C4 := Lib.hid (fun w => placed_any m v b hp.1 hp.2.1 ⟨hd, hp.2.2.2⟩ hv1 hv2 hv3 hb w)
        go_enter Try.func18, Try.ntmps18
        go_wp2_with fail
        refine Calls.ext (C1.out _ _ (Blk.new' _ 24 _ _ (by simp))) fun z1 => ?_
        have HM := Lib.hid ((((((Blk.new w 24 #[.int .i64 m.x, .int .i64 m.y, .int .u8 m.kind, .int .u8 m.dir]).alloc (.cells #[.int .i64 v.turn, .int .i64 v.dx, .int .i64 v.dy] 26)).alloc (.cells #[.int .i64 (b 0), .int .i64 (b 1), .int .i64 (b 2), .int .i64 (b 3)] 28))).alloc (.cells #[.int .i64 m.x, .int .i64 m.y, .int .u8 m.kind, .int .u8 m.dir] 24)).ext z1)
        have HV := Lib.hid ((((Blk.new' (w.alloc (.cells #[.int .i64 m.x, .int .i64 m.y, .int .u8 m.kind, .int .u8 m.dir] 24)) 26 #[.int .i64 v.turn, .int .i64 v.dx, .int .i64 v.dy] (w.heap.size + 1) (by simp)).alloc (.cells #[.int .i64 (b 0), .int .i64 (b 1), .int .i64 (b 2), .int .i64 (b 3)] 28)).alloc (.cells #[.int .i64 m.x, .int .i64 m.y, .int .u8 m.kind, .int .u8 m.dir] 24)).ext z1)
        have HB := Lib.hid (((Blk.new' ((w.alloc (.cells #[.int .i64 m.x, .int .i64 m.y, .int .u8 m.kind, .int .u8 m.dir] 24)).alloc (.cells #[.int .i64 v.turn, .int .i64 v.dx, .int .i64 v.dy] 26)) 28 #[.int .i64 (b 0), .int .i64 (b 1), .int .i64 (b 2), .int .i64 (b 3)] (w.heap.size + 1 + 1) (by simp)).alloc (.cells #[.int .i64 m.x, .int .i64 m.y, .int .u8 m.kind, .int .u8 m.dir] 24)).ext z1)
        have HE := Lib.hid ((((((Ext.refl w).alloc (.cells #[.int .i64 m.x, .int .i64 m.y, .int .u8 m.kind, .int .u8 m.dir] 24)).alloc (.cells #[.int .i64 v.turn, .int .i64 v.dx, .int .i64 v.dy] 26)).alloc (.cells #[.int .i64 (b 0), .int .i64 (b 1), .int .i64 (b 2), .int .i64 (b 3)] 28)).alloc (.cells #[.int .i64 m.x, .int .i64 m.y, .int .u8 m.kind, .int .u8 m.dir] 24)).ext z1)
        generalize ext ((((w.alloc (.cells #[.int .i64 m.x, .int .i64 m.y, .int .u8 m.kind, .int .u8 m.dir] 24)).alloc (.cells #[.int .i64 v.turn, .int .i64 v.dx, .int .i64 v.dy] 26)).alloc (.cells #[.int .i64 (b 0), .int .i64 (b 1), .int .i64 (b 2), .int .i64 (b 3)] 28)).alloc (.cells #[.int .i64 m.x, .int .i64 m.y, .int .u8 m.kind, .int .u8 m.dir] 24)) z1 = W at *
        have m0 : W.cell? ⟨w.heap.size, 0, none⟩ = some (.int .i64 m.x) := HM.out.cell 0
        have m1 : W.cell? ⟨w.heap.size, 1, none⟩ = some (.int .i64 m.y) := HM.out.cell 1
        have m2 : W.cell? ⟨w.heap.size, 2, none⟩ = some (.int .u8 m.kind) := HM.out.cell 2
        have m3 : W.cell? ⟨w.heap.size, 3, none⟩ = some (.int .u8 m.dir) := HM.out.cell 3
        have v0 : W.cell? ⟨w.heap.size + 1, 0, none⟩ = some (.int .i64 v.turn) := HV.out.cell 0
        have v1 : W.cell? ⟨w.heap.size + 1, 1, none⟩ = some (.int .i64 v.dx) := HV.out.cell 1
        have v2 : W.cell? ⟨w.heap.size + 1, 2, none⟩ = some (.int .i64 v.dy) := HV.out.cell 2
        have b0 : W.cell? ⟨w.heap.size + 1 + 1, 0, none⟩ = some (.int .i64 (b 0)) := HB.out.cell 0
        have b1 : W.cell? ⟨w.heap.size + 1 + 1, 1, none⟩ = some (.int .i64 (b 1)) := HB.out.cell 1
        have b2 : W.cell? ⟨w.heap.size + 1 + 1, 2, none⟩ = some (.int .i64 (b 2)) := HB.out.cell 2
        have b3 : W.cell? ⟨w.heap.size + 1 + 1, 3, none⟩ = some (.int .i64 (b 3)) := HB.out.cell 3
        have o1 := Old.mk HM.out.lt
        have o2 := Old.mk HV.out.lt
        have o3 := Old.mk HB.out.lt
        go_wp2_with fail
        refine Calls.ext (C2.out _) fun z2 => ?_
        go_wp2_with fail
        refine Calls.ext (C3.out _) fun z3 => ?_
        go_wp2_with fail
        refine Calls.ext (C4.out _) fun z4 => ?_
        go_wp2_with fail
        refine bodyPost_ret (v := .tuple #[.int .i64 (placeX m v), .int .i64 (placeY m v b), .int .i64 (turnD m v.turn), .int .i64 0]) (by simp [results, Try.results18, go_sem]) rfl ⟨ret_of HV9.out.symm, ?_⟩
        repeat' (first | with_reducible exact HE.out | with_reducible refine Ext.alloc ?_ _ | with_reducible refine Ext.ext ?_ _ | with_reducible refine Ext.setCell ?_ (by have := HE.out.size; simp; omega) _)
end Go.Proofs.Ythejomcibobieaa
