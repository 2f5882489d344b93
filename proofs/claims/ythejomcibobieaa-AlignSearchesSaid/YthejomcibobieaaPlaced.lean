/- Where a move and a bend bring a point: the reference. -/
import Derived.Test.YthejomcibobieaaTurn
namespace Go.Proofs.Ythejomcibobieaa
open Go.RowKit

/-- a pointer to the cell k of a block that holds xs -/
def isP (t : TypeId) (xs : List Value) (k : Nat) : Value → World → Prop := fun v w => ∃ g, v = .pointer (some ⟨g, k, none⟩) ∧ Blk w g t xs.toArray
theorem isP_mono (t : TypeId) (xs : List Value) (k : Nat) : Mono (isP t xs k) := fun _ _ _ ⟨g, h1, h2⟩ hw => ⟨g, h1, h2.grow hw⟩
def sinA (n : Int) : Int := if n = 0 then 0 else if n = 1 ∨ n = -1 then 24 else if n = 2 ∨ n = -2 then 45 else 59
theorem cos_at (n : Int) (h : -3 ≤ n ∧ n ≤ 3) : ∃ a : Nat, a < 4 ∧ max n (-n) = (a : Int) ∧ (#[.int .i64 64, .int .i64 59, .int .i64 45, .int .i64 24] : Array Value)[a]? = some (.int .i64 (cosI n)) ∧ (#[.int .i64 0, .int .i64 24, .int .i64 45, .int .i64 59] : Array Value)[a]? = some (.int .i64 (sinA n)) := by
  have h7 : n = -3 ∨ n = -2 ∨ n = -1 ∨ n = 0 ∨ n = 1 ∨ n = 2 ∨ n = 3 := by omega
  rcases h7 with rfl | rfl | rfl | rfl | rfl | rfl | rfl
  · exact ⟨3, by omega, by omega, rfl, rfl⟩
  · exact ⟨2, by omega, by omega, rfl, rfl⟩
  · exact ⟨1, by omega, by omega, rfl, rfl⟩
  · exact ⟨0, by omega, by omega, rfl, rfl⟩
  · exact ⟨1, by omega, by omega, rfl, rfl⟩
  · exact ⟨2, by omega, by omega, rfl, rfl⟩
  · exact ⟨3, by omega, by omega, rfl, rfl⟩
theorem sin_sign (n : Int) (h : -3 ≤ n ∧ n ≤ 3) : sinI n = if n < 0 then -sinA n else sinA n := by
  have h7 : n = -3 ∨ n = -2 ∨ n = -1 ∨ n = 0 ∨ n = 1 ∨ n = 2 ∨ n = 3 := by omega
  rcases h7 with rfl | rfl | rfl | rfl | rfl | rfl | rfl <;> rfl
theorem cos_in (n : Int) : 0 ≤ cosI n ∧ cosI n ≤ 64 := by unfold cosI; repeat' split <;> omega
theorem sinA_in (n : Int) : 0 ≤ sinA n ∧ sinA n ≤ 59 := by unfold sinA; repeat' split <;> omega
theorem prod_in {c x : Int} (hc : -64 ≤ c ∧ c ≤ 64) (hx : -32 ≤ x ∧ x ≤ 31) : -2048 ≤ c * x ∧ c * x ≤ 2048 := by
  have h1 : (c * x).natAbs = c.natAbs * x.natAbs := Int.natAbs_mul c x
  have h2 : c.natAbs * x.natAbs ≤ 64 * 32 := Nat.mul_le_mul (by omega) (by omega)
  omega
def placeX (m : Mi) (v : Mv) : Int := turnX m v.turn + v.dx
def placeY (m : Mi) (v : Mv) (b : Nat → Int) : Int := turnY m v.turn + v.dy + b (m.x / 16).toNat
set_option maxRecDepth 100000 in
set_option maxHeartbeats 4000000 in
theorem placed_any (m : Mi) (v : Mv) (b : Nat → Int) (hx : 0 ≤ m.x ∧ m.x ≤ 63) (hy : 0 ≤ m.y ∧ m.y ≤ 63) (hd : 0 ≤ m.dir ∧ m.dir ≤ 7) (ht : -3 ≤ v.turn ∧ v.turn ≤ 3) (hdx : -4 ≤ v.dx ∧ v.dx ≤ 4) (hdy : -4 ≤ v.dy ∧ v.dy ≤ 4) (hb : ∀ i, i < 4 → -1 ≤ b i ∧ b i ≤ 1) (w : World) : Calls Try.prog 50 #[m.val, v.val, bendV b] w fun e w' => e = .returned (.tuple #[.int .i64 (placeX m v), .int .i64 (placeY m v b), .int .i64 (turnD m v.turn)]) ∧ Ext w w' := by
  obtain ⟨ai, ha4, ham, hcc, hss⟩ := cos_at v.turn ht
  have HS := Lib.hid (sin_sign v.turn ht)
  have hci := cos_in v.turn
  have hsi := sinA_in v.turn
  have hA := fun w => abs_any v.turn (by omega) w
  simp only [ham] at hA
  have HA := Lib.hid hA
  have HX := Lib.hid (show placeX m v = 32 + (cosI v.turn * (m.x - 32) - sinI v.turn * (m.y - 32) + 32) / 64 + v.dx from rfl)
  have HY := Lib.hid (show placeY m v b = 32 + (sinI v.turn * (m.x - 32) + cosI v.turn * (m.y - 32) + 32) / 64 + v.dy + b (m.x / 16).toNat from rfl)
  have HD := Lib.hid (show turnD m v.turn = (2 * m.dir + v.turn + 16) % 16 from rfl)
  generalize placeX m v = px at *
  generalize placeY m v b = py at *
  generalize turnD m v.turn = pd at *
  generalize cosI v.turn = cc at *
  generalize sinA v.turn = ss at *
  generalize sinI v.turn = sn at *
  clear hA ham
  go_enter Try.func50, Try.ntmps50
  go_wp2_with fail
  have HM := Lib.hid (((Blk.new w 24 #[.int .i64 m.x, .int .i64 m.y, .int .u8 m.kind, .int .u8 m.dir]).alloc (.cells #[.int .i64 v.turn, .int .i64 v.dx, .int .i64 v.dy] 26)).alloc (.cells #[.int .i64 (b 0), .int .i64 (b 1), .int .i64 (b 2), .int .i64 (b 3)] 28))
  have HV := Lib.hid ((Blk.new' (w.alloc (.cells #[.int .i64 m.x, .int .i64 m.y, .int .u8 m.kind, .int .u8 m.dir] 24)) 26 #[.int .i64 v.turn, .int .i64 v.dx, .int .i64 v.dy] (w.heap.size + 1) (by simp)).alloc (.cells #[.int .i64 (b 0), .int .i64 (b 1), .int .i64 (b 2), .int .i64 (b 3)] 28))
  have HB := Lib.hid (Blk.new' ((w.alloc (.cells #[.int .i64 m.x, .int .i64 m.y, .int .u8 m.kind, .int .u8 m.dir] 24)).alloc (.cells #[.int .i64 v.turn, .int .i64 v.dx, .int .i64 v.dy] 26)) 28 #[.int .i64 (b 0), .int .i64 (b 1), .int .i64 (b 2), .int .i64 (b 3)] (w.heap.size + 1 + 1) (by simp))
  have HE := Lib.hid ((((Ext.refl w).alloc (.cells #[.int .i64 m.x, .int .i64 m.y, .int .u8 m.kind, .int .u8 m.dir] 24)).alloc (.cells #[.int .i64 v.turn, .int .i64 v.dx, .int .i64 v.dy] 26)).alloc (.cells #[.int .i64 (b 0), .int .i64 (b 1), .int .i64 (b 2), .int .i64 (b 3)] 28))
  change Code.wp _ _ _ _ (((w.alloc (.cells #[.int .i64 m.x, .int .i64 m.y, .int .u8 m.kind, .int .u8 m.dir] 24)).alloc (.cells #[.int .i64 v.turn, .int .i64 v.dx, .int .i64 v.dy] 26)).alloc (.cells #[.int .i64 (b 0), .int .i64 (b 1), .int .i64 (b 2), .int .i64 (b 3)] 28))
  generalize ((w.alloc (.cells #[.int .i64 m.x, .int .i64 m.y, .int .u8 m.kind, .int .u8 m.dir] 24)).alloc (.cells #[.int .i64 v.turn, .int .i64 v.dx, .int .i64 v.dy] 26)).alloc (.cells #[.int .i64 (b 0), .int .i64 (b 1), .int .i64 (b 2), .int .i64 (b 3)] 28) = W at *
  have ha5 : (ai : Int) < 4 := by omega
  refine wp_region_rel0 (Vof [isL 3 4 [.int .i64 64, .int .i64 59, .int .i64 45, .int .i64 24], isV (.pointer (some ⟨w.heap.size + 1, 0, none⟩)), isV (.int .i64 v.turn), isV (.int .i64 (ai : Int)), isP 3 [.int .i64 64, .int .i64 59, .int .i64 45, .int .i64 24] ai, isV (.int .i64 cc), isL 3 4 [.int .i64 0, .int .i64 24, .int .i64 45, .int .i64 59], isV (.pointer (some ⟨w.heap.size + 1, 0, none⟩)), isV (.int .i64 v.turn), isV (.int .i64 (ai : Int)), isP 3 [.int .i64 0, .int .i64 24, .int .i64 45, .int .i64 59] ai, isV (.int .i64 ss), isV (.int .i64 cc), isV (.int .i64 ss)]) (by kernel_rfl) (by kernel_rfl) (Vof_mono (by simp [isV_mono, isL_mono, isP_mono])) ?op ?fin
  case op =>
    intro i o ho a V2 _ _ hfrm hE0 hdep
    have hE : Ext W V2 := Ext.trans ((Ext.refl W).drew) hE0
    match i, ho with
    | 0, ho =>
      injection ho with ho
      subst ho
      simp [Oper.wp, execOp, go_sem]
      exact ⟨_, rfl, ⟨_, rfl, Blk.new _ _ _⟩, (Ext.refl _).alloc _⟩
    | 1, ho =>
      injection ho with ho
      subst ho
      have e1 : a.tmps[4]?.getD undef = .pointer (some ⟨w.heap.size + 1, 0, none⟩) := slot_of (hfrm 4 (frm_of 4 (by kernel_rfl)))
      exact rel_val (by simp [execOp, go_sem, e1]) rfl
    | 2, ho =>
      injection ho with ho
      subst ho
      have e1 : a.tmps[14]?.getD undef = .pointer (some ⟨w.heap.size + 1, 0, none⟩) := slot_of (hdep ⟨1, .data⟩ (by simp) (by kernel_rfl) 14 (by kernel_rfl))
      have c1 : V2.cell? ⟨w.heap.size + 1, 0, none⟩ = some (.int .i64 v.turn) := (HV.out.grow hE).cell 0
      exact rel_val (by simp [execOp, go_sem, e1, c1]) rfl
    | 3, ho =>
      injection ho with ho
      subst ho
      have e1 : a.tmps[15]?.getD undef = .int .i64 v.turn := slot_of (hdep ⟨2, .data⟩ (by simp) (by kernel_rfl) 15 (by kernel_rfl))
      exact rel_call 70 [.tmp 15] #[3] rfl (by kernel_rfl) [.int .i64 v.turn] (by simp [Act.eval, e1]) (ret_val (Calls.ext_of_same (HA.out _)))
    | 4, ho =>
      injection ho with ho
      subst ho
      obtain ⟨q1, e1', hL1⟩ := hdep ⟨0, .data⟩ (by simp) (by kernel_rfl) 13 (by kernel_rfl)
      have e1 := slot_of e1'
      have e2 : a.tmps[16]?.getD undef = .int .i64 (ai : Int) := slot_of (hdep ⟨3, .data⟩ (by simp) (by kernel_rfl) 16 (by kernel_rfl))
      exact rel_val (by simp [execOp, go_sem, e1, e2, ha5]) ⟨q1, rfl, hL1⟩
    | 5, ho =>
      injection ho with ho
      subst ho
      obtain ⟨q1, e1', hL1⟩ := hdep ⟨4, .data⟩ (by simp) (by kernel_rfl) 17 (by kernel_rfl)
      have e1 := slot_of e1'
      have c1 : V2.cell? ⟨q1, ai, none⟩ = some (.int .i64 cc) := (hL1.cell ai).trans hcc
      exact rel_val (by simp [execOp, go_sem, e1, c1]) rfl
    | 6, ho =>
      injection ho with ho
      subst ho
      simp [Oper.wp, execOp, go_sem]
      exact ⟨_, rfl, ⟨_, rfl, Blk.new _ _ _⟩, (Ext.refl _).alloc _⟩
    | 7, ho =>
      injection ho with ho
      subst ho
      have e1 : a.tmps[4]?.getD undef = .pointer (some ⟨w.heap.size + 1, 0, none⟩) := slot_of (hfrm 4 (frm_of 4 (by kernel_rfl)))
      exact rel_val (by simp [execOp, go_sem, e1]) rfl
    | 8, ho =>
      injection ho with ho
      subst ho
      have e1 : a.tmps[20]?.getD undef = .pointer (some ⟨w.heap.size + 1, 0, none⟩) := slot_of (hdep ⟨7, .data⟩ (by simp) (by kernel_rfl) 20 (by kernel_rfl))
      have c1 : V2.cell? ⟨w.heap.size + 1, 0, none⟩ = some (.int .i64 v.turn) := (HV.out.grow hE).cell 0
      exact rel_val (by simp [execOp, go_sem, e1, c1]) rfl
    | 9, ho =>
      injection ho with ho
      subst ho
      have e1 : a.tmps[21]?.getD undef = .int .i64 v.turn := slot_of (hdep ⟨8, .data⟩ (by simp) (by kernel_rfl) 21 (by kernel_rfl))
      exact rel_call 70 [.tmp 21] #[3] rfl (by kernel_rfl) [.int .i64 v.turn] (by simp [Act.eval, e1]) (ret_val (Calls.ext_of_same (HA.out _)))
    | 10, ho =>
      injection ho with ho
      subst ho
      obtain ⟨q1, e1', hL1⟩ := hdep ⟨6, .data⟩ (by simp) (by kernel_rfl) 19 (by kernel_rfl)
      have e1 := slot_of e1'
      have e2 : a.tmps[22]?.getD undef = .int .i64 (ai : Int) := slot_of (hdep ⟨9, .data⟩ (by simp) (by kernel_rfl) 22 (by kernel_rfl))
      exact rel_val (by simp [execOp, go_sem, e1, e2, ha5]) ⟨q1, rfl, hL1⟩
    | 11, ho =>
      injection ho with ho
      subst ho
      obtain ⟨q1, e1', hL1⟩ := hdep ⟨10, .data⟩ (by simp) (by kernel_rfl) 23 (by kernel_rfl)
      have e1 := slot_of e1'
      have c1 : V2.cell? ⟨q1, ai, none⟩ = some (.int .i64 ss) := (hL1.cell ai).trans hss
      exact rel_val (by simp [execOp, go_sem, e1, c1]) rfl
    | 12, ho =>
      injection ho with ho
      subst ho
      have e1 : a.tmps[18]?.getD undef = .int .i64 cc := slot_of (hdep ⟨5, .data⟩ (by simp) (by kernel_rfl) 18 (by kernel_rfl))
      exact rel_val (by simp [execOp, go_sem, e1]) rfl
    | 13, ho =>
      injection ho with ho
      subst ho
      have e1 : a.tmps[24]?.getD undef = .int .i64 ss := slot_of (hdep ⟨11, .data⟩ (by simp) (by kernel_rfl) 24 (by kernel_rfl))
      exact rel_val (by simp [execOp, go_sem, e1]) rfl
    | k + 14, ho => exact absurd (List.getElem?_eq_some_iff.1 ho).1 (by simp)
  case fin =>
    intro vs V hE0 hvs
    have hE : Ext W V := Ext.trans ((Ext.refl W).drew) hE0
    have s12 : vs 12 = .int .i64 cc := hvs 12 (by simp)
    have s13 : vs 13 = .int .i64 ss := hvs 13 (by simp)
    obtain ⟨z1, rfl⟩ : ∃ z1, V = ext W z1 := ⟨V, (ext_of hE).symm⟩
    simp [putAll, Act.put, s12, s13]
    clear hE hE0 hvs s12 s13 hcc hss
    have cT : (ext W z1).cell? ⟨w.heap.size + 1, 0, none⟩ = some (.int .i64 v.turn) := (HV.out.ext z1).cell 0
    have oV := Old.mk (HV.out.ext z1).lt
    by_cases hn : v.turn < 0
    · have bn : decide (v.turn < 0) = true := by simpa using hn
      have hsn : sn = -ss := by rw [HS.out]; simp [hn]
      subst hsn
      go_wp2_with fail
      have hsg : -64 ≤ -ss ∧ -ss ≤ 64 := by omega
      clear HS
      generalize -ss = sg at *
      have cx : (ext W z1).cell? ⟨w.heap.size, 0, none⟩ = some (.int .i64 m.x) := (HM.out.ext z1).cell 0
      have cy : (ext W z1).cell? ⟨w.heap.size, 1, none⟩ = some (.int .i64 m.y) := (HM.out.ext z1).cell 1
      have oM := Old.mk (HM.out.ext z1).lt
      refine wp_region_ext (by kernel_rfl) (by kernel_rfl) ?_
      repeat (go_big_quiet_step (fail))
      refine wpQuiet_nil ?_
      rintro _ ⟨z2, rfl⟩
      go_wp2_with fail
      have p1 := prod_in (c := cc) (x := m.x - 32) (by omega) (by omega)
      have p2 := prod_in (c := sg) (x := m.y - 32) hsg (by omega)
      have p3 := prod_in (c := sg) (x := m.x - 32) hsg (by omega)
      have p4 := prod_in (c := cc) (x := m.y - 32) (by omega) (by omega)
      have cd : (ext W z1).cell? ⟨w.heap.size, 3, none⟩ = some (.int .u8 m.dir) := (HM.out.ext z1).cell 3
      have c1 : (ext W z1).cell? ⟨w.heap.size + 1, 1, none⟩ = some (.int .i64 v.dx) := (HV.out.ext z1).cell 1
      have c2 : (ext W z1).cell? ⟨w.heap.size + 1, 2, none⟩ = some (.int .i64 v.dy) := (HV.out.ext z1).cell 2
      have oB := Old.mk (HB.out.ext z1).lt
      obtain ⟨j, hj⟩ := Int.eq_ofNat_of_zero_le (show 0 ≤ m.x / 16 by omega)
      have hj4 : (j : Int) < 4 := by omega
      have hj5 : (m.x / 16).toNat = j := by omega
      rw [hj5] at HY
      have cb : (ext W z1).cell? ⟨w.heap.size + 1 + 1, j, none⟩ = some (.int .i64 (b j)) := bend_at _ _ _ (HB.out.ext z1) j (by omega)
      have hbj := hb j (by omega)
      have D1 := Lib.hid (fun w => down_any (cc * (m.x - 32) - sg * (m.y - 32) + 32) (by omega) w)
      have D2 := Lib.hid (fun w => down_any (sg * (m.x - 32) + cc * (m.y - 32) + 32) (by omega) w)
      generalize b j = bj at *
      refine wp_region_ext (by kernel_rfl) (by kernel_rfl) ?_
      repeat (go_big_quiet_step (first | (go_at_call 71; with_reducible exact Calls.quiet_same (D1.out _)) | (go_at_call 71; with_reducible exact Calls.quiet_same (D2.out _))))
      refine wpQuiet_nil ?_
      rintro _ ⟨z3, rfl⟩
      go_wp2_with fail
      exact bodyPost_ret (v := .tuple #[.int .i64 px, .int .i64 py, .int .i64 pd]) (by rw [HX.out, HY.out, HD.out]; simp [results, Try.results50, go_sem]) rfl ⟨rfl, ((HE.out.ext z1).ext z2).ext z3⟩
    · have bn : decide (v.turn < 0) = false := by simpa using hn
      have hsn : sn = ss := by rw [HS.out]; simp [hn]
      subst hsn
      go_wp2_with fail
      have hsg : -64 ≤ sn ∧ sn ≤ 64 := by omega
      clear HS
      generalize sn = sg at *
      have cx : (ext W z1).cell? ⟨w.heap.size, 0, none⟩ = some (.int .i64 m.x) := (HM.out.ext z1).cell 0
      have cy : (ext W z1).cell? ⟨w.heap.size, 1, none⟩ = some (.int .i64 m.y) := (HM.out.ext z1).cell 1
      have oM := Old.mk (HM.out.ext z1).lt
      refine wp_region_ext (by kernel_rfl) (by kernel_rfl) ?_
      repeat (go_big_quiet_step (fail))
      refine wpQuiet_nil ?_
      rintro _ ⟨z2, rfl⟩
      go_wp2_with fail
      have p1 := prod_in (c := cc) (x := m.x - 32) (by omega) (by omega)
      have p2 := prod_in (c := sg) (x := m.y - 32) hsg (by omega)
      have p3 := prod_in (c := sg) (x := m.x - 32) hsg (by omega)
      have p4 := prod_in (c := cc) (x := m.y - 32) (by omega) (by omega)
      have cd : (ext W z1).cell? ⟨w.heap.size, 3, none⟩ = some (.int .u8 m.dir) := (HM.out.ext z1).cell 3
      have c1 : (ext W z1).cell? ⟨w.heap.size + 1, 1, none⟩ = some (.int .i64 v.dx) := (HV.out.ext z1).cell 1
      have c2 : (ext W z1).cell? ⟨w.heap.size + 1, 2, none⟩ = some (.int .i64 v.dy) := (HV.out.ext z1).cell 2
      have oB := Old.mk (HB.out.ext z1).lt
      obtain ⟨j, hj⟩ := Int.eq_ofNat_of_zero_le (show 0 ≤ m.x / 16 by omega)
      have hj4 : (j : Int) < 4 := by omega
      have hj5 : (m.x / 16).toNat = j := by omega
      rw [hj5] at HY
      have cb : (ext W z1).cell? ⟨w.heap.size + 1 + 1, j, none⟩ = some (.int .i64 (b j)) := bend_at _ _ _ (HB.out.ext z1) j (by omega)
      have hbj := hb j (by omega)
      have D1 := Lib.hid (fun w => down_any (cc * (m.x - 32) - sg * (m.y - 32) + 32) (by omega) w)
      have D2 := Lib.hid (fun w => down_any (sg * (m.x - 32) + cc * (m.y - 32) + 32) (by omega) w)
      generalize b j = bj at *
      refine wp_region_ext (by kernel_rfl) (by kernel_rfl) ?_
      repeat (go_big_quiet_step (first | (go_at_call 71; with_reducible exact Calls.quiet_same (D1.out _)) | (go_at_call 71; with_reducible exact Calls.quiet_same (D2.out _))))
      refine wpQuiet_nil ?_
      rintro _ ⟨z3, rfl⟩
      go_wp2_with fail
      exact bodyPost_ret (v := .tuple #[.int .i64 px, .int .i64 py, .int .i64 pd]) (by rw [HX.out, HY.out, HD.out]; simp [results, Try.results50, go_sem]) rfl ⟨rfl, ((HE.out.ext z1).ext z2).ext z3⟩
end Go.Proofs.Ythejomcibobieaa
