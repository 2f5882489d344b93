/- Proved: for all reasons r and s and every number x, the call of whorllaw11.AuditPacked returns true and leaves its arguments as they were. No conditions. -/
import Derived.Test.YtkhmjkhgmggjcaaAlive
import Derived.Test.YtkhmjkhgmggjcaaLogs
namespace Go.Proofs.Ytkhmjkhgmggjcaa
open Go.Joins Go.ChangeShapes Go.WideShapes Go.RowKit Go.Deep Go.ChangeAt

theorem unp_pack (r : R) (h : goodB r = true) : unpR (packI r) = r := by
  obtain ⟨h1, h2, h3, h4, h5, h6, h7, h8, h9, h10, h11, h12⟩ := (goodB_iff r).1 h
  obtain ⟨d, n, e, ln, ld, ru⟩ := r
  simp only [packI, unpR] at *
  simp only [R.mk.injEq]
  omega
theorem unpV_pack (r : R) (h : goodB r = true) : unpV (packI r) = .tuple #[r.val, .int .i64 0] := by
  have e := unp_pack r h
  simp [unpV, unpB, e, h]
theorem pack_range (r : R) (h : goodB r = true) : 0 ≤ packI r ∧ packI r < 18446744073709551616 := by
  obtain ⟨h1, h2, h3, h4, h5, h6, h7, h8, h9, h10, h11, h12⟩ := (goodB_iff r).1 h
  unfold packI; omega
theorem pack_inj (r s : R) (hr : goodB r = true) (hs : goodB s = true) (h : packI r = packI s) : r = s := by
  rw [← unp_pack r hr, ← unp_pack s hs, h]


/-- The end of the statement: what is left behind the first two packings. -/
theorem R_ext {r s : R} (h1 : r.dec = s.dec) (h2 : r.num = s.num) (h3 : r.den = s.den) (h4 : r.lnum = s.lnum) (h5 : r.lden = s.lden) (h6 : r.rule = s.rule) : r = s := by
  cases r; cases s; simp_all
theorem unpB_parts (x : Int) (h : unpB x = true) : goodB (unpR x) = true ∧ packI (unpR x) = x := by
  simpa [unpB] using h

set_option maxRecDepth 100000 in
set_option maxHeartbeats 4000000 in
theorem packed_ne_n (r s : R) (x : Int) (w : World) (hx0 : 0 ≤ x) (hx1 : x < 18446744073709551616) (hr : goodB r = true) (hs : goodB s = true) (hne : r ≠ s) (hu : unpB x = false) :
    Calls Try.prog 8 #[r.val, s.val, .int .u64 x] w fun e w' => e = .returned (.bool true) ∧ Ext w w' := by
  have C1 := Lib.hid (fun w => pack_good r w hr)
  have C2 := Lib.hid (fun w => pack_good s w hs)
  have C3 := Lib.hid (fun w => unpV_pack r hr ▸ unpack_any (packI r) w (pack_range r hr).1 (pack_range r hr).2)
  have he : (packI r == packI s) = false := by
    rw [beq_eq_false_iff_ne]; exact fun h => hne (pack_inj r s hr hs h)
  have HN := Lib.hid hne
  clear hne
  have C5 := Lib.hid (fun w => (show unpV x = Value.tuple #[rzero.val, .int .i64 2] by simp [unpV, hu]) ▸ unpack_any x w hx0 hx1)
  clear hu
  go_enter Try.func8, Try.ntmps8
  go_wp2_with (go_at_call 40; refine Calls.ext (alive_any _) fun z1 => ?_)
  refine Calls.ext (C1.out _) fun z2 => ?_
  go_wp2_with fail
  refine Calls.ext (C2.out _) fun z3 => ?_
  go_wp2_with fail
  refine Calls.ext (C3.out _) fun z4 => ?_
  go_wp2_with fail
  any_goals (exfalso; apply HN.out; apply R_ext <;> assumption)
  all_goals
    refine Calls.ext (C5.out _) fun z5 => ?_
    go_wp2_with fail
    go_ret
    refine ⟨rfl, ?_⟩
    repeat' (first | with_reducible exact Ext.refl _ | with_reducible refine Ext.alloc ?_ _ | with_reducible refine Ext.ext ?_ _ | with_reducible refine Ext.setCell ?_ (by simp) _)

set_option maxRecDepth 100000 in
set_option maxHeartbeats 4000000 in
theorem packed_ne_y (r s : R) (x : Int) (w : World) (hx0 : 0 ≤ x) (hx1 : x < 18446744073709551616) (hr : goodB r = true) (hs : goodB s = true) (hne : r ≠ s) (hu : unpB x = true) :
    Calls Try.prog 8 #[r.val, s.val, .int .u64 x] w fun e w' => e = .returned (.bool true) ∧ Ext w w' := by
  have C1 := Lib.hid (fun w => pack_good r w hr)
  have C2 := Lib.hid (fun w => pack_good s w hs)
  have C3 := Lib.hid (fun w => unpV_pack r hr ▸ unpack_any (packI r) w (pack_range r hr).1 (pack_range r hr).2)
  have he : (packI r == packI s) = false := by
    rw [beq_eq_false_iff_ne]; exact fun h => hne (pack_inj r s hr hs h)
  have HN := Lib.hid hne
  clear hne
  have C5 := Lib.hid (fun w => (show unpV x = Value.tuple #[(unpR x).val, .int .i64 0] by simp [unpV, hu]) ▸ unpack_any x w hx0 hx1)
  have C6 := Lib.hid (fun w => (unpB_parts x hu).2 ▸ pack_good (unpR x) w (unpB_parts x hu).1)
  generalize unpR x = y at *
  clear hu
  go_enter Try.func8, Try.ntmps8
  go_wp2_with (go_at_call 40; refine Calls.ext (alive_any _) fun z1 => ?_)
  refine Calls.ext (C1.out _) fun z2 => ?_
  go_wp2_with fail
  refine Calls.ext (C2.out _) fun z3 => ?_
  go_wp2_with fail
  refine Calls.ext (C3.out _) fun z4 => ?_
  go_wp2_with fail
  any_goals (exfalso; apply HN.out; apply R_ext <;> assumption)
  all_goals
    refine Calls.ext (C5.out _) fun z5 => ?_
    go_wp2_with fail
    refine Calls.ext (C6.out _) fun z6 => ?_
    go_wp2_with fail
    go_ret
    refine ⟨rfl, ?_⟩
    repeat' (first | with_reducible exact Ext.refl _ | with_reducible refine Ext.alloc ?_ _ | with_reducible refine Ext.ext ?_ _ | with_reducible refine Ext.setCell ?_ (by simp) _)

set_option maxRecDepth 100000 in
set_option maxHeartbeats 4000000 in
theorem packed_eq_n (r : R) (x : Int) (w : World) (hx0 : 0 ≤ x) (hx1 : x < 18446744073709551616) (hr : goodB r = true) (hu : unpB x = false) :
    Calls Try.prog 8 #[r.val, r.val, .int .u64 x] w fun e w' => e = .returned (.bool true) ∧ Ext w w' := by
  have C1 := Lib.hid (fun w => pack_good r w hr)
  have C3 := Lib.hid (fun w => unpV_pack r hr ▸ unpack_any (packI r) w (pack_range r hr).1 (pack_range r hr).2)
  have C5 := Lib.hid (fun w => (show unpV x = Value.tuple #[rzero.val, .int .i64 2] by simp [unpV, hu]) ▸ unpack_any x w hx0 hx1)
  clear hu
  go_enter Try.func8, Try.ntmps8
  go_wp2_with (go_at_call 40; refine Calls.ext (alive_any _) fun z1 => ?_)
  refine Calls.ext (C1.out _) fun z2 => ?_
  go_wp2_with fail
  refine Calls.ext (C1.out _) fun z3 => ?_
  go_wp2_with fail
  refine Calls.ext (C3.out _) fun z4 => ?_
  go_wp2_with fail
  all_goals
    refine Calls.ext (C5.out _) fun z5 => ?_
    go_wp2_with fail
    go_ret
    refine ⟨rfl, ?_⟩
    repeat' (first | with_reducible exact Ext.refl _ | with_reducible refine Ext.alloc ?_ _ | with_reducible refine Ext.ext ?_ _ | with_reducible refine Ext.setCell ?_ (by simp) _)

set_option maxRecDepth 100000 in
set_option maxHeartbeats 4000000 in
theorem packed_eq_y (r : R) (x : Int) (w : World) (hx0 : 0 ≤ x) (hx1 : x < 18446744073709551616) (hr : goodB r = true) (hu : unpB x = true) :
    Calls Try.prog 8 #[r.val, r.val, .int .u64 x] w fun e w' => e = .returned (.bool true) ∧ Ext w w' := by
  have C1 := Lib.hid (fun w => pack_good r w hr)
  have C3 := Lib.hid (fun w => unpV_pack r hr ▸ unpack_any (packI r) w (pack_range r hr).1 (pack_range r hr).2)
  have C5 := Lib.hid (fun w => (show unpV x = Value.tuple #[(unpR x).val, .int .i64 0] by simp [unpV, hu]) ▸ unpack_any x w hx0 hx1)
  have C6 := Lib.hid (fun w => (unpB_parts x hu).2 ▸ pack_good (unpR x) w (unpB_parts x hu).1)
  generalize unpR x = y at *
  clear hu
  go_enter Try.func8, Try.ntmps8
  go_wp2_with (go_at_call 40; refine Calls.ext (alive_any _) fun z1 => ?_)
  refine Calls.ext (C1.out _) fun z2 => ?_
  go_wp2_with fail
  refine Calls.ext (C1.out _) fun z3 => ?_
  go_wp2_with fail
  refine Calls.ext (C3.out _) fun z4 => ?_
  go_wp2_with fail
  all_goals
    refine Calls.ext (C5.out _) fun z5 => ?_
    go_wp2_with fail
    refine Calls.ext (C6.out _) fun z6 => ?_
    go_wp2_with fail
    go_ret
    refine ⟨rfl, ?_⟩
    repeat' (first | with_reducible exact Ext.refl _ | with_reducible refine Ext.alloc ?_ _ | with_reducible refine Ext.ext ?_ _ | with_reducible refine Ext.setCell ?_ (by simp) _)

set_option maxRecDepth 100000 in
set_option maxHeartbeats 4000000 in
theorem packed_gb_n (r s : R) (x : Int) (w : World) (hx0 : 0 ≤ x) (hx1 : x < 18446744073709551616) (hr : goodB r = true) (hs : goodB s = false) (hu : unpB x = false) :
    Calls Try.prog 8 #[r.val, s.val, .int .u64 x] w fun e w' => e = .returned (.bool true) ∧ Ext w w' := by
  have C1 := Lib.hid (fun w => pack_good r w hr)
  have C2 := Lib.hid (fun w => pack_bad s w hs)
  have C3 := Lib.hid (fun w => unpV_pack r hr ▸ unpack_any (packI r) w (pack_range r hr).1 (pack_range r hr).2)
  have C5 := Lib.hid (fun w => (show unpV x = Value.tuple #[rzero.val, .int .i64 2] by simp [unpV, hu]) ▸ unpack_any x w hx0 hx1)
  clear hu
  go_enter Try.func8, Try.ntmps8
  go_wp2_with (go_at_call 40; refine Calls.ext (alive_any _) fun z1 => ?_)
  refine Calls.ext (C1.out _) fun z2 => ?_
  go_wp2_with fail
  refine Calls.ext (C2.out _) fun z3 => ?_
  go_wp2_with fail
  refine Calls.ext (C3.out _) fun z4 => ?_
  go_wp2_with fail
  all_goals
    refine Calls.ext (C5.out _) fun z5 => ?_
    go_wp2_with fail
    go_ret
    refine ⟨rfl, ?_⟩
    repeat' (first | with_reducible exact Ext.refl _ | with_reducible refine Ext.alloc ?_ _ | with_reducible refine Ext.ext ?_ _ | with_reducible refine Ext.setCell ?_ (by simp) _)

set_option maxRecDepth 100000 in
set_option maxHeartbeats 4000000 in
theorem packed_gb_y (r s : R) (x : Int) (w : World) (hx0 : 0 ≤ x) (hx1 : x < 18446744073709551616) (hr : goodB r = true) (hs : goodB s = false) (hu : unpB x = true) :
    Calls Try.prog 8 #[r.val, s.val, .int .u64 x] w fun e w' => e = .returned (.bool true) ∧ Ext w w' := by
  have C1 := Lib.hid (fun w => pack_good r w hr)
  have C2 := Lib.hid (fun w => pack_bad s w hs)
  have C3 := Lib.hid (fun w => unpV_pack r hr ▸ unpack_any (packI r) w (pack_range r hr).1 (pack_range r hr).2)
  have C5 := Lib.hid (fun w => (show unpV x = Value.tuple #[(unpR x).val, .int .i64 0] by simp [unpV, hu]) ▸ unpack_any x w hx0 hx1)
  have C6 := Lib.hid (fun w => (unpB_parts x hu).2 ▸ pack_good (unpR x) w (unpB_parts x hu).1)
  generalize unpR x = y at *
  clear hu
  go_enter Try.func8, Try.ntmps8
  go_wp2_with (go_at_call 40; refine Calls.ext (alive_any _) fun z1 => ?_)
  refine Calls.ext (C1.out _) fun z2 => ?_
  go_wp2_with fail
  refine Calls.ext (C2.out _) fun z3 => ?_
  go_wp2_with fail
  refine Calls.ext (C3.out _) fun z4 => ?_
  go_wp2_with fail
  all_goals
    refine Calls.ext (C5.out _) fun z5 => ?_
    go_wp2_with fail
    refine Calls.ext (C6.out _) fun z6 => ?_
    go_wp2_with fail
    go_ret
    refine ⟨rfl, ?_⟩
    repeat' (first | with_reducible exact Ext.refl _ | with_reducible refine Ext.alloc ?_ _ | with_reducible refine Ext.ext ?_ _ | with_reducible refine Ext.setCell ?_ (by simp) _)

set_option maxRecDepth 100000 in
set_option maxHeartbeats 4000000 in
theorem packed_b_n (r s : R) (x : Int) (w : World) (hx0 : 0 ≤ x) (hx1 : x < 18446744073709551616) (hr : goodB r = false) (hu : unpB x = false) :
    Calls Try.prog 8 #[r.val, s.val, .int .u64 x] w fun e w' => e = .returned (.bool true) ∧ Ext w w' := by
  obtain ⟨p0, p1, hp⟩ : ∃ a b, packV s = .tuple #[.int .u64 a, .int .i64 b] := by unfold packV; split <;> exact ⟨_, _, rfl⟩
  have C1 := Lib.hid (fun w => pack_bad r w hr)
  have C2 := Lib.hid (fun w => hp ▸ pack_any s w)
  clear hp
  have C5 := Lib.hid (fun w => (show unpV x = Value.tuple #[rzero.val, .int .i64 2] by simp [unpV, hu]) ▸ unpack_any x w hx0 hx1)
  clear hu
  go_enter Try.func8, Try.ntmps8
  go_wp2_with (go_at_call 40; refine Calls.ext (alive_any _) fun z1 => ?_)
  refine Calls.ext (C1.out _) fun z2 => ?_
  go_wp2_with fail
  refine Calls.ext (C2.out _) fun z3 => ?_
  go_wp2_with fail
  all_goals
    refine Calls.ext (C5.out _) fun z5 => ?_
    go_wp2_with fail
    go_ret
    refine ⟨rfl, ?_⟩
    repeat' (first | with_reducible exact Ext.refl _ | with_reducible refine Ext.alloc ?_ _ | with_reducible refine Ext.ext ?_ _ | with_reducible refine Ext.setCell ?_ (by simp) _)

set_option maxRecDepth 100000 in
set_option maxHeartbeats 4000000 in
theorem packed_b_y (r s : R) (x : Int) (w : World) (hx0 : 0 ≤ x) (hx1 : x < 18446744073709551616) (hr : goodB r = false) (hu : unpB x = true) :
    Calls Try.prog 8 #[r.val, s.val, .int .u64 x] w fun e w' => e = .returned (.bool true) ∧ Ext w w' := by
  obtain ⟨p0, p1, hp⟩ : ∃ a b, packV s = .tuple #[.int .u64 a, .int .i64 b] := by unfold packV; split <;> exact ⟨_, _, rfl⟩
  have C1 := Lib.hid (fun w => pack_bad r w hr)
  have C2 := Lib.hid (fun w => hp ▸ pack_any s w)
  clear hp
  have C5 := Lib.hid (fun w => (show unpV x = Value.tuple #[(unpR x).val, .int .i64 0] by simp [unpV, hu]) ▸ unpack_any x w hx0 hx1)
  have C6 := Lib.hid (fun w => (unpB_parts x hu).2 ▸ pack_good (unpR x) w (unpB_parts x hu).1)
  generalize unpR x = y at *
  clear hu
  go_enter Try.func8, Try.ntmps8
  go_wp2_with (go_at_call 40; refine Calls.ext (alive_any _) fun z1 => ?_)
  refine Calls.ext (C1.out _) fun z2 => ?_
  go_wp2_with fail
  refine Calls.ext (C2.out _) fun z3 => ?_
  go_wp2_with fail
  all_goals
    refine Calls.ext (C5.out _) fun z5 => ?_
    go_wp2_with fail
    refine Calls.ext (C6.out _) fun z6 => ?_
    go_wp2_with fail
    go_ret
    refine ⟨rfl, ?_⟩
    repeat' (first | with_reducible exact Ext.refl _ | with_reducible refine Ext.alloc ?_ _ | with_reducible refine Ext.ext ?_ _ | with_reducible refine Ext.setCell ?_ (by simp) _)


theorem auditPacked_walk (r s : R) (x : Int) (w : World) (hx0 : 0 ≤ x) (hx1 : x < 18446744073709551616) :
    Calls Try.prog 8 #[r.val, s.val, .int .u64 x] w fun e w' => e = .returned (.bool true) ∧ Ext w w' := by
  cases hu : unpB x
  · cases hr : goodB r
    · exact packed_b_n r s x w hx0 hx1 hr hu
    · cases hs : goodB s
      · exact packed_gb_n r s x w hx0 hx1 hr hs hu
      · by_cases he : r = s
        · subst he; exact packed_eq_n r x w hx0 hx1 hr hu
        · exact packed_ne_n r s x w hx0 hx1 hr hs he hu
  · cases hr : goodB r
    · exact packed_b_y r s x w hx0 hx1 hr hu
    · cases hs : goodB s
      · exact packed_gb_y r s x w hx0 hx1 hr hs hu
      · by_cases he : r = s
        · subst he; exact packed_eq_y r x w hx0 hx1 hr hu
        · exact packed_ne_y r s x w hx0 hx1 hr hs he hu

set_option maxRecDepth 100000 in
theorem auditPacked_lifted (os : Os) (started : os.Started) (H : Type) (enc : TypeId × Value → H) :
    ReturnsInHanded {} Try.checked os 8 .any (Rows.auditPackedSpec.pre6 enc Try.prog Try.f8 Rows.auditPackedRow.domain false) (Rows.auditPackedSpec.post enc Try.prog Try.f8 false true false false) := by
  refine returnsInHanded_of_change (C := Try.checked) own started (by kernel_rfl) Try.func8
    (ChangeSpec.witness6 (enc := enc) (C := Try.checked) false ⟨#[], #[.agg #[.int .u8 0, .int .i64 0, .int .i64 0, .int .i64 0, .int .i64 0, .int .i64 0], .agg #[.int .u8 0, .int .i64 0, .int .i64 0, .int .i64 0, .int .i64 0, .int .i64 0], .int .u64 0], []⟩ 8 (by kernel_rfl) (by kernel_rfl) (by kernel_rfl) (by kernel_rfl)) ?_
  intro W base args ds gs before hval0 hW hcnd _
  have hval : ∀ (j : Nat) t v, Try.f8.params[j]? = some t → args[j]? = some v → Value.okWide Try.prog W .any base t v := hval0
  have hW' := hW
  obtain ⟨p, q, hA0, hV, rfl, hfz, hnd⟩ := hW
  have hA : DataW.TrodAll enc Try.prog W 0 (fun _ => true) true Try.f8.params.toList args.toList ds p := hA0
  rw [Try.params8] at hA hval
  obtain ⟨v0, vs0, d0, ds0, p0, q0, hargs, rfl, rfl, h0, r0⟩ := trodAll_cons hA
  obtain ⟨v1, vs1, d1, ds1, p1, q1, rfl, rfl, rfl, h1, r1⟩ := trodAll_cons r0
  obtain ⟨v2, vs2, d2, ds2, p2, q2, rfl, rfl, rfl, h2, r2⟩ := trodAll_cons r1
  obtain ⟨rfl, rfl, rfl⟩ := trodAll_nil r2
  obtain rfl : args = #[v0, v1, v2] := by cases args; simp_all
  obtain ⟨rfl, rfl⟩ := trodVars_none hV
  have k0 := h0
  have lt0 : ∀ x ∈ p0, x.block < W.heap.size := by obtain ⟨m, hm⟩ := k0; exact DataW.trod_lt m _ _ _ hm
  obtain ⟨ns0, hl0, hv0, wf0⟩ := open_nums (ks := [.u8, .i64, .i64, .i64, .i64, .i64]) Try.underlying23 (by kernel_rfl) (by kernel_rfl) (kindsOf_of (by kernel_rfl)) (hval 0 23 v0 rfl rfl) h0
  have k1 := h1
  have lt1 : ∀ x ∈ p1, x.block < W.heap.size := by obtain ⟨m, hm⟩ := k1; exact DataW.trod_lt m _ _ _ hm
  obtain ⟨ns1, hl1, hv1, wf1⟩ := open_nums (ks := [.u8, .i64, .i64, .i64, .i64, .i64]) Try.underlying23 (by kernel_rfl) (by kernel_rfl) (kindsOf_of (by kernel_rfl)) (hval 1 23 v1 rfl rfl) h1
  have k2 := h2
  have lt2 : ∀ x ∈ p2, x.block < W.heap.size := by obtain ⟨m, hm⟩ := k2; exact DataW.trod_lt m _ _ _ hm
  obtain ⟨a2, rfl, _, _, w2⟩ := open_int Try.underlying24 (hval 2 24 v2 rfl rfl) h2
  clear hA0 hval0
  match ns0, hl0 with
  | [m0, m1, m2, m3, m4, m5], _ =>
  obtain rfl : v0 = R.val ⟨m0, m1, m2, m3, m4, m5⟩ := hv0
  match ns1, hl1 with
  | [n0, n1, n2, n3, n4, n5], _ =>
  obtain rfl : v1 = R.val ⟨n0, n1, n2, n3, n4, n5⟩ := hv1
  have hx := wf_u64 w2
  refine (auditPacked_walk ⟨m0, m1, m2, m3, m4, m5⟩ ⟨n0, n1, n2, n3, n4, n5⟩ a2 W hx.1 hx.2).mono fun e W' ⟨he, bel⟩ => ?_
  subst he
  exact ⟨_, rfl, _, _, _, [], _, [], hW', trodAll_mk1 (shut_bool Try.underlying4 _), (trodAll_cons_mk (Below.trod laidOut (by kernel_rfl) (of_decide_eq_true (by kernel_rfl)) k0 bel lt0) (trodAll_cons_mk (Below.trod laidOut (by kernel_rfl) (of_decide_eq_true (by kernel_rfl)) k1 bel lt1) (trodAll_cons_mk (Below.trod laidOut (by kernel_rfl) (of_decide_eq_true (by kernel_rfl)) k2 bel lt2) trodAll_mk0))), rfl, Below.frame bel _, fun h => by cases h⟩

theorem auditPacked_holds : Rows.AuditPackedSaid :=
  OpenClaim.holds_of_wide 8 Try.f8 rfl rfl rfl rfl rfl rfl rfl ⟨rfl, rfl, rfl, rfl, rfl⟩ rfl rfl rfl rfl rfl (by kernel_rfl) Try.func8 (by kernel_rfl)
    (of_decide_eq_true (by kernel_rfl)) (by unfold Func.isWrapper; first | (rw [if_pos (by decide +kernel)]; kernel_rfl) | (rw [if_neg (by decide +kernel)]; exact ⟨rfl, rfl⟩))
    (fun os started H enc _ => auditPacked_lifted os started H enc)
end Go.Proofs.Ytkhmjkhgmggjcaa
