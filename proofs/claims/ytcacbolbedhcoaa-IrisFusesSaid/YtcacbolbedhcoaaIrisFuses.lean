/- Proved: for all lists of codes l, numbers need and turns, and codes probe, the call of whorllaw03.IrisFuses returns true and leaves its arguments as they were. No conditions (but the form's own reach). -/
import Derived.Test.YtcacbolbedhcoaaNear
import Derived.Test.YtcacbolbedhcoaaSame
import Derived.Test.YtcacbolbedhcoaaSlices2
namespace Go.Proofs.Ytcacbolbedhcoaa
open Go.Joins Go.ChangeShapes Go.WideShapes Go.RowKit Go.Deep Go.ChangeAt

theorem fuseV_is (l : List Ir) (n : Int) : ∃ (a : Ir) (e : Int), fuseV l n = .tuple #[a.val, .int .i64 e] := by
  unfold fuseV; split
  · split
    · split <;> exact ⟨_, _, rfl⟩
    · exact ⟨_, _, rfl⟩
  · exact ⟨_, _, rfl⟩
theorem nearV_is (l : List Ir) (b : Ir) (t : Int) : ∃ x e : Int, nearV l b t = .tuple #[.int .i64 x, .int .i64 e] := by
  unfold nearV; split
  · exact ⟨_, _, rfl⟩
  · split
    · split
      · split <;> exact ⟨_, _, rfl⟩
      · exact ⟨_, _, rfl⟩
    · exact ⟨_, _, rfl⟩

set_option maxRecDepth 100000 in
set_option maxHeartbeats 2000000 in
theorem irisFuses_walk (A : Option Addr) (c : Nat) (l : List Ir) (need : Int) (b : Ir) (t : Int) (w : World) (hl : Irs w A l) (hn : l.length * 16 ≤ 140737488351232) :
    Calls Try.prog 6 #[.slice A l.length c, .int .i64 need, b.val, .int .i64 t] w fun e w' => e = .returned (.bool true) ∧ Ext w w' := by
  obtain ⟨x1, e1, h1⟩ := fuseV_is l need
  obtain ⟨x2, e2, h2⟩ := nearV_is l b t
  have hn9 : l.length ≤ 9000000000000 := by omega
  have C1 := Lib.hid (fun A c w hl => h1 ▸ Fuse_any A c need l w hl hn9)
  have C2 := Lib.hid (fun A c w hl => h1 ▸ refFuse_any A c need l w hl hn9)
  have C3 := Lib.hid (fun A c w hl => h2 ▸ Nearest_any A c l b t w hl hn9)
  have C4 := Lib.hid (fun A c w hl => h2 ▸ refNearest_any A c l b t w hl hn9)
  have HL := Lib.hid hl
  have HS := Lib.hid hl.slc
  have hml : l.length ≤ maxLen := by simp only [maxLen]; omega
  have HML := Lib.hid hml
  clear h1 h2 hl hml
  go_enter Try.func6, Try.ntmps6
  go_wp2_with (at_builtin; refine wpList_append_big rfl (w.alloc (.cells #[.int .u64 (uw b.code), .int .u64 (uw b.mask)] 27)) (by exact (Ext.refl _).alloc _) infoIr (.tmp 16) (.tmp 17) rfl _ 0 [] rfl (by exact own_empty 2 (by simp) (Blk.new' _ 27 #[] _ (by simp))) A l.length c (flatI l) rfl (by exact HS.out.grow (((Ext.refl w).alloc _).alloc _)) (flatI_one l) (by rw [Nat.zero_add]; exact HML.out) (by omega) ?_; intro A1 c1 z1 hown1)
  simp only [Nat.zero_add, List.nil_append] at hown1
  have HI := Lib.hid (Slc.irs (Slc.of_own hown1))
  have HB := Lib.hid ((Blk.new w 27 #[.int .u64 (uw b.code), .int .u64 (uw b.mask)]).ext z1)
  have HE := Lib.hid (((Ext.refl w).alloc (.cells #[.int .u64 (uw b.code), .int .u64 (uw b.mask)] 27)).ext z1)
  clear hown1 HS HML
  generalize ext (w.alloc (.cells #[.int .u64 (uw b.code), .int .u64 (uw b.mask)] 27)) z1 = W1 at *
  have b0 : W1.cell? ⟨w.heap.size, 0, none⟩ = some (.int .u64 (uw b.code)) := HB.out.cell 0
  have b1 : W1.cell? ⟨w.heap.size, 1, none⟩ = some (.int .u64 (uw b.mask)) := HB.out.cell 1
  have o1 : Nonempty (Old w.heap.size W1) := Old.mk HB.out.lt
  refine Calls.ext (C1.out _ c1 _ HI.out) fun z2 => ?_
  go_wp2_with fail
  refine Calls.ext (C2.out _ c _ (HL.out.grow ((HE.out.ext _).alloc _))) fun z3 => ?_
  go_wp2_with fail
  refine Calls.ext (C3.out _ c1 _ (HI.out.grow ((((Ext.refl W1).ext _).alloc _).ext _ |>.alloc _))) fun z4 => ?_
  go_wp2_with fail
  refine Calls.ext (C4.out _ c _ (HL.out.grow (((((HE.out.ext _).alloc _).ext _).alloc _).ext _))) fun z5 => ?_
  go_wp2_with fail
  refine Calls.ext (same_any _ _ c1 c l _ (HI.out.grow ((((((Ext.refl W1).ext _).alloc _).ext _).alloc _).ext _ |>.ext _)) (HL.out.grow ((((((HE.out.ext _).alloc _).ext _).alloc _).ext _).ext _)) hn9) fun z6 => ?_
  go_wp2_with fail
  go_ret
  exact ⟨rfl, (((((((HE.out.ext _).alloc _).ext _).alloc _).ext _).ext _).ext _)⟩

set_option maxRecDepth 100000 in
theorem irisFuses_lifted (os : Os) (started : os.Started) (H : Type) (enc : TypeId × Value → H) :
    ReturnsInHanded {} Try.checked os 6 .any (Rows.irisFusesSpec.pre6 enc Try.prog Try.f6 Rows.irisFusesRow.domain false) (Rows.irisFusesSpec.post enc Try.prog Try.f6 false true false false) := by
  refine returnsInHanded_of_change_sized (C := Try.checked) own started (by kernel_rfl) Try.func6
    (ChangeSpec.witness6 (enc := enc) (C := Try.checked) false ⟨#[], #[.slice none 0 0, .int .i64 0, .agg #[.int .u64 0, .int .u64 0], .int .i64 0], []⟩ 8 (by kernel_rfl) (by kernel_rfl) (by kernel_rfl) (by kernel_rfl)) ?_
  intro W base args ds gs before hval0 hW _ hsz0 _
  have hsz : (DataW.weightsEach Try.prog (Try.f6.params.toList ++ Rows.irisFusesSpec.plain.varTypes Try.prog) (ds ++ gs)).all (· ≤ reachBytes) = true := hsz0
  clear hsz0
  have hval : ∀ (j : Nat) t v, Try.f6.params[j]? = some t → args[j]? = some v → Value.okWide Try.prog W .any base t v := hval0
  have hW' := hW
  obtain ⟨p, q, hA0, hV, rfl, hfz, hnd⟩ := hW
  have hA : DataW.TrodAll enc Try.prog W 0 (fun _ => true) true Try.f6.params.toList args.toList ds p := hA0
  rw [Try.params6] at hA hval hsz
  obtain ⟨v0, vs0, d0, ds0, p0, q0, hargs, rfl, rfl, h0, r0⟩ := trodAll_cons hA
  obtain ⟨v1, vs1, d1, ds1, p1, q1, rfl, rfl, rfl, h1, r1⟩ := trodAll_cons r0
  obtain ⟨v2, vs2, d2, ds2, p2, q2, rfl, rfl, rfl, h2, r2⟩ := trodAll_cons r1
  obtain ⟨v3, vs3, d3, ds3, p3, q3, rfl, rfl, rfl, h3, r3⟩ := trodAll_cons r2
  obtain ⟨rfl, rfl, rfl⟩ := trodAll_nil r3
  obtain rfl : args = #[v0, v1, v2, v3] := by cases args; simp_all
  obtain ⟨rfl, rfl⟩ := trodVars_none hV
  have k0 := h0
  have lt0 : ∀ x ∈ p0, x.block < W.heap.size := by obtain ⟨m, hm⟩ := k0; exact DataW.trod_lt m _ _ _ hm
  obtain ⟨A0, rows0, cap0, rfl, hlc0, hcm0, hwf0, hrow0⟩ := open_rows (ks := [.u64, .u64]) Try.underlying58 Try.underlying27 (by kernel_rfl) (by kernel_rfl) (kindsOf_of (by kernel_rfl)) (by decide) (hval 0 58 v0 rfl rfl) h0
  have k1 := h1
  have lt1 : ∀ x ∈ p1, x.block < W.heap.size := by obtain ⟨m, hm⟩ := k1; exact DataW.trod_lt m _ _ _ hm
  obtain ⟨a1, rfl, _, _, w1⟩ := open_int Try.underlying3 (hval 1 3 v1 rfl rfl) h1
  have k2 := h2
  have lt2 : ∀ x ∈ p2, x.block < W.heap.size := by obtain ⟨m, hm⟩ := k2; exact DataW.trod_lt m _ _ _ hm
  obtain ⟨ns2, hl2, hv2, wf2⟩ := open_nums (ks := [.u64, .u64]) Try.underlying27 (by kernel_rfl) (by kernel_rfl) (kindsOf_of (by kernel_rfl)) (hval 2 27 v2 rfl rfl) h2
  have k3 := h3
  have lt3 : ∀ x ∈ p3, x.block < W.heap.size := by obtain ⟨m, hm⟩ := k3; exact DataW.trod_lt m _ _ _ hm
  obtain ⟨a3, rfl, _, _, w3⟩ := open_int Try.underlying3 (hval 3 3 v3 rfl rfl) h3
  clear hA0 hval0
  rw [ir_of hl2 wf2] at hv2
  subst hv2
  obtain ⟨l, hle, hirs, hcap⟩ := irs_of hwf0 hrow0 hlc0
  have hreach : l.length * 16 ≤ 140737488351232 := by
    rcases trod_len Try.underlying58 k0 with h | ⟨es, sp, rfl, hes⟩
    · omega
    · have := sized_slice hsz (j := 0) (t := 58) (e := 27) rfl rfl Try.underlying58
      rw [bytes27] at this
      simp only [reachBytes] at this
      omega
  refine (hle ▸ irisFuses_walk A0 cap0 l a1 (toIr ns2) a3 W hirs hreach).mono fun e W' ⟨he, bel⟩ => ?_
  subst he
  exact ⟨_, rfl, _, _, _, [], _, [], hW', trodAll_mk1 (shut_bool Try.underlying4 _), (trodAll_cons_mk (Below.trod laidOut (by kernel_rfl) (of_decide_eq_true (by kernel_rfl)) k0 bel lt0) (trodAll_cons_mk (Below.trod laidOut (by kernel_rfl) (of_decide_eq_true (by kernel_rfl)) k1 bel lt1) (trodAll_cons_mk (Below.trod laidOut (by kernel_rfl) (of_decide_eq_true (by kernel_rfl)) k2 bel lt2) (trodAll_cons_mk (Below.trod laidOut (by kernel_rfl) (of_decide_eq_true (by kernel_rfl)) k3 bel lt3) trodAll_mk0)))), rfl, Below.frame bel _, fun h => by cases h⟩

theorem irisFuses_holds : Rows.IrisFusesSaid :=
  OpenClaim.holds_of_wide 6 Try.f6 rfl rfl rfl rfl rfl rfl rfl ⟨rfl, rfl, rfl, rfl, rfl⟩ rfl rfl rfl rfl rfl (by kernel_rfl) Try.func6 (by kernel_rfl)
    (of_decide_eq_true (by kernel_rfl)) (by unfold Func.isWrapper; first | (rw [if_pos (by decide +kernel)]; kernel_rfl) | (rw [if_neg (by decide +kernel)]; exact ⟨rfl, rfl⟩))
    (fun os started H enc _ => irisFuses_lifted os started H enc)
end Go.Proofs.Ytcacbolbedhcoaa
