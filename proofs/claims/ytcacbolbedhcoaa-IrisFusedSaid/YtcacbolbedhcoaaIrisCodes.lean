/- Proved: for all rings r, numbers margin and t, and codes a, the call of whorllaw03.IrisCodes returns true and leaves its arguments as they were. No conditions. -/
import Derived.Test.YtcacbolbedhcoaaRefExtract
import Derived.Test.YtcacbolbedhcoaaRefMatch
import Derived.Test.YtcacbolbedhcoaaArgs
import Derived.Test.YtcacbolbedhcoaaFlat
namespace Go.Proofs.Ytcacbolbedhcoaa
open Go.Joins Go.ChangeShapes Go.WideShapes Go.RowKit Go.Deep Go.ChangeAt

theorem extV_is (r : Nat → Int) (m : Int) : ∃ (a : Ir) (e : Int), extV r m = .tuple #[a.val, .int .i64 e] := by
  unfold extV; split <;> exact ⟨_, _, rfl⟩
theorem turnV_is (a : Ir) (t : Int) : ∃ (b : Ir) (e : Int), turnV a t = .tuple #[b.val, .int .i64 e] := by
  unfold turnV; split
  · split <;> exact ⟨_, _, rfl⟩
  · exact ⟨_, _, rfl⟩

/-- the ring that numbers give -/
def ringF (ns : List Int) (i : Nat) : Int := ns.getD i 0
theorem ring_of {ns : List Int} (hl : ns.length = (List.replicate 64 IntKind.u8).length) : Value.agg (List.zipWith Value.int (List.replicate 64 IntKind.u8) ns).toArray = .agg (ringA (ringF ns)) := by
  rw [List.length_replicate] at hl
  congr 1
  apply Array.ext'
  apply List.ext_getElem?
  intro i
  unfold ringA
  rw [List.getElem?_zipWith, List.getElem?_map]
  by_cases h : i < 64
  · rw [List.getElem?_replicate_of_lt h, List.getElem?_range h, List.getElem?_eq_getElem (by omega)]
    simp [ringF, List.getD_eq_getElem?_getD, hl, h]
  · rw [List.getElem?_eq_none (by simp; omega), List.getElem?_eq_none (l := ns) (by omega), List.getElem?_eq_none (by simp; omega)]
    rfl
theorem ring_in {ns : List Int} (hl : ns.length = (List.replicate 64 IntKind.u8).length) (wf : ∀ (i : Nat) k n, (List.replicate 64 IntKind.u8)[i]? = some k → ns[i]? = some n → (Lit.int k n).wf = true) (n : Nat) : 0 ≤ ringF ns n ∧ ringF ns n ≤ 255 := by
  rw [List.length_replicate] at hl
  unfold ringF
  rw [List.getD_eq_getElem?_getD]
  by_cases h : n < 64
  · have e := List.getElem?_eq_getElem (l := ns) (i := n) (by omega)
    have := wf_u8 (wf n .u8 _ (List.getElem?_replicate_of_lt h) e)
    rw [e]
    simp only [Option.getD_some]
    omega
  · rw [List.getElem?_eq_none (by omega)]
    simp

set_option maxRecDepth 100000 in
set_option maxHeartbeats 2000000 in
theorem irisCodes_walk (r : Nat → Int) (hr : ∀ n, 0 ≤ r n ∧ r n ≤ 255) (m : Int) (a : Ir) (t : Int) (w : World) : Calls Try.prog 3 #[.agg (ringA r), .int .i64 m, a.val, .int .i64 t] w fun e w' => e = .returned (.bool true) ∧ Ext w w' := by
  obtain ⟨x1, e1, h1⟩ := extV_is r m
  obtain ⟨x2, e2, h2⟩ := turnV_is a t
  have C1 := Lib.hid (fun w => h1 ▸ Extract_any r hr m w)
  have C2 := Lib.hid (fun w => h1 ▸ refExtract_any r hr m w)
  have C3 := Lib.hid (fun w => h2 ▸ Turn_any a t w)
  have C4 := Lib.hid (fun w => h2 ▸ refTurn_any a t w)
  clear h1 h2 hr
  go_enter Try.func3, Try.ntmps3
  go_wp2_with (first | (refine wpList_load_row rfl 24 (.tmp 4) rfl w.heap.size rfl 24 (ringA r) (0, 0) (.array 4 22) (by change Blk _ _ _ _; with_reducible (repeat' (first | exact Blk.new w 24 (ringA r) | refine Blk.alloc ?_ _ | refine Blk.ext ?_ _))) Try.underlying24 rfl (by rw [ring_size]; kernel_rfl) ?_) | (go_at_call 19; refine Calls.ext (C1.out _) fun z => ?_) | (go_at_call 20; refine Calls.ext (C2.out _) fun z => ?_))
  refine wp_region_ext (by kernel_rfl) (by kernel_rfl) ?_
  repeat (go_big_quiet_step ((first | (go_at_call 21; exact Calls.quiet_ext (check_any a _)) | (go_at_call 22; exact Calls.quiet_ext (refCheck_any a _)))))
  refine wpQuiet_nil ?_
  rintro _ ⟨z5, rfl⟩
  go_wp2_with (first | (go_at_call 23; refine Calls.ext (C3.out _) fun z => ?_) | (go_at_call 24; refine Calls.ext (C4.out _) fun z => ?_))
  go_ret
  refine ⟨rfl, ?_⟩
  repeat' (first | with_reducible exact Ext.refl _ | with_reducible refine Ext.alloc ?_ _ | with_reducible refine Ext.ext ?_ _ | with_reducible refine Ext.setCell ?_ ?_ _ | with_reducible refine Ext.size ?_)
set_option maxRecDepth 100000 in
theorem irisCodes_lifted (os : Os) (started : os.Started) (H : Type) (enc : TypeId × Value → H) :
    ReturnsInHanded {} Try.checked os 3 .any (Rows.irisCodesSpec.pre6 enc Try.prog Try.f3 Rows.irisCodesRow.domain false) (Rows.irisCodesSpec.post enc Try.prog Try.f3 false true false false) := by
  refine returnsInHanded_of_change (C := Try.checked) own started (by kernel_rfl) Try.func3
    (ChangeSpec.witness6 (enc := enc) (C := Try.checked) false ⟨#[], #[.agg (Array.replicate 64 (.int .u8 0)), .int .i64 0, .agg #[.int .u64 0, .int .u64 0], .int .i64 0], []⟩ 8 (by kernel_rfl) (by kernel_rfl) (by kernel_rfl) (by kernel_rfl)) ?_
  intro W base args ds gs before hval0 hW hcnd _
  have hval : ∀ (j : Nat) t v, Try.f3.params[j]? = some t → args[j]? = some v → Value.okWide Try.prog W .any base t v := hval0
  have hW' := hW
  obtain ⟨p, q, hA0, hV, rfl, hfz, hnd⟩ := hW
  have hA : DataW.TrodAll enc Try.prog W 0 (fun _ => true) true Try.f3.params.toList args.toList ds p := hA0
  rw [Try.params3] at hA hval
  obtain ⟨v0, vs0, d0, ds0, p0, q0, hargs, rfl, rfl, h0, r0⟩ := trodAll_cons hA
  obtain ⟨v1, vs1, d1, ds1, p1, q1, rfl, rfl, rfl, h1, r1⟩ := trodAll_cons r0
  obtain ⟨v2, vs2, d2, ds2, p2, q2, rfl, rfl, rfl, h2, r2⟩ := trodAll_cons r1
  obtain ⟨v3, vs3, d3, ds3, p3, q3, rfl, rfl, rfl, h3, r3⟩ := trodAll_cons r2
  obtain ⟨rfl, rfl, rfl⟩ := trodAll_nil r3
  obtain rfl : args = #[v0, v1, v2, v3] := by cases args; simp_all
  obtain ⟨rfl, rfl⟩ := trodVars_none hV
  have k0 := h0
  have lt0 : ∀ x ∈ p0, x.block < W.heap.size := by obtain ⟨m, hm⟩ := k0; exact DataW.trod_lt m _ _ _ hm
  obtain ⟨ns0, hl0, hv0, wf0⟩ := open_flat (ks := List.replicate 64 .u8) (by kernel_rfl) (hval 0 24 v0 rfl rfl)
  have k1 := h1
  have lt1 : ∀ x ∈ p1, x.block < W.heap.size := by obtain ⟨m, hm⟩ := k1; exact DataW.trod_lt m _ _ _ hm
  obtain ⟨a1, rfl, _, _, w1⟩ := open_int Try.underlying3 (hval 1 3 v1 rfl rfl) h1
  have k2 := h2
  have lt2 : ∀ x ∈ p2, x.block < W.heap.size := by obtain ⟨m, hm⟩ := k2; exact DataW.trod_lt m _ _ _ hm
  obtain ⟨ns2, hl2, hv2, wf2⟩ := open_nums (ks := [.u64, .u64]) Try.underlying27 (by kernel_rfl) (by kernel_rfl) (kindsOf_of (by kernel_rfl)) (hval 2 27 v2 rfl rfl) h2
  have k3 := h3
  have lt3 : ∀ x ∈ p3, x.block < W.heap.size := by obtain ⟨m, hm⟩ := k3; exact DataW.trod_lt m _ _ _ hm
  obtain ⟨a3, rfl, _, _, w3⟩ := open_int Try.underlying3 (hval 3 3 v3 rfl rfl) h3
  clear hA0 hval0
  rw [ring_of hl0] at hv0
  rw [ir_of hl2 wf2] at hv2
  subst hv0 hv2
  refine (irisCodes_walk (ringF ns0) (ring_in hl0 wf0) a1 (toIr ns2) a3 W).mono fun e W' ⟨he, bel⟩ => ?_
  subst he
  exact ⟨_, rfl, _, _, _, [], _, [], hW', trodAll_mk1 (shut_bool Try.underlying4 _), (trodAll_cons_mk (Below.trod laidOut (by kernel_rfl) (of_decide_eq_true (by kernel_rfl)) k0 bel lt0) (trodAll_cons_mk (Below.trod laidOut (by kernel_rfl) (of_decide_eq_true (by kernel_rfl)) k1 bel lt1) (trodAll_cons_mk (Below.trod laidOut (by kernel_rfl) (of_decide_eq_true (by kernel_rfl)) k2 bel lt2) (trodAll_cons_mk (Below.trod laidOut (by kernel_rfl) (of_decide_eq_true (by kernel_rfl)) k3 bel lt3) trodAll_mk0)))), rfl, Below.frame bel _, fun h => by cases h⟩

theorem irisCodes_holds : Rows.IrisCodesSaid :=
  OpenClaim.holds_of_wide 3 Try.f3 rfl rfl rfl rfl rfl rfl rfl ⟨rfl, rfl, rfl, rfl, rfl⟩ rfl rfl rfl rfl rfl (by kernel_rfl) Try.func3 (by kernel_rfl)
    (of_decide_eq_true (by kernel_rfl)) (by unfold Func.isWrapper; first | (rw [if_pos (by decide +kernel)]; kernel_rfl) | (rw [if_neg (by decide +kernel)]; exact ⟨rfl, rfl⟩))
    (fun os started H enc _ => irisCodes_lifted os started H enc)
end Go.Proofs.Ytcacbolbedhcoaa
