/- Proved: for all deals, limits, words and what is to be said, the call of whorllaw06.VeilUniform returns true and leaves its arguments as they were. No conditions. -/
import Derived.Test.YtfdcapblgdlkaaaUniA
import Derived.Test.YtfdcapblgdlkaaaUniB
import Derived.Test.YtfdcapblgdlkaaaUniBad
import Derived.Test.YtfdcapblgdlkaaaArgs3
namespace Go.Proofs.Ytfdcapblgdlkaaa
open Go.Joins Go.ChangeShapes Go.WideShapes Go.RowKit Go.Deep Go.ChangeAt

theorem a15_of {ns : List Int} (hl : ns.length = (List.replicate 15 IntKind.u8).length) (wf : ∀ (i : Nat) k n, (List.replicate 15 IntKind.u8)[i]? = some k → ns[i]? = some n → (Lit.int k n).wf = true) :
    ∃ s : Nat → Int, Value.agg (List.zipWith Value.int (List.replicate 15 IntKind.u8) ns).toArray = .agg (A15 s) ∧ ∀ i, i < 15 → 0 ≤ s i ∧ s i < 256 := by
  have hk : ∀ i, i < 15 → (List.replicate 15 IntKind.u8)[i]? = some .u8 := fun i hi => by rw [List.getElem?_replicate, if_pos hi]
  refine ⟨fun i => ns.getD i 0, congrArg Value.agg (Array.ext_getElem? fun j => ?_), fun i hi => wf_u8' (nth_wf hl wf i _ (hk i hi))⟩
  rw [List.getElem?_toArray]
  rcases Nat.lt_or_ge j 15 with h | h
  · rw [A15_at _ _ h]; exact zip_at hl j _ (hk j h)
  · have hn : ns.length = 15 := by simpa using hl
    rw [List.getElem?_eq_none (by simp; omega), Array.getElem?_eq_none (by rw [A15_size]; omega)]
theorem veilUniform_walk (d : Dl) (lim : Int) (x y : BitVec 16) (s : Nat → Int) (z : Int) (sec : Bool) (hd : d.ok) (hs : ∀ i, i < 15 → 0 ≤ s i ∧ s i < 256) (hz : 0 ≤ z ∧ z < 256) (w : World) :
    Calls Try.prog 11 #[d.val, .int .i64 lim, .int .u16 (uv x), .int .u16 (uv y), .agg (A15 s), .int .u8 z, .bool sec] w fun e w' => e = .returned (.bool true) ∧ Ext w w' := by
  by_cases h : d.okB = true ∧ 0 ≤ lim ∧ lim ≤ 15 ∧ fitB 15 x = true ∧ fitB 15 y = true
  · obtain ⟨k1, k2, k3, k4, k5⟩ := h
    cases sec
    · exact uniA_good d lim x y s z (fine_of hd k1) ⟨k2, k3⟩ k4 k5 hs hz w
    · exact uniB_good d lim x y s z (fine_of hd k1) ⟨k2, k3⟩ k4 k5 hs hz w
  · exact uni_bad d lim x y s z sec hd h w
set_option maxRecDepth 100000 in
theorem veilUniform_lifted (os : Os) (started : os.Started) (H : Type) (enc : TypeId × Value → H) :
    ReturnsInHanded {} Try.checked os 11 .any (Rows.veilUniformSpec.pre6 enc Try.prog Try.f11 Rows.veilUniformRow.domain false) (Rows.veilUniformSpec.post enc Try.prog Try.f11 false true false false) := by
  refine returnsInHanded_of_change (C := Try.checked) own started (by kernel_rfl) Try.func11
    (ChangeSpec.witness6 (enc := enc) (C := Try.checked) false ⟨#[], #[.agg (Array.replicate 47 (.int .u8 0) ++ Array.replicate 31 (.int .u32 0)), .int .i64 0, .int .u16 0, .int .u16 0, .agg (Array.replicate 15 (.int .u8 0)), .int .u8 0, .bool false], []⟩ 8 (by kernel_rfl) (by kernel_rfl) (by kernel_rfl) (by kernel_rfl)) ?_
  intro W base args ds gs before hval0 hW hcnd _
  have hval : ∀ (j : Nat) t v, Try.f11.params[j]? = some t → args[j]? = some v → Value.okWide Try.prog W .any base t v := hval0
  have hW' := hW
  obtain ⟨p, q, hA0, hV, rfl, hfz, hnd⟩ := hW
  have hA : DataW.TrodAll enc Try.prog W 0 (fun _ => true) true Try.f11.params.toList args.toList ds p := hA0
  rw [Try.params11] at hA hval
  obtain ⟨v0, vs0, d0, ds0, p0, q0, hargs, rfl, rfl, h0, r0⟩ := trodAll_cons hA
  obtain ⟨v1, vs1, d1, ds1, p1, q1, rfl, rfl, rfl, h1, r1⟩ := trodAll_cons r0
  obtain ⟨v2, vs2, d2, ds2, p2, q2, rfl, rfl, rfl, h2, r2⟩ := trodAll_cons r1
  obtain ⟨v3, vs3, d3, ds3, p3, q3, rfl, rfl, rfl, h3, r3⟩ := trodAll_cons r2
  obtain ⟨v4, vs4, d4, ds4, p4, q4, rfl, rfl, rfl, h4, r4⟩ := trodAll_cons r3
  obtain ⟨v5, vs5, d5, ds5, p5, q5, rfl, rfl, rfl, h5, r5⟩ := trodAll_cons r4
  obtain ⟨v6, vs6, d6, ds6, p6, q6, rfl, rfl, rfl, h6, r6⟩ := trodAll_cons r5
  obtain ⟨rfl, rfl, rfl⟩ := trodAll_nil r6
  obtain rfl : args = #[v0, v1, v2, v3, v4, v5, v6] := by cases args; simp_all
  obtain ⟨rfl, rfl⟩ := trodVars_none hV
  have k0 := h0
  have lt0 : ∀ x ∈ p0, x.block < W.heap.size := by obtain ⟨m, hm⟩ := k0; exact DataW.trod_lt m _ _ _ hm
  obtain ⟨ns0, hl0, hv0, wf0⟩ := open_flat (ks := dks) (by kernel_rfl) (hval 0 42 v0 rfl rfl)
  have k1 := h1
  have lt1 : ∀ x ∈ p1, x.block < W.heap.size := by obtain ⟨m, hm⟩ := k1; exact DataW.trod_lt m _ _ _ hm
  obtain ⟨a1, rfl, _, _, w1⟩ := open_int Try.underlying3 (hval 1 3 v1 rfl rfl) h1
  have k2 := h2
  have lt2 : ∀ x ∈ p2, x.block < W.heap.size := by obtain ⟨m, hm⟩ := k2; exact DataW.trod_lt m _ _ _ hm
  obtain ⟨a2, rfl, _, _, w2⟩ := open_int Try.underlying27 (hval 2 27 v2 rfl rfl) h2
  have k3 := h3
  have lt3 : ∀ x ∈ p3, x.block < W.heap.size := by obtain ⟨m, hm⟩ := k3; exact DataW.trod_lt m _ _ _ hm
  obtain ⟨a3, rfl, _, _, w3⟩ := open_int Try.underlying27 (hval 3 27 v3 rfl rfl) h3
  have k4 := h4
  have lt4 : ∀ x ∈ p4, x.block < W.heap.size := by obtain ⟨m, hm⟩ := k4; exact DataW.trod_lt m _ _ _ hm
  obtain ⟨ns4, hl4, hv4, wf4⟩ := open_flat (ks := List.replicate 15 .u8) (by kernel_rfl) (hval 4 22 v4 rfl rfl)
  have k5 := h5
  have lt5 : ∀ x ∈ p5, x.block < W.heap.size := by obtain ⟨m, hm⟩ := k5; exact DataW.trod_lt m _ _ _ hm
  obtain ⟨a5, rfl, _, _, w5⟩ := open_int Try.underlying5 (hval 5 5 v5 rfl rfl) h5
  have k6 := h6
  have lt6 : ∀ x ∈ p6, x.block < W.heap.size := by obtain ⟨m, hm⟩ := k6; exact DataW.trod_lt m _ _ _ hm
  obtain ⟨a6, rfl, _, _⟩ := open_bool Try.underlying4 (hval 6 4 v6 rfl rfl) h6
  clear hA0 hval0
  obtain ⟨dl0, hdl0, ok0⟩ := deal_of hl0 wf0
  rw [hdl0] at hv0
  subst hv0
  have e2 := uv_of w2
  generalize BitVec.ofNat 16 a2.toNat = x2 at e2
  subst e2
  have e3 := uv_of w3
  generalize BitVec.ofNat 16 a3.toNat = x3 at e3
  subst e3
  obtain ⟨sy4, hsy4, sok4⟩ := a15_of hl4 wf4
  rw [hsy4] at hv4
  subst hv4
  refine (veilUniform_walk dl0 a1 x2 x3 sy4 a5 a6 ok0 sok4 (wf_u8' w5) W).mono fun e W' ⟨he, bel⟩ => ?_
  subst he
  exact ⟨_, rfl, _, _, _, [], _, [], hW', trodAll_mk1 (shut_bool Try.underlying4 _), (trodAll_cons_mk (Below.trod laidOut (by kernel_rfl) (of_decide_eq_true (by kernel_rfl)) k0 bel lt0) (trodAll_cons_mk (Below.trod laidOut (by kernel_rfl) (of_decide_eq_true (by kernel_rfl)) k1 bel lt1) (trodAll_cons_mk (Below.trod laidOut (by kernel_rfl) (of_decide_eq_true (by kernel_rfl)) k2 bel lt2) (trodAll_cons_mk (Below.trod laidOut (by kernel_rfl) (of_decide_eq_true (by kernel_rfl)) k3 bel lt3) (trodAll_cons_mk (Below.trod laidOut (by kernel_rfl) (of_decide_eq_true (by kernel_rfl)) k4 bel lt4) (trodAll_cons_mk (Below.trod laidOut (by kernel_rfl) (of_decide_eq_true (by kernel_rfl)) k5 bel lt5) (trodAll_cons_mk (Below.trod laidOut (by kernel_rfl) (of_decide_eq_true (by kernel_rfl)) k6 bel lt6) trodAll_mk0))))))), rfl, Below.frame bel _, fun h => by cases h⟩

theorem veilUniform_holds : Rows.VeilUniformSaid :=
  OpenClaim.holds_of_wide 11 Try.f11 rfl rfl rfl rfl rfl rfl rfl ⟨rfl, rfl, rfl, rfl, rfl⟩ rfl rfl rfl rfl rfl (by kernel_rfl) Try.func11 (by kernel_rfl)
    (of_decide_eq_true (by kernel_rfl)) (by unfold Func.isWrapper; first | (rw [if_pos (by decide +kernel)]; kernel_rfl) | (rw [if_neg (by decide +kernel)]; exact ⟨rfl, rfl⟩))
    (fun os started H enc _ => veilUniform_lifted os started H enc)
end Go.Proofs.Ytfdcapblgdlkaaa
