/- Proved: for all codes a, b and changes, the call of whorllaw03.IrisUnknown returns true and leaves its arguments as they were. No conditions. -/
import Derived.Test.YtcacbolbedhcoaaAlive
import Derived.Test.YtcacbolbedhcoaaPure
import Derived.Test.YtcacbolbedhcoaaArgs
namespace Go.Proofs.Ytcacbolbedhcoaa
open Go.Joins Go.ChangeShapes Go.WideShapes Go.RowKit Go.Deep Go.ChangeAt

def unkC (a b : Ir) (ch : BitVec 64) : Ir := ⟨b.code ^^^ (ch &&& (b.mask &&& ~~~a.mask)), b.mask⟩
def unkD (a b : Ir) (ch : BitVec 64) : Ir := ⟨b.code &&& ~~~(ch &&& (b.mask &&& ~~~a.mask)), b.mask &&& ~~~(ch &&& (b.mask &&& ~~~a.mask))⟩
theorem bits_zero {x : BitVec 64} (h : x = 0#64) (i : Nat) : x.getLsbD i = false := by rw [h]; simp
theorem unk_facts (a b : Ir) (ch : BitVec 64) (hb : okI b = true) : okI (unkC a b ch) = true ∧ okI (unkD a b ch) = true ∧ ctr a (unkC a b ch) = ctr a b ∧ cdn a (unkC a b ch) = cdn a b ∧ ctr a (unkD a b ch) = ctr a b ∧ cdn a (unkD a b ch) = cdn a b := by
  rw [okI_and] at hb
  have hb' := fun i => bits_zero hb i
  simp only [BitVec.getLsbD_and, BitVec.getLsbD_not] at hb'
  have H : ∀ i, i < 64 → ((unkC a b ch).code.getLsbD i = (b.code.getLsbD i ^^ (ch.getLsbD i && (b.mask.getLsbD i && !(a.mask.getLsbD i))))) ∧ ((unkD a b ch).code.getLsbD i = (b.code.getLsbD i && !(ch.getLsbD i && (b.mask.getLsbD i && !(a.mask.getLsbD i))))) ∧ ((unkD a b ch).mask.getLsbD i = (b.mask.getLsbD i && !(ch.getLsbD i && (b.mask.getLsbD i && !(a.mask.getLsbD i))))) := by
    intro i hi
    simp [unkC, unkD, hi]
  refine ⟨?_, ?_, ?_, rfl, ?_, ?_⟩
  · rw [okI_and]
    apply BitVec.eq_of_getLsbD_eq
    intro i hi
    have h1 := hb' i
    simp only [hi, decide_true, Bool.true_and] at h1
    simp only [BitVec.getLsbD_and, BitVec.getLsbD_not, (H i hi).1, hi, show (unkC a b ch).mask = b.mask from rfl]
    revert h1
    cases b.code.getLsbD i <;> cases b.mask.getLsbD i <;> cases ch.getLsbD i <;> cases a.mask.getLsbD i <;> simp
  · rw [okI_and]
    apply BitVec.eq_of_getLsbD_eq
    intro i hi
    have h1 := hb' i
    simp only [hi, decide_true, Bool.true_and] at h1
    simp only [BitVec.getLsbD_and, BitVec.getLsbD_not, (H i hi).2.1, (H i hi).2.2, hi]
    revert h1
    cases b.code.getLsbD i <;> cases b.mask.getLsbD i <;> cases ch.getLsbD i <;> cases a.mask.getLsbD i <;> simp
  · unfold ctr
    congr 2
    apply BitVec.eq_of_getLsbD_eq
    intro i hi
    simp only [BitVec.getLsbD_and, BitVec.getLsbD_xor, (H i hi).1, show (unkC a b ch).mask = b.mask from rfl]
    cases a.code.getLsbD i <;> cases b.code.getLsbD i <;> cases b.mask.getLsbD i <;> cases ch.getLsbD i <;> cases a.mask.getLsbD i <;> rfl
  · unfold ctr
    congr 2
    apply BitVec.eq_of_getLsbD_eq
    intro i hi
    simp only [BitVec.getLsbD_and, BitVec.getLsbD_xor, (H i hi).2.1, (H i hi).2.2]
    cases a.code.getLsbD i <;> cases b.code.getLsbD i <;> cases b.mask.getLsbD i <;> cases ch.getLsbD i <;> cases a.mask.getLsbD i <;> rfl
  · unfold cdn
    congr 2
    apply BitVec.eq_of_getLsbD_eq
    intro i hi
    simp only [BitVec.getLsbD_and, (H i hi).2.2]
    cases b.mask.getLsbD i <;> cases ch.getLsbD i <;> cases a.mask.getLsbD i <;> rfl
theorem cmp_zero (a b : Ir) (h : (okI a && okI b) = true) : cmpV a b 0 = .tuple #[.int .i64 (ctr a b), .int .i64 (cdn a b), .int .i64 0] := by
  unfold cmpV
  rw [if_pos h, if_pos (by decide), turnI_zero]
theorem cmp_bad (a b : Ir) (t : Int) (h : (okI a && okI b) = false) : cmpV a b t = .tuple #[.int .i64 0, .int .i64 0, .int .i64 30] := by
  unfold cmpV
  rw [h]; rfl

set_option maxRecDepth 100000 in
set_option maxHeartbeats 2000000 in
theorem irisUnknown_walk (a b : Ir) (ch : BitVec 64) (w : World) : Calls Try.prog 11 #[a.val, b.val, .int .u64 (uw ch)] w fun e w' => e = .returned (.bool true) ∧ Ext w w' := by
  cases ho : (okI a && okI b)
  · have C1 := Lib.hid (fun w => cmp_bad a b 0 ho ▸ Compare_any a b 0 w)
    clear ho
    go_enter Try.func11, Try.ntmps11
    go_wp2_with (first | (go_at_call 38; refine Calls.ext (alive_any _) fun z => ?_) | (go_at_call 27; refine Calls.ext (C1.out _) fun z => ?_))
    go_ret
    refine ⟨rfl, ?_⟩
    repeat' (first | with_reducible exact Ext.refl _ | with_reducible refine Ext.alloc ?_ _ | with_reducible refine Ext.ext ?_ _ | with_reducible refine Ext.setCell ?_ (by simp) _)
  · have hb : okI b = true := by simp only [Bool.and_eq_true] at ho; exact ho.2
    have ha : okI a = true := by simp only [Bool.and_eq_true] at ho; exact ho.1
    obtain ⟨f1, f2, f3, f4, f5, f6⟩ := unk_facts a b ch hb
    have C1 := Lib.hid (fun w => cmp_zero a b ho ▸ Compare_any a b 0 w)
    have C2 := Lib.hid (fun w => f3 ▸ f4 ▸ cmp_zero a (unkC a b ch) (by simp [ha, f1]) ▸ Compare_any a (unkC a b ch) 0 w)
    have C3 := Lib.hid (fun w => f5 ▸ f6 ▸ cmp_zero a (unkD a b ch) (by simp [ha, f2]) ▸ Compare_any a (unkD a b ch) 0 w)
    clear ho f1 f2 f3 f4 f5 f6 ha hb
    simp only [unkC, unkD] at C2 C3
    generalize ctr a b = x at *
    generalize cdn a b = y at *
    go_enter Try.func11, Try.ntmps11
    go_wp2_with (go_at_call 38; refine Calls.ext (alive_any _) fun z => ?_)
    refine Calls.ext (C1.out _) fun z2 => ?_
    go_wp2_with fail
    have HA := Lib.hid ((((Blk.new' w 27 #[.int .u64 (uw a.code), .int .u64 (uw a.mask)] w.heap.size rfl).alloc (.cells #[.int .u64 (uw b.code), .int .u64 (uw b.mask)] 27)).ext z).ext z2)
    have HB := Lib.hid (((Blk.new' (w.alloc (.cells #[.int .u64 (uw a.code), .int .u64 (uw a.mask)] 27)) 27 #[.int .u64 (uw b.code), .int .u64 (uw b.mask)] (w.heap.size + 1) (by simp)).ext z).ext z2)
    have HE := Lib.hid ((((Ext.refl w).alloc (.cells #[.int .u64 (uw a.code), .int .u64 (uw a.mask)] 27)).alloc (.cells #[.int .u64 (uw b.code), .int .u64 (uw b.mask)] 27) |>.ext z).ext z2)
    generalize ext (ext ((w.alloc (.cells #[.int .u64 (uw a.code), .int .u64 (uw a.mask)] 27)).alloc (.cells #[.int .u64 (uw b.code), .int .u64 (uw b.mask)] 27)) z) z2 = W at *
    refine Calls.ext (C2.out _) fun z3 => ?_
    have HC := Lib.hid ((Blk.new W 27 #[.int .u64 (uw (b.code ^^^ ch &&& (b.mask &&& ~~~a.mask))), .int .u64 (uw b.mask)]).ext z3)
    have HB2 := Lib.hid ((HB.out.alloc (.cells #[.int .u64 (uw (b.code ^^^ ch &&& (b.mask &&& ~~~a.mask))), .int .u64 (uw b.mask)] 27)).ext z3)
    have HA2 := Lib.hid ((HA.out.alloc (.cells #[.int .u64 (uw (b.code ^^^ ch &&& (b.mask &&& ~~~a.mask))), .int .u64 (uw b.mask)] 27)).ext z3)
    have HE2 := Lib.hid ((HE.out.alloc (.cells #[.int .u64 (uw (b.code ^^^ ch &&& (b.mask &&& ~~~a.mask))), .int .u64 (uw b.mask)] 27)).ext z3)
    have hlt1 : w.heap.size + 1 < W.heap.size := HB.out.lt
    have hlt2 : w.heap.size < W.heap.size := HA.out.lt
    generalize hk : W.heap.size = k at *
    generalize ext (W.alloc (.cells #[.int .u64 (uw (b.code ^^^ ch &&& (b.mask &&& ~~~a.mask))), .int .u64 (uw b.mask)] 27)) z3 = V at *
    have b0 : V.cell? ⟨w.heap.size + 1, 0, none⟩ = some (.int .u64 (uw b.code)) := HB2.out.cell 0
    have b1 : V.cell? ⟨w.heap.size + 1, 1, none⟩ = some (.int .u64 (uw b.mask)) := HB2.out.cell 1
    have c0 : V.cell? ⟨k, 0, none⟩ = some (.int .u64 (uw (b.code ^^^ ch &&& (b.mask &&& ~~~a.mask)))) := HC.out.cell 0
    have c1 : V.cell? ⟨k, 1, none⟩ = some (.int .u64 (uw b.mask)) := HC.out.cell 1
    have cf := HC.out.frozen
    have hne : w.heap.size + 1 ≠ k := by omega
    have hne2 : k ≠ w.heap.size + 1 := by omega
    go_wp2_with fail
    go_region
    have a0 : V.cell? ⟨w.heap.size, 0, none⟩ = some (.int .u64 (uw a.code)) := HA2.out.cell 0
    have a1 : V.cell? ⟨w.heap.size, 1, none⟩ = some (.int .u64 (uw a.mask)) := HA2.out.cell 1
    have hne3 : w.heap.size ≠ k := by omega
    have hne4 : k ≠ w.heap.size := by omega
    go_wp2_with fail
    refine Calls.ext (C3.out _) fun z4 => ?_
    go_wp2_with fail
    go_ret
    refine ⟨rfl, ?_⟩
    have hk2 : w.heap.size ≤ k := by omega
    exact (((HE2.out.setCell (p := ⟨k, 0, none⟩) hk2 _).setCell (p := ⟨k, 1, none⟩) hk2 _).drewN _).ext z4
set_option maxRecDepth 100000 in
theorem irisUnknown_lifted (os : Os) (started : os.Started) (H : Type) (enc : TypeId × Value → H) :
    ReturnsInHanded {} Try.checked os 11 .any (Rows.irisUnknownSpec.pre6 enc Try.prog Try.f11 Rows.irisUnknownRow.domain false) (Rows.irisUnknownSpec.post enc Try.prog Try.f11 false true false false) := by
  refine returnsInHanded_of_change (C := Try.checked) own started (by kernel_rfl) Try.func11
    (ChangeSpec.witness6 (enc := enc) (C := Try.checked) false ⟨#[], #[.agg #[.int .u64 0, .int .u64 0], .agg #[.int .u64 0, .int .u64 0], .int .u64 0], []⟩ 8 (by kernel_rfl) (by kernel_rfl) (by kernel_rfl) (by kernel_rfl)) ?_
  intro W base args ds gs before hval0 hW hcnd _
  have hval : ∀ (j : Nat) t v, Try.f11.params[j]? = some t → args[j]? = some v → Value.okWide Try.prog W .any base t v := hval0
  have hW' := hW
  obtain ⟨p, q, hA0, hV, rfl, hfz, hnd⟩ := hW
  have hA : DataW.TrodAll enc Try.prog W 0 (fun _ => true) true Try.f11.params.toList args.toList ds p := hA0
  rw [Try.params11] at hA hval
  obtain ⟨v0, vs0, d0, ds0, p0, q0, hargs, rfl, rfl, h0, r0⟩ := trodAll_cons hA
  obtain ⟨v1, vs1, d1, ds1, p1, q1, rfl, rfl, rfl, h1, r1⟩ := trodAll_cons r0
  obtain ⟨v2, vs2, d2, ds2, p2, q2, rfl, rfl, rfl, h2, r2⟩ := trodAll_cons r1
  obtain ⟨rfl, rfl, rfl⟩ := trodAll_nil r2
  obtain rfl : args = #[v0, v1, v2] := by cases args; simp_all
  obtain ⟨rfl, rfl⟩ := trodVars_none hV
  have k0 := h0
  have lt0 : ∀ x ∈ p0, x.block < W.heap.size := by obtain ⟨m, hm⟩ := k0; exact DataW.trod_lt m _ _ _ hm
  obtain ⟨ns0, hl0, hv0, wf0⟩ := open_nums (ks := [.u64, .u64]) Try.underlying27 (by kernel_rfl) (by kernel_rfl) (kindsOf_of (by kernel_rfl)) (hval 0 27 v0 rfl rfl) h0
  have k1 := h1
  have lt1 : ∀ x ∈ p1, x.block < W.heap.size := by obtain ⟨m, hm⟩ := k1; exact DataW.trod_lt m _ _ _ hm
  obtain ⟨ns1, hl1, hv1, wf1⟩ := open_nums (ks := [.u64, .u64]) Try.underlying27 (by kernel_rfl) (by kernel_rfl) (kindsOf_of (by kernel_rfl)) (hval 1 27 v1 rfl rfl) h1
  have k2 := h2
  have lt2 : ∀ x ∈ p2, x.block < W.heap.size := by obtain ⟨m, hm⟩ := k2; exact DataW.trod_lt m _ _ _ hm
  obtain ⟨a2, rfl, _, _, w2⟩ := open_int Try.underlying25 (hval 2 25 v2 rfl rfl) h2
  clear hA0 hval0
  rw [ir_of hl0 wf0] at hv0
  subst hv0
  rw [ir_of hl1 wf1] at hv1
  subst hv1
  have e2 := uw_of w2
  generalize BitVec.ofNat 64 a2.toNat = x2 at e2
  subst e2
  refine (irisUnknown_walk (toIr ns0) (toIr ns1) x2 W).mono fun e W' ⟨he, bel⟩ => ?_
  subst he
  exact ⟨_, rfl, _, _, _, [], _, [], hW', trodAll_mk1 (shut_bool Try.underlying4 _), (trodAll_cons_mk (Below.trod laidOut (by kernel_rfl) (of_decide_eq_true (by kernel_rfl)) k0 bel lt0) (trodAll_cons_mk (Below.trod laidOut (by kernel_rfl) (of_decide_eq_true (by kernel_rfl)) k1 bel lt1) (trodAll_cons_mk (Below.trod laidOut (by kernel_rfl) (of_decide_eq_true (by kernel_rfl)) k2 bel lt2) trodAll_mk0))), rfl, Below.frame bel _, fun h => by cases h⟩

theorem irisUnknown_holds : Rows.IrisUnknownSaid :=
  OpenClaim.holds_of_wide 11 Try.f11 rfl rfl rfl rfl rfl rfl rfl ⟨rfl, rfl, rfl, rfl, rfl⟩ rfl rfl rfl rfl rfl (by kernel_rfl) Try.func11 (by kernel_rfl)
    (of_decide_eq_true (by kernel_rfl)) (by unfold Func.isWrapper; first | (rw [if_pos (by decide +kernel)]; kernel_rfl) | (rw [if_neg (by decide +kernel)]; exact ⟨rfl, rfl⟩))
    (fun os started H enc _ => irisUnknown_lifted os started H enc)
end Go.Proofs.Ytcacbolbedhcoaa
