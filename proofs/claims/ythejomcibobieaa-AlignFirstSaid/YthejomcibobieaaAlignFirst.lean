/- Proved: for all prints, class and move, the call of whorllaw02.AlignFirst returns true and leaves its arguments as they were. No conditions. -/
import Derived.Test.YthejomcibobieaaOuts
import Derived.Test.YthejomcibobieaaProm
namespace Go.Proofs.Ythejomcibobieaa
open Go.Joins Go.ChangeShapes Go.WideShapes Go.RowKit Go.Deep Go.ChangeAt

theorem first_law {c : Cl} (hc : c.ok) (lp lq : List Mi) (v : Mv) {L : List Bd} (hL : bendsL c = L) {u : At} (hu : trK c lp lq v = u) {f : Bd → Int} (hf : ∀ b, f b = scrK c lp lq v b.f) :
    (∀ b ∈ L, f b ≤ u.score) ∧ f u.bd = u.score ∧ u.bd ∈ L ∧ ∀ k x, L[k]? = some x → x ≠ u.bd → (∀ y ∈ L.take k, y ≠ u.bd) → f x < u.score := by
  obtain ⟨h1, l1, l2, h2, h3, h4⟩ := trK_best hc lp lq v
  subst hL hu
  refine ⟨fun b hb => by rw [hf]; exact h1 b ((mem_bends hc).1 hb), by rw [hf]; exact h3.symm, by rw [h2]; simp, fun k x hx hne hno => ?_⟩
  rw [hf]
  refine h4 x ?_
  rw [h2] at hx hno
  rcases Nat.lt_trichotomy k l1.length with h | h | h
  · rw [List.getElem?_append_left h] at hx
    exact List.mem_of_getElem? hx
  · subst h
    rw [List.getElem?_append_right (Nat.le_refl _), Nat.sub_self, List.getElem?_cons_zero] at hx
    injection hx with hx
    exact absurd hx.symm hne
  · exact absurd rfl (hno (trK c lp lq v).bd (by
      rw [List.take_append, List.mem_append]
      right
      obtain ⟨d, hd⟩ : ∃ d, k - l1.length = d + 1 := ⟨k - l1.length - 1, by omega⟩
      rw [hd, List.take_succ_cons]
      exact List.mem_cons_self))
set_option maxRecDepth 100000 in
set_option maxHeartbeats 8000000 in
theorem alignFirst_walk (Ap Aq : Option Addr) (cp cq : Nat) (lp lq : List Mi) (c : Cl) (v : Mv) (w : World) (hP : Pts w Ap lp) (hQ : Pts w Aq lq) (hp : ∀ m ∈ lp, 0 ≤ m.dir) (hq : ∀ m ∈ lq, 0 ≤ m.dir) :
    Calls Try.prog 11 #[.slice Ap lp.length cp, .slice Aq lq.length cq, c.val, v.val] w fun e w' => e = .returned (.bool true) ∧ Ext w w' := by
  have HP := Lib.hid hP
  have HQ := Lib.hid hQ
  have CA := Lib.hid (fun w => alive_any w)
  clear hP hQ
  have hE0 := (((Ext.refl w).alloc (.cells #[.int .i64 c.turns, .int .i64 c.shift, .int .i64 c.elastic, .int .i64 c.reach, .int .i64 c.spread] 38)).alloc (.cells #[.int .i64 v.turn, .int .i64 v.dx, .int .i64 v.dy] 26))
  by_cases hn : lp.length ≤ 100 ∧ lq.length ≤ 100
  · obtain ⟨hnp, hnq⟩ := hn
    have hnp' : ((lp.length : Nat) : Int) ≤ 100 := by omega
    have hnq' : ((lq.length : Nat) : Int) ≤ 100 := by omega
    have CT := Lib.hid (fun A A' n n' w h1 h2 => Try_any c lp lq v hp hq hnp hnq A A' n n' w h1 h2)
    by_cases he : tryE c lp lq v = 0
    · have h0 : askE c lp lq = 0 := by
        by_cases h : askE c lp lq = 0
        · exact h
        · unfold tryE at he; rw [if_neg h] at he; exact absurd he h
      have hm : isMove c v = true := by
        unfold tryE at he
        rw [if_pos h0] at he
        cases h : isMove c v
        · rw [h] at he; simp at he
        · rfl
      obtain ⟨-, -, hc⟩ := askE_ok h0
      obtain ⟨E, hE⟩ : ∃ E : Nat, c.elastic = E := ⟨c.elastic.toNat, by have := hc.elastic; omega⟩
      have hE1 : E ≤ 1 := by have := hc.elastic; omega
      have HRB := Lib.hid (fun w => refBends_any c E hE1 hE w)
      have hl := bends_len E hE1
      obtain ⟨L, hL⟩ : ∃ L, bendsK E 81 = L := ⟨_, rfl⟩
      have hbL : bendsL c = L := by unfold bendsL; rw [hE, Int.toNat_natCast, ← bends_eq E hE1]; exact hL
      obtain ⟨u, hu⟩ : ∃ u, trK c lp lq v = u := ⟨_, rfl⟩
      obtain ⟨f, hf⟩ : ∃ f : Bd → Int, ∀ b, f b = scrK c lp lq v b.f := ⟨fun b => scrK c lp lq v b.f, fun _ => rfl⟩
      obtain ⟨f1, f2, f3, f4⟩ := first_law hc lp lq v hbL hu hf
      have hT : tryT c lp lq v = .tuple #[.agg u.cells, .int .i64 0] := by
        unfold tryT tryA tryE
        rw [if_pos h0, if_pos h0, hm, hu]; rfl
      rw [hT] at CT
      have CS := Lib.hid (show ∀ b ∈ L, ∀ A A' n n' w, Pts w A lp → Pts w A' lq → Calls Try.prog 21 #[.slice A lp.length n, .slice A' lq.length n', c.val, v.val, .agg b.cells] w fun e w' => e = .returned (.tuple #[.int .i64 (f b), .int .i64 0]) ∧ Ext w w' from fun b hb A A' n n' w h1 h2 => by
        have := Score_any c lp lq v b.f hp hq hnp hnq A A' n n' w h1 h2
        unfold scoreT at this
        rw [if_pos h0, hm, (mem_bends hc).1 (hbL ▸ hb), ← hf] at this
        exact this)
      rw [hL] at HRB hl
      clear hT he h0 hm hc hE hE1 hbL hL hu hf hp hq
      have HF4 := Lib.hid f4
      clear f4
      go_enter Try.func11, Try.ntmps11
      go_wp2_with fail
      refine Calls.ext (CA.out _) fun z1 => ?_
      go_wp2_with fail
      have hE1 := hE0.ext z1
      refine Calls.ext (CT.out _ _ _ _ _ (HP.out.grow hE1) (HQ.out.grow hE1)) fun z2 => ?_
      go_wp2_with fail
      have hE2 := hE1.ext z2
      have HC2 := Lib.hid ((((Blk.new w 38 #[.int .i64 c.turns, .int .i64 c.shift, .int .i64 c.elastic, .int .i64 c.reach, .int .i64 c.spread]).alloc (.cells #[.int .i64 v.turn, .int .i64 v.dx, .int .i64 v.dy] 26)).ext z1).ext z2)
      have HV2 := Lib.hid (((Blk.new' (w.alloc (.cells #[.int .i64 c.turns, .int .i64 c.shift, .int .i64 c.elastic, .int .i64 c.reach, .int .i64 c.spread] 38)) 26 #[.int .i64 v.turn, .int .i64 v.dx, .int .i64 v.dy] (w.heap.size + 1) (by simp)).ext z1).ext z2)
      generalize ext (ext ((w.alloc (.cells #[.int .i64 c.turns, .int .i64 c.shift, .int .i64 c.elastic, .int .i64 c.reach, .int .i64 c.spread] 38)).alloc (.cells #[.int .i64 v.turn, .int .i64 v.dx, .int .i64 v.dy] 26)) z1) z2 = V at *
      have HU := Lib.hid (Blk.new V 46 #[.int .i64 u.mv.turn, .int .i64 u.mv.dx, .int .i64 u.mv.dy, .int .i64 u.bd.a, .int .i64 u.bd.b, .int .i64 u.bd.c, .int .i64 u.bd.d, .int .i64 u.score])
      have hx := (Ext.refl V).alloc (.cells #[.int .i64 u.mv.turn, .int .i64 u.mv.dx, .int .i64 u.mv.dy, .int .i64 u.bd.a, .int .i64 u.bd.b, .int .i64 u.bd.c, .int .i64 u.bd.d, .int .i64 u.score] 46)
      go_wp2_with fail
      refine calls_slice (HRB.out _) fun A n z hown => ?_
      obtain ⟨gl, cap, hv, hgb, hgl⟩ := hown.form (by omega)
      injection hv with hA _ hcap
      subst hA hcap
      have HCL := Lib.hid (fun j uu hu => by
        have := hown.cells (g := gl) rfl j uu hu
        rwa [addr_add, Nat.zero_add] at this : ∀ j uu, (bdCells L)[j]? = some uu → (ext (V.alloc (.cells #[.int .i64 u.mv.turn, .int .i64 u.mv.dx, .int .i64 u.mv.dy, .int .i64 u.bd.a, .int .i64 u.bd.b, .int .i64 u.bd.c, .int .i64 u.bd.d, .int .i64 u.score] 46)) z).cell? ⟨gl, j, none⟩ = some uu)
      have hy := hx.ext z
      have HC1 := Lib.hid (HC2.out.grow hy)
      have HV1 := Lib.hid (HV2.out.grow hy)
      have HU1 := Lib.hid (HU.out.ext z)
      have HE1 := Lib.hid (hE2.trans hy)
      have HP1 := Lib.hid (HP.out.grow HE1.out)
      have HQ1 := Lib.hid (HQ.out.grow HE1.out)
      have HGL := Lib.hid hgl
      clear hown hgl hy hx hE2 hE1 HC2 HV2 HU HP HQ hgb
      generalize ext (V.alloc (.cells #[.int .i64 u.mv.turn, .int .i64 u.mv.dx, .int .i64 u.mv.dy, .int .i64 u.bd.a, .int .i64 u.bd.b, .int .i64 u.bd.c, .int .i64 u.bd.d, .int .i64 u.score] 46)) z = V1 at *
      generalize V.heap.size = gu at *
      go_wp2_with fail
      go_loopw [12, 46] (fun bf t wr => ∃ (kk : Nat) (bb : Bool), kk ≤ L.length ∧ t = .int .i64 kk ∧ bf = .bool bb ∧ (bb = true ↔ ∀ y ∈ L.take kk, y ≠ u.bd) ∧ Ext V1 wr) (fun _ t _ => L.length - (intOf t).toNat)
      case atStart => exact ⟨0, true, Nat.zero_le _, rfl, rfl, by simp, Ext.refl _⟩
      case round =>
        obtain ⟨kk, bb, hk, rfl, rfl, hbb, hE⟩ := hrel
        have HE := Lib.hid hE
        have HBB := Lib.hid hbb
        have g0 : wr.cell? ⟨w.heap.size, 0, none⟩ = some (.int .i64 c.turns) := (HC1.out.grow hE).cell 0
        have g1 : wr.cell? ⟨w.heap.size, 1, none⟩ = some (.int .i64 c.shift) := (HC1.out.grow hE).cell 1
        have g2 : wr.cell? ⟨w.heap.size, 2, none⟩ = some (.int .i64 c.elastic) := (HC1.out.grow hE).cell 2
        have g3 : wr.cell? ⟨w.heap.size, 3, none⟩ = some (.int .i64 c.reach) := (HC1.out.grow hE).cell 3
        have g4 : wr.cell? ⟨w.heap.size, 4, none⟩ = some (.int .i64 c.spread) := (HC1.out.grow hE).cell 4
        have v0 : wr.cell? ⟨w.heap.size + 1, 0, none⟩ = some (.int .i64 v.turn) := (HV1.out.grow hE).cell 0
        have v1 : wr.cell? ⟨w.heap.size + 1, 1, none⟩ = some (.int .i64 v.dx) := (HV1.out.grow hE).cell 1
        have v2 : wr.cell? ⟨w.heap.size + 1, 2, none⟩ = some (.int .i64 v.dy) := (HV1.out.grow hE).cell 2
        have s3 : wr.cell? ⟨gu, 3, none⟩ = some (.int .i64 u.bd.a) := (HU1.out.grow hE).cell 3
        have s4 : wr.cell? ⟨gu, 4, none⟩ = some (.int .i64 u.bd.b) := (HU1.out.grow hE).cell 4
        have s5 : wr.cell? ⟨gu, 5, none⟩ = some (.int .i64 u.bd.c) := (HU1.out.grow hE).cell 5
        have s6 : wr.cell? ⟨gu, 6, none⟩ = some (.int .i64 u.bd.d) := (HU1.out.grow hE).cell 6
        have s7 : wr.cell? ⟨gu, 7, none⟩ = some (.int .i64 u.score) := (HU1.out.grow hE).cell 7
        have oC := Old.mk (HC1.out.grow hE).lt
        have oV := Old.mk (HV1.out.grow hE).lt
        have oU := Old.mk (HU1.out.grow hE).lt
        by_cases hlt : kk < L.length
        · have hki : (kk : Int) < L.length := by omega
          obtain ⟨x, hx⟩ : ∃ x, L[kk]? = some x := ⟨_, List.getElem?_eq_getElem hlt⟩
          obtain ⟨u0, u1, u2, u3⟩ := bdCells_at L kk x hx
          have y0 : wr.cell? ⟨gl, kk * 4, none⟩ = some (.int .i64 x.a) := (hE.cell (by exact HGL.out)).trans (HCL.out _ _ u0)
          have y1 : wr.cell? ⟨gl, kk * 4 + 1, none⟩ = some (.int .i64 x.b) := (hE.cell (by exact HGL.out)).trans (HCL.out _ _ u1)
          have y2 : wr.cell? ⟨gl, kk * 4 + 2, none⟩ = some (.int .i64 x.c) := (hE.cell (by exact HGL.out)).trans (HCL.out _ _ u2)
          have y3 : wr.cell? ⟨gl, kk * 4 + 3, none⟩ = some (.int .i64 x.d) := (hE.cell (by exact HGL.out)).trans (HCL.out _ _ u3)
          have oG : Nonempty (Old gl wr) := ⟨Nat.lt_of_lt_of_le HGL.out hE.size⟩
          have hmem := List.mem_of_getElem? hx
          have C := Lib.hid (CS.out x hmem)
          have HTK := Lib.hid (show L.take (kk + 1) = L.take kk ++ [x] by
            rw [List.take_succ_eq_append_getElem hlt]
            rw [List.getElem?_eq_getElem hlt] at hx
            injection hx with hx
            rw [hx])
          have hle := f1 x hmem
          clear u0 u1 u2 u3
          by_cases hxe : x = u.bd
          · subst hxe
            have hq28 : ∀ w, (Op.equalIn 10000 28 (.agg #[.int .i64 u.bd.a, .int .i64 u.bd.b, .int .i64 u.bd.c, .int .i64 u.bd.d]) (.agg #[.int .i64 u.bd.a, .int .i64 u.bd.b, .int .i64 u.bd.c, .int .i64 u.bd.d])).run Try.prog w = .ok true w := fun w => (eq28_at 9998 u.bd u.bd w).trans (by simp)
            rw [f2] at C
            have b1 : (u.score != u.score) = false := by simp
            have b2 : decide (u.score < u.score) = false := by simp
            clear hle hbb hE
            go_wp2_with fail
            have hA := (HE.out.alloc (.cells #[.int .i64 u.bd.a, .int .i64 u.bd.b, .int .i64 u.bd.c, .int .i64 u.bd.d] 28))
            refine Calls.ext (C.out _ _ _ _ _ (HP1.out.grow hA) (HQ1.out.grow hA)) fun z3 => ?_
            go_wp2_with fail
            exact ⟨⟨kk + 1, false, by omega, by go_num, rfl, by rw [HTK.out]; simp, hA.ext z3⟩, by simp [intOf]; omega⟩
          · have hq28 : ∀ w, (Op.equalIn 10000 28 (.agg #[.int .i64 x.a, .int .i64 x.b, .int .i64 x.c, .int .i64 x.d]) (.agg #[.int .i64 u.bd.a, .int .i64 u.bd.b, .int .i64 u.bd.c, .int .i64 u.bd.d])).run Try.prog w = .ok false w := fun w => (eq28_at 9998 x u.bd w).trans (by simp [hxe])
            have b2 : decide (u.score < f x) = false := by simpa using hle
            have hnew : (bb = true ↔ ∀ y ∈ L.take (kk + 1), y ≠ u.bd) := by
              rw [HTK.out, hbb]
              constructor
              · intro h y hy
                rcases List.mem_append.1 hy with h1 | h1
                · exact h y h1
                · rw [List.mem_singleton.1 h1]; exact hxe
              · exact fun h y hy => h y (List.mem_append_left _ hy)
            have HN := Lib.hid hnew
            cases bb
            · clear hle hbb hE hnew hxe
              go_wp2_with fail
              have hA := (HE.out.alloc (.cells #[.int .i64 x.a, .int .i64 x.b, .int .i64 x.c, .int .i64 x.d] 28))
              refine Calls.ext (C.out _ _ _ _ _ (HP1.out.grow hA) (HQ1.out.grow hA)) fun z3 => ?_
              go_wp2_with fail
              exact ⟨⟨kk + 1, false, by omega, by go_num, rfl, HN.out, hA.ext z3⟩, by simp [intOf]; omega⟩
            · have b3 : (f x == u.score) = false := by
                have := HF4.out kk x hx hxe (hbb.1 rfl)
                simp; omega
              clear hle hbb hE hnew hxe
              go_wp2_with fail
              have hA := (HE.out.alloc (.cells #[.int .i64 x.a, .int .i64 x.b, .int .i64 x.c, .int .i64 x.d] 28))
              refine Calls.ext (C.out _ _ _ _ _ (HP1.out.grow hA) (HQ1.out.grow hA)) fun z3 => ?_
              go_wp2_with fail
              exact ⟨⟨kk + 1, true, by omega, by go_num, rfl, by simpa using HN.out, hA.ext z3⟩, by simp [intOf]; omega⟩
        · obtain rfl : kk = L.length := by omega
          have hbf : bb = false := by
            cases bb
            · rfl
            · exact absurd rfl (hbb.1 rfl u.bd (by rw [List.take_length]; exact f3))
          subst hbf
          go_wp2_with fail
          go_ret
          exact ⟨rfl, HE1.out.trans HE.out⟩
    · have hT : ∃ x : Int, (x != 0) = true ∧ tryT c lp lq v = .tuple #[.agg #[.int .i64 0, .int .i64 0, .int .i64 0, .int .i64 0, .int .i64 0, .int .i64 0, .int .i64 0, .int .i64 0], .int .i64 x] := by
        refine ⟨tryE c lp lq v, by simpa using he, ?_⟩
        have : tryA c lp lq v = at0 := by
          unfold tryA
          unfold tryE at he
          by_cases h0 : askE c lp lq = 0
          · rw [if_pos h0] at he ⊢
            cases h : isMove c v
            · simp
            · rw [h] at he; simp at he
          · rw [if_neg h0]
        unfold tryT
        rw [this]; rfl
      obtain ⟨x, hx, hT⟩ := hT
      rw [hT] at CT
      have hq46 : ∀ w, (Op.equalIn 10000 46 (.agg #[.int .i64 0, .int .i64 0, .int .i64 0, .int .i64 0, .int .i64 0, .int .i64 0, .int .i64 0, .int .i64 0]) (.agg #[.int .i64 0, .int .i64 0, .int .i64 0, .int .i64 0, .int .i64 0, .int .i64 0, .int .i64 0, .int .i64 0])).run Try.prog w = .ok true w := fun w => by
        have hw : at0.wf := by constructor <;> (unfold wfI; decide)
        exact (eq46 hw hw w).trans (by simp)
      clear hT he hp hq
      go_enter Try.func11, Try.ntmps11
      go_wp2_with fail
      refine Calls.ext (CA.out _) fun z1 => ?_
      go_wp2_with fail
      have hE1 := hE0.ext z1
      refine Calls.ext (CT.out _ _ _ _ _ (HP.out.grow hE1) (HQ.out.grow hE1)) fun z2 => ?_
      go_wp2_with fail
      go_ret
      exact ⟨rfl, (hE1.ext z2).alloc _⟩
  · by_cases hnp : lp.length ≤ 100
    · have hnp' : ((lp.length : Nat) : Int) ≤ 100 := by omega
      have hnq' : (100 : Int) < ((lq.length : Nat) : Int) := by omega
      clear hn hp hq
      go_enter Try.func11, Try.ntmps11
      go_wp2_with fail
      refine Calls.ext (CA.out _) fun z1 => ?_
      go_wp2_with fail
      go_ret
      exact ⟨rfl, hE0.ext z1⟩
    · have hnp' : (100 : Int) < ((lp.length : Nat) : Int) := by omega
      clear hn hp hq
      go_enter Try.func11, Try.ntmps11
      go_wp2_with fail
      refine Calls.ext (CA.out _) fun z1 => ?_
      go_wp2_with fail
      go_ret
      exact ⟨rfl, hE0.ext z1⟩
set_option maxRecDepth 100000 in
theorem alignFirst_lifted (os : Os) (started : os.Started) (H : Type) (enc : TypeId × Value → H) :
    ReturnsInHanded {} Try.checked os 11 .any (Rows.alignFirstSpec.pre6 enc Try.prog Try.f11 Rows.alignFirstRow.domain false) (Rows.alignFirstSpec.post enc Try.prog Try.f11 false true false false) := by
  refine returnsInHanded_of_change (C := Try.checked) own started (by kernel_rfl) Try.func11
    (ChangeSpec.witness6 (enc := enc) (C := Try.checked) false ⟨#[], #[.slice none 0 0, .slice none 0 0, .agg #[.int .i64 0, .int .i64 0, .int .i64 0, .int .i64 0, .int .i64 0], .agg #[.int .i64 0, .int .i64 0, .int .i64 0]], []⟩ 8 (by kernel_rfl) (by kernel_rfl) (by kernel_rfl) (by kernel_rfl)) ?_
  intro W base args ds gs before hval0 hW hcnd _
  have hval : ∀ (j : Nat) t v, Try.f11.params[j]? = some t → args[j]? = some v → Value.okWide Try.prog W .any base t v := hval0
  have hW' := hW
  obtain ⟨p, q, hA0, hV, rfl, hfz, hnd⟩ := hW
  have hA : DataW.TrodAll enc Try.prog W 0 (fun _ => true) true Try.f11.params.toList args.toList ds p := hA0
  rw [Try.params11] at hA hval
  obtain ⟨v0, vs0, d0, ds0, p0, q0, hargs, rfl, rfl, h0, r0⟩ := trodAll_cons hA
  obtain ⟨v1, vs1, d1, ds1, p1, q1, rfl, rfl, rfl, h1, r1⟩ := trodAll_cons r0
  obtain ⟨v2, vs2, d2, ds2, p2, q2, rfl, rfl, rfl, h2, r2⟩ := trodAll_cons r1
  obtain ⟨v3, vs3, d3, ds3, p3, q3, rfl, rfl, rfl, h3, r3⟩ := trodAll_cons r2
  obtain ⟨rfl, rfl, rfl⟩ := trodAll_nil r3
  obtain rfl : args = #[v0, v1, v2, v3] := by cases args; simp_all
  obtain ⟨rfl, rfl⟩ := trodVars_none hV
  have k0 := h0
  have lt0 : ∀ x ∈ p0, x.block < W.heap.size := by obtain ⟨m, hm⟩ := k0; exact DataW.trod_lt m _ _ _ hm
  obtain ⟨A0, rows0, cap0, rfl, hlc0, hcm0, hwf0, hrow0⟩ := open_rows (ks := [.i64, .i64, .u8, .u8]) Try.underlying22 Try.underlying24 (by kernel_rfl) (by kernel_rfl) (kindsOf_of (by kernel_rfl)) (by decide) (hval 0 22 v0 rfl rfl) h0
  have k1 := h1
  have lt1 : ∀ x ∈ p1, x.block < W.heap.size := by obtain ⟨m, hm⟩ := k1; exact DataW.trod_lt m _ _ _ hm
  obtain ⟨A1, rows1, cap1, rfl, hlc1, hcm1, hwf1, hrow1⟩ := open_rows (ks := [.i64, .i64, .u8, .u8]) Try.underlying22 Try.underlying24 (by kernel_rfl) (by kernel_rfl) (kindsOf_of (by kernel_rfl)) (by decide) (hval 1 22 v1 rfl rfl) h1
  have k2 := h2
  have lt2 : ∀ x ∈ p2, x.block < W.heap.size := by obtain ⟨m, hm⟩ := k2; exact DataW.trod_lt m _ _ _ hm
  obtain ⟨ns2, hl2, hv2, wf2⟩ := open_nums (ks := [.i64, .i64, .i64, .i64, .i64]) Try.underlying38 (by kernel_rfl) (by kernel_rfl) (kindsOf_of (by kernel_rfl)) (hval 2 38 v2 rfl rfl) h2
  have k3 := h3
  have lt3 : ∀ x ∈ p3, x.block < W.heap.size := by obtain ⟨m, hm⟩ := k3; exact DataW.trod_lt m _ _ _ hm
  obtain ⟨ns3, hl3, hv3, wf3⟩ := open_nums (ks := [.i64, .i64, .i64]) Try.underlying26 (by kernel_rfl) (by kernel_rfl) (kindsOf_of (by kernel_rfl)) (hval 3 26 v3 rfl rfl) h3
  clear hA0 hval0
  obtain ⟨l0, hr0, hp0, hk0, hc0⟩ := pts_of_rows hwf0 hrow0 hlc0
  obtain ⟨l1, hr1, hp1, hk1, hc1⟩ := pts_of_rows hwf1 hrow1 hlc1
  obtain ⟨c2, hcl2⟩ := cl_of hl2
  rw [hcl2] at hv2
  subst hv2
  obtain ⟨mv3, hmv3⟩ := mv_of hl3
  rw [hmv3] at hv3
  subst hv3
  refine (hr0 ▸ hr1 ▸ alignFirst_walk A0 A1 cap0 cap1 l0 l1 c2 mv3 W hp0 hp1 hk0 hk1).mono fun e W' ⟨he, bel⟩ => ?_
  subst he
  exact ⟨_, rfl, _, _, _, [], _, [], hW', trodAll_mk1 (shut_bool Try.underlying4 _), (trodAll_cons_mk (Below.trod laidOut (by kernel_rfl) (of_decide_eq_true (by kernel_rfl)) k0 bel lt0) (trodAll_cons_mk (Below.trod laidOut (by kernel_rfl) (of_decide_eq_true (by kernel_rfl)) k1 bel lt1) (trodAll_cons_mk (Below.trod laidOut (by kernel_rfl) (of_decide_eq_true (by kernel_rfl)) k2 bel lt2) (trodAll_cons_mk (Below.trod laidOut (by kernel_rfl) (of_decide_eq_true (by kernel_rfl)) k3 bel lt3) trodAll_mk0)))), rfl, Below.frame bel _, fun h => by cases h⟩

theorem alignFirst_holds : Rows.AlignFirstSaid :=
  OpenClaim.holds_of_wide 11 Try.f11 rfl rfl rfl rfl rfl rfl rfl ⟨rfl, rfl, rfl, rfl, rfl⟩ rfl rfl rfl rfl rfl (by kernel_rfl) Try.func11 (by kernel_rfl)
    (of_decide_eq_true (by kernel_rfl)) (by unfold Func.isWrapper; first | (rw [if_pos (by decide +kernel)]; kernel_rfl) | (rw [if_neg (by decide +kernel)]; exact ⟨rfl, rfl⟩))
    (fun os started H enc _ => alignFirst_lifted os started H enc)
end Go.Proofs.Ythejomcibobieaa
