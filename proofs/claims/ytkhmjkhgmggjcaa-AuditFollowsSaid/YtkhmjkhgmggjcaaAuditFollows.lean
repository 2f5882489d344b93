/- Proved: for every reason r and every number more, the call of whorllaw11.AuditFollows returns true and leaves its arguments as they were. No conditions. -/
import Derived.Test.YtkhmjkhgmggjcaaAlive
import Derived.Test.YtkhmjkhgmggjcaaLogs
namespace Go.Proofs.Ytkhmjkhgmggjcaa
open Go.Joins Go.ChangeShapes Go.WideShapes Go.RowKit Go.Deep Go.ChangeAt

def gB (n d l m u : Int) : Bool := fromB (-1) 19 u && fromB 0 127 n && fromB 0 127 d && fromB 0 127 l && fromB 0 127 m
theorem good_dec (k n d l m u : Int) (h0 : 1 ≤ k) (h1 : k ≤ 3) : goodB ⟨k, n, d, l, m, u⟩ = gB n d l m u := by
  simp [goodB, gB, h0, h1]
theorem foll_bad (k n d l m u : Int) (h0 : 1 ≤ k) (h1 : k ≤ 3) (h : gB n d l m u = false) : follV ⟨k, n, d, l, m, u⟩ = .tuple #[.bool false, .int .i64 2] := by
  simp [follV, good_dec k n d l m u h0 h1, h]
theorem foll_go (n d l m u : Int) (h : gB n d l m u = true) : follV ⟨1, n, d, l, m, u⟩ = .tuple #[.bool (decide (n * m ≤ l * d)), .int .i64 0] := by
  simp [follV, good_dec 1 n d l m u (by omega) (by omega), h, follB]
theorem foll_stop (n d l m u : Int) (h : gB n d l m u = true) : follV ⟨2, n, d, l, m, u⟩ = .tuple #[.bool (!decide (n * m ≤ l * d)), .int .i64 0] := by
  simp [follV, good_dec 2 n d l m u (by omega) (by omega), h, follB]
theorem foll_off (n d l m u : Int) (h : gB n d l m u = true) : follV ⟨3, n, d, l, m, u⟩ = .tuple #[.bool true, .int .i64 0] := by
  simp [follV, good_dec 3 n d l m u (by omega) (by omega), h, follB]
theorem more_go (n d l m u v : Int) (h : gB n d l m u = true) (hlv : l ≤ v) (ha : n * m ≤ l * d) : n * m ≤ v * d := by
  have hd : 0 ≤ d := by simp [gB, fromB] at h; omega
  exact Int.le_trans ha (Int.mul_le_mul_of_nonneg_right hlv hd)

/-- A call; of the world behind it only one block of the call's own is kept. -/
theorem calls_blk {P : Program} {f : FuncId} {args : Array Value} {W : World} {v : Value} {R : Ending → World → Prop} (W0 : World) (g : Nat) (t : TypeId) (cs : Array Value)
    (h : Calls P f args W fun e w' => e = .returned v ∧ Ext W w') (hE : Ext W0 W) (hB : Blk W g t cs) (hR : ∀ z, Blk (ext W0 z) g t cs → R (.returned v) (ext W0 z)) : Calls P f args W R :=
  h.mono fun e w' ⟨he, hw⟩ => by
    subst he
    have := hR w'
    rw [ext_of (hE.trans hw)] at this
    exact this (hB.grow hw)

set_option maxRecDepth 100000 in
set_option maxHeartbeats 4000000 in
theorem auditFollows_walk (k n d l m u v : Int) (w : World) :
    Calls Try.prog 9 #[R.val ⟨k, n, d, l, m, u⟩, .int .i64 v] w fun e w' => e = .returned (.bool true) ∧ Ext w w' := by
  cases hg : gB n d l m u
  · have C1 := Lib.hid (fun (w : World) => foll_bad 1 n d l m u (by omega) (by omega) hg ▸ follows_any ⟨1, n, d, l, m, u⟩ w)
    have C2 := Lib.hid (fun (w : World) => foll_bad 2 n d l m u (by omega) (by omega) hg ▸ follows_any ⟨2, n, d, l, m, u⟩ w)
    go_enter Try.func9, Try.ntmps9
    go_wp2_with fail
    refine calls_blk w w.heap.size 23 #[.int .u8 k, .int .i64 n, .int .i64 d, .int .i64 l, .int .i64 m, .int .i64 u] (alive_any _) ((Ext.refl w).alloc _) (Blk.new _ _ _) fun z1 h1 => ?_
    have H1 := Lib.hid h1
    have e0 := h1.cell 0
    have e1 := h1.cell 1
    have e2 := h1.cell 2
    have e3 := h1.cell 3
    have e4 := h1.cell 4
    have e5 := h1.cell 5
    have eF := h1.frozen
    simp only [List.getElem?_toArray, List.getElem?_cons_zero, List.getElem?_cons_succ] at e0 e1 e2 e3 e4 e5
    clear h1
    go_wp2_with fail
    refine calls_blk w w.heap.size 23 #[.int .u8 1, .int .i64 n, .int .i64 d, .int .i64 l, .int .i64 m, .int .i64 u] (C1.out _) ((Ext.ext_self w z1).setCell (Nat.le_refl _) _) (H1.out.set_ 0 _) fun z2 h2 => ?_
    clear e0 e1 e2 e3 e4 e5 eF
    have H2 := Lib.hid h2
    have e0 := h2.cell 0
    have e1 := h2.cell 1
    have e2 := h2.cell 2
    have e3 := h2.cell 3
    have e4 := h2.cell 4
    have e5 := h2.cell 5
    have eF := h2.frozen
    simp only [List.getElem?_toArray, List.getElem?_cons_zero, List.getElem?_cons_succ] at e0 e1 e2 e3 e4 e5
    clear h2
    go_wp2_with fail
    refine calls_blk w w.heap.size 23 #[.int .u8 2, .int .i64 n, .int .i64 d, .int .i64 l, .int .i64 m, .int .i64 u] (C2.out _) ((Ext.ext_self w z2).setCell (Nat.le_refl _) _) (H2.out.set_ 0 _) fun z3 h3 => ?_
    clear e0 e1 e2 e3 e4 e5 eF
    have H3 := Lib.hid h3
    have e0 := h3.cell 0
    have e1 := h3.cell 1
    have e2 := h3.cell 2
    have e3 := h3.cell 3
    have e4 := h3.cell 4
    have e5 := h3.cell 5
    have eF := h3.frozen
    simp only [List.getElem?_toArray, List.getElem?_cons_zero, List.getElem?_cons_succ] at e0 e1 e2 e3 e4 e5
    clear h3
    go_wp2_with fail
    go_ret
    exact ⟨rfl, Ext.ext_self w z3⟩
  · cases hg2 : gB n d v m u
    · have C1 := Lib.hid (fun (w : World) => foll_go n d l m u hg ▸ follows_any ⟨1, n, d, l, m, u⟩ w)
      have C2 := Lib.hid (fun (w : World) => foll_stop n d l m u hg ▸ follows_any ⟨2, n, d, l, m, u⟩ w)
      have C3 := Lib.hid (fun (w : World) => foll_bad 1 n d v m u (by omega) (by omega) hg2 ▸ follows_any ⟨1, n, d, v, m, u⟩ w)
      have C4 := Lib.hid (fun (w : World) => foll_bad 3 n d v m u (by omega) (by omega) hg2 ▸ follows_any ⟨3, n, d, v, m, u⟩ w)
      generalize decide (n * m ≤ l * d) = a at *
      cases a
      all_goals
        go_enter Try.func9, Try.ntmps9
        go_wp2_with fail
        refine calls_blk w w.heap.size 23 #[.int .u8 k, .int .i64 n, .int .i64 d, .int .i64 l, .int .i64 m, .int .i64 u] (alive_any _) ((Ext.refl w).alloc _) (Blk.new _ _ _) fun z1 h1 => ?_
        have H1 := Lib.hid h1
        have e0 := h1.cell 0
        have e1 := h1.cell 1
        have e2 := h1.cell 2
        have e3 := h1.cell 3
        have e4 := h1.cell 4
        have e5 := h1.cell 5
        have eF := h1.frozen
        simp only [List.getElem?_toArray, List.getElem?_cons_zero, List.getElem?_cons_succ] at e0 e1 e2 e3 e4 e5
        clear h1
        go_wp2_with fail
        refine calls_blk w w.heap.size 23 #[.int .u8 1, .int .i64 n, .int .i64 d, .int .i64 l, .int .i64 m, .int .i64 u] (C1.out _) ((Ext.ext_self w z1).setCell (Nat.le_refl _) _) (H1.out.set_ 0 _) fun z2 h2 => ?_
        clear e0 e1 e2 e3 e4 e5 eF
        have H2 := Lib.hid h2
        have e0 := h2.cell 0
        have e1 := h2.cell 1
        have e2 := h2.cell 2
        have e3 := h2.cell 3
        have e4 := h2.cell 4
        have e5 := h2.cell 5
        have eF := h2.frozen
        simp only [List.getElem?_toArray, List.getElem?_cons_zero, List.getElem?_cons_succ] at e0 e1 e2 e3 e4 e5
        clear h2
        go_wp2_with fail
        refine calls_blk w w.heap.size 23 #[.int .u8 2, .int .i64 n, .int .i64 d, .int .i64 l, .int .i64 m, .int .i64 u] (C2.out _) ((Ext.ext_self w z2).setCell (Nat.le_refl _) _) (H2.out.set_ 0 _) fun z3 h3 => ?_
        clear e0 e1 e2 e3 e4 e5 eF
        have H3 := Lib.hid h3
        have e0 := h3.cell 0
        have e1 := h3.cell 1
        have e2 := h3.cell 2
        have e3 := h3.cell 3
        have e4 := h3.cell 4
        have e5 := h3.cell 5
        have eF := h3.frozen
        simp only [List.getElem?_toArray, List.getElem?_cons_zero, List.getElem?_cons_succ] at e0 e1 e2 e3 e4 e5
        clear h3
        go_wp2_with fail
        refine calls_blk w w.heap.size 23 #[.int .u8 1, .int .i64 n, .int .i64 d, .int .i64 v, .int .i64 m, .int .i64 u] (C3.out _) (((Ext.ext_self w z3).setCell (Nat.le_refl _) _).setCell (Nat.le_refl _) _) ((H3.out.set_ 0 _).set_ 3 _) fun z4 h4 => ?_
        clear e0 e1 e2 e3 e4 e5 eF
        have H4 := Lib.hid h4
        have e0 := h4.cell 0
        have e1 := h4.cell 1
        have e2 := h4.cell 2
        have e3 := h4.cell 3
        have e4 := h4.cell 4
        have e5 := h4.cell 5
        have eF := h4.frozen
        simp only [List.getElem?_toArray, List.getElem?_cons_zero, List.getElem?_cons_succ] at e0 e1 e2 e3 e4 e5
        clear h4
        go_wp2_with fail
        refine calls_blk w w.heap.size 23 #[.int .u8 3, .int .i64 n, .int .i64 d, .int .i64 v, .int .i64 m, .int .i64 u] (C4.out _) ((Ext.ext_self w z4).setCell (Nat.le_refl _) _) (H4.out.set_ 0 _) fun z5 h5 => ?_
        clear e0 e1 e2 e3 e4 e5 eF
        go_wp2_with fail
        all_goals (go_ret; exact ⟨rfl, Ext.ext_self w z5⟩)
    · have C1 := Lib.hid (fun (w : World) => foll_go n d l m u hg ▸ follows_any ⟨1, n, d, l, m, u⟩ w)
      have C2 := Lib.hid (fun (w : World) => foll_stop n d l m u hg ▸ follows_any ⟨2, n, d, l, m, u⟩ w)
      have C3 := Lib.hid (fun (w : World) => foll_go n d v m u hg2 ▸ follows_any ⟨1, n, d, v, m, u⟩ w)
      have C4 := Lib.hid (fun (w : World) => foll_off n d v m u hg2 ▸ follows_any ⟨3, n, d, v, m, u⟩ w)
      have hmg : v < l ∨ decide (n * m ≤ l * d) = false ∨ (decide (n * m ≤ l * d) = true ∧ decide (n * m ≤ v * d) = true) := by
        by_cases h1 : v < l
        · exact .inl h1
        · by_cases h2 : n * m ≤ l * d
          · exact .inr (.inr ⟨by simpa using h2, by simpa using more_go n d l m u v hg (by omega) h2⟩)
          · exact .inr (.inl (by simpa using h2))
      generalize decide (n * m ≤ l * d) = a at *
      generalize decide (n * m ≤ v * d) = b at *
      have hcases : (v < l ∧ a = true) ∨ (v < l ∧ a = false) ∨ (¬ v < l ∧ a = false) ∨ (¬ v < l ∧ a = true ∧ b = true) := by
        by_cases h1 : v < l <;> cases a <;> cases b <;> simp_all
      clear hmg
      rcases hcases with ⟨hvl, rfl⟩ | ⟨hvl, rfl⟩ | ⟨hvl, rfl⟩ | ⟨hvl, rfl, rfl⟩
      all_goals
        go_enter Try.func9, Try.ntmps9
        go_wp2_with fail
        refine calls_blk w w.heap.size 23 #[.int .u8 k, .int .i64 n, .int .i64 d, .int .i64 l, .int .i64 m, .int .i64 u] (alive_any _) ((Ext.refl w).alloc _) (Blk.new _ _ _) fun z1 h1 => ?_
        have H1 := Lib.hid h1
        have e0 := h1.cell 0
        have e1 := h1.cell 1
        have e2 := h1.cell 2
        have e3 := h1.cell 3
        have e4 := h1.cell 4
        have e5 := h1.cell 5
        have eF := h1.frozen
        simp only [List.getElem?_toArray, List.getElem?_cons_zero, List.getElem?_cons_succ] at e0 e1 e2 e3 e4 e5
        clear h1
        go_wp2_with fail
        refine calls_blk w w.heap.size 23 #[.int .u8 1, .int .i64 n, .int .i64 d, .int .i64 l, .int .i64 m, .int .i64 u] (C1.out _) ((Ext.ext_self w z1).setCell (Nat.le_refl _) _) (H1.out.set_ 0 _) fun z2 h2 => ?_
        clear e0 e1 e2 e3 e4 e5 eF
        have H2 := Lib.hid h2
        have e0 := h2.cell 0
        have e1 := h2.cell 1
        have e2 := h2.cell 2
        have e3 := h2.cell 3
        have e4 := h2.cell 4
        have e5 := h2.cell 5
        have eF := h2.frozen
        simp only [List.getElem?_toArray, List.getElem?_cons_zero, List.getElem?_cons_succ] at e0 e1 e2 e3 e4 e5
        clear h2
        go_wp2_with fail
        refine calls_blk w w.heap.size 23 #[.int .u8 2, .int .i64 n, .int .i64 d, .int .i64 l, .int .i64 m, .int .i64 u] (C2.out _) ((Ext.ext_self w z2).setCell (Nat.le_refl _) _) (H2.out.set_ 0 _) fun z3 h3 => ?_
        clear e0 e1 e2 e3 e4 e5 eF
        have H3 := Lib.hid h3
        have e0 := h3.cell 0
        have e1 := h3.cell 1
        have e2 := h3.cell 2
        have e3 := h3.cell 3
        have e4 := h3.cell 4
        have e5 := h3.cell 5
        have eF := h3.frozen
        simp only [List.getElem?_toArray, List.getElem?_cons_zero, List.getElem?_cons_succ] at e0 e1 e2 e3 e4 e5
        clear h3
        go_wp2_with fail
        refine calls_blk w w.heap.size 23 #[.int .u8 1, .int .i64 n, .int .i64 d, .int .i64 v, .int .i64 m, .int .i64 u] (C3.out _) (((Ext.ext_self w z3).setCell (Nat.le_refl _) _).setCell (Nat.le_refl _) _) ((H3.out.set_ 0 _).set_ 3 _) fun z4 h4 => ?_
        clear e0 e1 e2 e3 e4 e5 eF
        have H4 := Lib.hid h4
        have e0 := h4.cell 0
        have e1 := h4.cell 1
        have e2 := h4.cell 2
        have e3 := h4.cell 3
        have e4 := h4.cell 4
        have e5 := h4.cell 5
        have eF := h4.frozen
        simp only [List.getElem?_toArray, List.getElem?_cons_zero, List.getElem?_cons_succ] at e0 e1 e2 e3 e4 e5
        clear h4
        go_wp2_with fail
        refine calls_blk w w.heap.size 23 #[.int .u8 3, .int .i64 n, .int .i64 d, .int .i64 v, .int .i64 m, .int .i64 u] (C4.out _) ((Ext.ext_self w z4).setCell (Nat.le_refl _) _) (H4.out.set_ 0 _) fun z5 h5 => ?_
        clear e0 e1 e2 e3 e4 e5 eF
        go_wp2_with fail
        all_goals (go_ret; exact ⟨rfl, Ext.ext_self w z5⟩)

set_option maxRecDepth 100000 in
theorem auditFollows_lifted (os : Os) (started : os.Started) (H : Type) (enc : TypeId × Value → H) :
    ReturnsInHanded {} Try.checked os 9 .any (Rows.auditFollowsSpec.pre6 enc Try.prog Try.f9 Rows.auditFollowsRow.domain false) (Rows.auditFollowsSpec.post enc Try.prog Try.f9 false true false false) := by
  refine returnsInHanded_of_change (C := Try.checked) own started (by kernel_rfl) Try.func9
    (ChangeSpec.witness6 (enc := enc) (C := Try.checked) false ⟨#[], #[.agg #[.int .u8 0, .int .i64 0, .int .i64 0, .int .i64 0, .int .i64 0, .int .i64 0], .int .i64 0], []⟩ 8 (by kernel_rfl) (by kernel_rfl) (by kernel_rfl) (by kernel_rfl)) ?_
  intro W base args ds gs before hval0 hW hcnd _
  have hval : ∀ (j : Nat) t v, Try.f9.params[j]? = some t → args[j]? = some v → Value.okWide Try.prog W .any base t v := hval0
  have hW' := hW
  obtain ⟨p, q, hA0, hV, rfl, hfz, hnd⟩ := hW
  have hA : DataW.TrodAll enc Try.prog W 0 (fun _ => true) true Try.f9.params.toList args.toList ds p := hA0
  rw [Try.params9] at hA hval
  obtain ⟨v0, vs0, d0, ds0, p0, q0, hargs, rfl, rfl, h0, r0⟩ := trodAll_cons hA
  obtain ⟨v1, vs1, d1, ds1, p1, q1, rfl, rfl, rfl, h1, r1⟩ := trodAll_cons r0
  obtain ⟨rfl, rfl, rfl⟩ := trodAll_nil r1
  obtain rfl : args = #[v0, v1] := by cases args; simp_all
  obtain ⟨rfl, rfl⟩ := trodVars_none hV
  have k0 := h0
  have lt0 : ∀ x ∈ p0, x.block < W.heap.size := by obtain ⟨m, hm⟩ := k0; exact DataW.trod_lt m _ _ _ hm
  obtain ⟨ns0, hl0, hv0, wf0⟩ := open_nums (ks := [.u8, .i64, .i64, .i64, .i64, .i64]) Try.underlying23 (by kernel_rfl) (by kernel_rfl) (kindsOf_of (by kernel_rfl)) (hval 0 23 v0 rfl rfl) h0
  have k1 := h1
  have lt1 : ∀ x ∈ p1, x.block < W.heap.size := by obtain ⟨m, hm⟩ := k1; exact DataW.trod_lt m _ _ _ hm
  obtain ⟨a1, rfl, _, _, w1⟩ := open_int Try.underlying3 (hval 1 3 v1 rfl rfl) h1
  clear hA0 hval0
  match ns0, hl0 with
  | [m0, m1, m2, m3, m4, m5], _ =>
  obtain rfl : v0 = R.val ⟨m0, m1, m2, m3, m4, m5⟩ := hv0
  refine (auditFollows_walk m0 m1 m2 m3 m4 m5 a1 W).mono fun e W' ⟨he, bel⟩ => ?_
  subst he
  exact ⟨_, rfl, _, _, _, [], _, [], hW', trodAll_mk1 (shut_bool Try.underlying4 _), (trodAll_cons_mk (Below.trod laidOut (by kernel_rfl) (of_decide_eq_true (by kernel_rfl)) k0 bel lt0) (trodAll_cons_mk (Below.trod laidOut (by kernel_rfl) (of_decide_eq_true (by kernel_rfl)) k1 bel lt1) trodAll_mk0)), rfl, Below.frame bel _, fun h => by cases h⟩

theorem auditFollows_holds : Rows.AuditFollowsSaid :=
  OpenClaim.holds_of_wide 9 Try.f9 rfl rfl rfl rfl rfl rfl rfl ⟨rfl, rfl, rfl, rfl, rfl⟩ rfl rfl rfl rfl rfl (by kernel_rfl) Try.func9 (by kernel_rfl)
    (of_decide_eq_true (by kernel_rfl)) (by unfold Func.isWrapper; first | (rw [if_pos (by decide +kernel)]; kernel_rfl) | (rw [if_neg (by decide +kernel)]; exact ⟨rfl, rfl⟩))
    (fun os started H enc _ => auditFollows_lifted os started H enc)
end Go.Proofs.Ytkhmjkhgmggjcaa
