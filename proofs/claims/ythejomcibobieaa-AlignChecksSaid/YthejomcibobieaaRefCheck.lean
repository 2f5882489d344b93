/- Which results are proved: the reference's CheckBest (30). -/
import Derived.Test.YthejomcibobieaaProvRef
namespace Go.Proofs.Ythejomcibobieaa
open Go.RowKit

set_option maxRecDepth 100000 in
set_option maxHeartbeats 4000000 in
theorem refCheck_any (c : Cl) (lp lq : List Mi) (hp : ∀ m ∈ lp, 0 ≤ m.dir) (hq : ∀ m ∈ lq, 0 ≤ m.dir) (hnp : lp.length ≤ 100) (hnq : lq.length ≤ 100) (Ap Aq : Option Addr) (cp cq : Nat) (att : List At) (left : List Rs) (sc bd : Int) (A1 A2 : Option Addr) (c1 c2 : Nat)
    (hna : att.length ≤ 2000) (hnl : left.length ≤ 2000) (hwf : ∀ x ∈ att, x.wf) (w : World) (hP : Pts w Ap lp) (hQ : Pts w Aq lq) (hA : Ats w A1 att) (hL : Rss w A2 left) :
    Calls Try.prog 30 #[.slice Ap lp.length cp, .slice Aq lq.length cq, c.val, resV att left sc bd A1 A2 c1 c2] w fun e w' => e = .returned (.int .i64 (chkE c lp lq ⟨att, left⟩ sc bd)) ∧ Ext w w' := by
  have CA := Lib.hid (fun w h1 h2 => asked_any c lp lq hnp hnq Ap Aq cp cq w h1 h2)
  have HP := Lib.hid hP
  have HQ := Lib.hid hQ
  have HA := Lib.hid hA
  have HL := Lib.hid hL
  clear hP hQ hA hL
  by_cases h0 : askE c lp lq = 0
  · obtain ⟨a1, a2, hc⟩ := askE_ok h0
    obtain ⟨hpo, -⟩ := okP_ok a1 hp
    obtain ⟨hqo, -⟩ := okP_ok a2 hq
    have CP := Lib.hid (fun (W : World) (hE : Ext w W) => refProved_any c hc lp lq hpo hqo hnp hnq Ap Aq cp cq att left sc bd A1 A2 c1 c2 hna hnl hwf W (HP.out.grow hE) (HQ.out.grow hE) (HA.out.grow hE) (HL.out.grow hE))
    have HV := Lib.hid (show chkE c lp lq ⟨att, left⟩ sc bd = if provB c (bndK c lp lq) (trK c lp lq) ⟨att, left⟩ sc bd then 0 else 21 from if_pos h0)
    rw [h0] at CA
    generalize provB c (bndK c lp lq) (trK c lp lq) ⟨att, left⟩ sc bd = res at *
    clear a1 a2 hc hpo hqo h0 hwf hna hnl
    cases res
    · have HV2 := Lib.hid (show chkE c lp lq ⟨att, left⟩ sc bd = 21 from HV.out)
      go_enter Try.func30, Try.ntmps30
      go_wp2_with fail
      have hE0 := ((Ext.refl w).alloc (.cells #[.int .i64 c.turns, .int .i64 c.shift, .int .i64 c.elastic, .int .i64 c.reach, .int .i64 c.spread] 38)).alloc (.cells #[.int .i64 sc, .int .i64 bd, .slice A1 att.length c1, .slice A2 left.length c2] 58)
      refine Calls.ext (CA.out _ (HP.out.grow hE0) (HQ.out.grow hE0)) fun z1 => ?_
      go_wp2_with fail
      refine Calls.ext (CP.out _ (hE0.ext z1)) fun z2 => ?_
      go_wp2_with fail
      go_ret
      exact ⟨ret_of (by rw [HV2.out]; rfl), (hE0.ext z1).ext z2⟩
    · have HV2 := Lib.hid (show chkE c lp lq ⟨att, left⟩ sc bd = 0 from HV.out)
      go_enter Try.func30, Try.ntmps30
      go_wp2_with fail
      have hE0 := ((Ext.refl w).alloc (.cells #[.int .i64 c.turns, .int .i64 c.shift, .int .i64 c.elastic, .int .i64 c.reach, .int .i64 c.spread] 38)).alloc (.cells #[.int .i64 sc, .int .i64 bd, .slice A1 att.length c1, .slice A2 left.length c2] 58)
      refine Calls.ext (CA.out _ (HP.out.grow hE0) (HQ.out.grow hE0)) fun z1 => ?_
      go_wp2_with fail
      refine Calls.ext (CP.out _ (hE0.ext z1)) fun z2 => ?_
      go_wp2_with fail
      go_ret
      exact ⟨ret_of (by rw [HV2.out]; rfl), (hE0.ext z1).ext z2⟩
  · obtain ⟨x, hx, hx2⟩ := ask_err h0
    have HV := Lib.hid (show chkE c lp lq ⟨att, left⟩ sc bd = x from by unfold chkE; rw [if_neg h0, hx])
    rw [hx] at CA
    clear h0 hx
    have hxn : (x != 0) = true := by rcases hx2 with rfl | rfl <;> rfl
    go_enter Try.func30, Try.ntmps30
    go_wp2_with fail
    have hE0 := ((Ext.refl w).alloc (.cells #[.int .i64 c.turns, .int .i64 c.shift, .int .i64 c.elastic, .int .i64 c.reach, .int .i64 c.spread] 38)).alloc (.cells #[.int .i64 sc, .int .i64 bd, .slice A1 att.length c1, .slice A2 left.length c2] 58)
    refine Calls.ext (CA.out _ (HP.out.grow hE0) (HQ.out.grow hE0)) fun z1 => ?_
    go_wp2_with fail
    go_ret
    exact ⟨ret_of (by rw [HV.out]; rfl), hE0.ext z1⟩
/-- a slice of the call's own that holds structs -/
def OwA {α : Type} (base sz : Nat) (f : α → List Value) (w : World) (A : Option Addr) (l : List α) : Prop :=
  l = [] ∨ ∃ b, A = some ⟨b, 0, none⟩ ∧ base ≤ b ∧ b < w.heap.size ∧ ∀ (k : Nat) (x : α), l[k]? = some x → ∀ j u, (f x)[j]? = some u → w.cell? ⟨b, k * sz + j, none⟩ = some u
section
variable {α : Type} {base sz : Nat} {f : α → List Value} {w w' : World} {A : Option Addr} {l : List α}
theorem OwA.grow (h : OwA base sz f w A l) (hE : Ext w w') : OwA base sz f w' A l := by
  rcases h with h | ⟨b, h1, h2, h3, h4⟩
  · exact .inl h
  · exact .inr ⟨b, h1, h2, Nat.lt_of_lt_of_le h3 hE.size, fun k x hk j u hu => by rw [hE.cell (by exact h3)]; exact h4 k x hk j u hu⟩
theorem OwA.set (h : OwA base sz f w A l) {p : Addr} (hp : p.block < base) (u : Value) : OwA base sz f (w.setCell p u) A l := by
  rcases h with h | ⟨b, h1, h2, h3, h4⟩
  · exact .inl h
  · exact .inr ⟨b, h1, h2, by simpa using h3, fun k x hk j v hv => (World.cell?_setCell_other w _ _ u (fun e => by have e2 := congrArg Addr.block e; simp only at e2; omega)).trans (h4 k x hk j v hv)⟩
theorem OwA.drew (h : OwA base sz f w A l) : OwA base sz f w.drew A l := h.grow (Ext.refl w).drew
theorem OwA.sl (h : OwA base sz f w A l) : Sl sz f w A l := by
  rcases h with h | ⟨b, h1, h2, h3, h4⟩
  · exact .inl h
  · exact .inr ⟨b, 0, h1, h3, fun k x hk j u hu => by rw [Nat.zero_add]; exact h4 k x hk j u hu⟩
theorem OwA.of_own {e : TypeId} {c : Nat} (hf : ∀ x, (f x).length = sz) (h : w.ownsRow base e sz (.slice A l.length c) l.length (flatG f l)) : OwA base sz f w A l := by
  rcases l with _ | ⟨x0, r⟩
  · exact .inl rfl
  · obtain ⟨g, cap, hv, hb, hlt⟩ := h.form (by simp)
    have hA : A = some ⟨g, 0, none⟩ := by injection hv
    subst hA
    refine .inr ⟨g, rfl, hb, hlt, fun k x hk j u hu => ?_⟩
    have hj : j < sz := by rw [← hf x]; exact (List.getElem?_eq_some_iff.1 hu).1
    have := h.cells (g := g) rfl (k * sz + j) u (by rw [flatG_at hf _ k x hk j hj]; exact hu)
    rwa [addr_add, Nat.zero_add] at this
end
end Go.Proofs.Ythejomcibobieaa
