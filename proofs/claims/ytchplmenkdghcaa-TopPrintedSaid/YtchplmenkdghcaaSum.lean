/- The program: the Score and the Bound of a result (sum, 66). -/
import Derived.Test.YtchplmenkdghcaaLeave
import Derived.Test.YtchplmenkdghcaaMatch
namespace Go.Proofs.Ytchplmenkdghcaa
open Go.RowKit
/-- the greatest bound of the first k, at least m -/
def topRN (m : Int) (l : List Rs) (k : Nat) : Int := topR m (l.take k)
theorem topRN_succ {m : Int} {l : List Rs} {k : Nat} {x : Rs} (h : l[k]? = some x) : topRN m l (k + 1) = max (topRN m l k) x.bound := by
  have hk : k < l.length := by
    rcases Nat.lt_or_ge k l.length with h1 | h1
    · exact h1
    · rw [List.getElem?_eq_none h1] at h; cases h
  unfold topRN
  rw [List.take_succ_eq_append_getElem hk]
  rw [List.getElem?_eq_getElem hk] at h
  injection h with h
  rw [h]
  simp [topR]
theorem own_sl {α : Type} {sz : Nat} {f : α → List Value} (hf : ∀ x, (f x).length = sz) {w : World} {B : Nat} {e : TypeId} {v : Value} {l : List α} (h : w.ownsRow B e sz v l.length (flatG f l)) : ∃ A c, v = .slice A l.length c ∧ (l = [] ∨ ∃ g, A = some ⟨g, 0, none⟩ ∧ B ≤ g ∧ g < w.heap.size ∧ ∀ (k : Nat) (x : α), l[k]? = some x → ∀ j u, (f x)[j]? = some u → w.cell? ⟨g, k * sz + j, none⟩ = some u) := by
  obtain ⟨A, c, rfl⟩ := own_slice h
  refine ⟨A, c, rfl, ?_⟩
  rcases l with _ | ⟨x0, r⟩
  · exact .inl rfl
  · right
    obtain ⟨g, cap, hv, hb, hlt⟩ := h.form (by simp)
    injection hv with hA _ _
    subst hA
    refine ⟨g, rfl, hb, hlt, fun k x hk j u hu => ?_⟩
    have hj : j < sz := by rw [← hf x]; exact (List.getElem?_eq_some_iff.1 hu).1
    have := h.cells (g := g) rfl (k * sz + j) u (by rw [flatG_at hf _ k x hk j hj]; exact hu)
    rwa [addr_add, Nat.zero_add] at this
theorem ite_max (m x : Int) : (if m < x then x else m) = max m x := by split <;> omega
set_option maxRecDepth 100000 in
set_option maxHeartbeats 4000000 in
theorem sum_any (B gA : Nat) (s : St) (sc bd : Int) (vA vL : Value) (W : World) (h : AlW B gA s sc bd vA vL W) (hn : s.att.length ≤ 60000 ∧ s.left.length ≤ 60000) :
    Calls Try.prog 22 #[.pointer (some ⟨gA, 0, none⟩)] W fun e W' => (∃ v, e = .returned v) ∧ Blk W' gA 45 #[.int .i64 (scoreS s), .int .i64 (boundS s), vA, vL] ∧ Two2 gA gA W W' := by
  obtain ⟨att, left⟩ := s
  obtain ⟨n1, n2⟩ := hn
  replace n1 : att.length ≤ 60000 := n1
  replace n2 : left.length ≤ 60000 := n2
  obtain ⟨A1, c1, rfl, hA1⟩ := own_sl at_len h.att
  obtain ⟨A2, c2, rfl, hA2⟩ := own_sl rs_len h.left
  have HA1 := Lib.hid hA1
  have HA2 := Lib.hid hA2
  have HV1 := Lib.hid (show topN att att.length = scoreS ⟨att, left⟩ by unfold topN; rw [List.take_length]; rfl)
  have HV2 := Lib.hid (show topRN (scoreS ⟨att, left⟩) left left.length = boundS ⟨att, left⟩ by unfold topRN; rw [List.take_length]; rfl)
  have HZ := Lib.hid (show topN att 0 = 0 from rfl)
  have HZ2 := Lib.hid (show topRN (scoreS ⟨att, left⟩) left 0 = scoreS ⟨att, left⟩ from rfl)
  have hga := h.ga
  have HB := Lib.hid h.blk
  have s0 : W.cell? ⟨gA, 0, none⟩ = some (.int .i64 sc) := h.blk.cell 0
  have s2 : W.cell? ⟨gA, 2, none⟩ = some (.slice A1 att.length c1) := h.blk.cell 2
  have fA := h.blk.frozen
  clear h hA1 hA2
  generalize scoreS ⟨att, left⟩ = scv at *
  generalize boundS ⟨att, left⟩ = bdv at *
  go_enter Try.func22, Try.ntmps22
  go_wp2_with fail
  go_loopw [3, 14] (fun _ t wr => ∃ k : Nat, k ≤ att.length ∧ t = .int .i64 k ∧ Blk wr gA 45 #[.int .i64 (topN att k), .int .i64 bd, .slice A1 att.length c1, .slice A2 left.length c2] ∧ Two2 gA gA W wr) (fun _ t _ => att.length - (intOf t).toNat)
  case atStart => exact ⟨0, Nat.zero_le _, rfl, by rw [HZ.out]; exact HB.out.set_ 0 _, (Two2.refl gA gA W).set_ (p := ⟨gA, 0, none⟩) (.inl rfl) _⟩
  case round =>
    clear s0 s2 fA HB
    obtain ⟨k, hk, rfl, hB, hT⟩ := hrel
    have HB := Lib.hid hB
    have HT := Lib.hid hT
    have s0 : wr.cell? ⟨gA, 0, none⟩ = some (.int .i64 (topN att k)) := hB.cell 0
    have s1 : wr.cell? ⟨gA, 1, none⟩ = some (.int .i64 bd) := hB.cell 1
    have s3 : wr.cell? ⟨gA, 3, none⟩ = some (.slice A2 left.length c2) := hB.cell 3
    have fA := hB.frozen
    have oA := Old.mk hB.lt
    by_cases hlt : k < att.length
    · have hki : (k : Int) < att.length := by omega
      obtain ⟨x, hx⟩ : ∃ x, att[k]? = some x := ⟨_, List.getElem?_eq_getElem hlt⟩
      rcases HA1.out with rfl | ⟨g, rfl, hg1, hg2, hc⟩
      · simp at hlt
      have hne : g ≠ gA := by omega
      have e0 : wr.cell? ⟨g, k * 8, none⟩ = some (.int .i64 x.mv.turn) := (hT.cell hg2 hne hne _).trans (hc k x hx 0 _ rfl)
      have e1 := (hT.cell hg2 hne hne _).trans (hc k x hx 1 _ rfl)
      have e2 := (hT.cell hg2 hne hne _).trans (hc k x hx 2 _ rfl)
      have e3 := (hT.cell hg2 hne hne _).trans (hc k x hx 3 _ rfl)
      have e4 := (hT.cell hg2 hne hne _).trans (hc k x hx 4 _ rfl)
      have e5 := (hT.cell hg2 hne hne _).trans (hc k x hx 5 _ rfl)
      have e6 := (hT.cell hg2 hne hne _).trans (hc k x hx 6 _ rfl)
      have e7 := (hT.cell hg2 hne hne _).trans (hc k x hx 7 _ rfl)
      have HS := Lib.hid (topN_succ hx)
      clear hc hx hB hT
      generalize topN att k = m at *
      go_wp2_with fail
      refine wp_region_tail 10 (by kernel_rfl) (by kernel_rfl) ?_
      simp only [List.take_succ_cons, List.take_zero, List.drop_succ_cons, List.drop_zero]
      repeat still_step
      refine wpStill_nil ?_
      go_wp2_with fail
      refine ⟨⟨k + 1, by omega, by go_num, ?_, ?_⟩, by simp [intOf]; omega⟩
      · rw [HS.out, ← ite_max]
        exact ((HB.out.alloc (.cells #[.int .i64 x.mv.turn, .int .i64 x.mv.dx, .int .i64 x.mv.dy, .int .i64 x.bd.a, .int .i64 x.bd.b, .int .i64 x.bd.c, .int .i64 x.bd.d, .int .i64 x.score] 78)).set_ 0 _).drew
      · exact ((HT.out.trans (Two2.of_ext ((Ext.refl wr).alloc (.cells #[.int .i64 x.mv.turn, .int .i64 x.mv.dx, .int .i64 x.mv.dy, .int .i64 x.bd.a, .int .i64 x.bd.b, .int .i64 x.bd.c, .int .i64 x.bd.d, .int .i64 x.score] 78)))).set_ (p := ⟨gA, 0, none⟩) (.inl rfl) _).drew
    · obtain rfl : k = att.length := by omega
      have HB2 := Lib.hid (show Blk wr gA 45 #[.int .i64 scv, .int .i64 bd, .slice A1 att.length c1, .slice A2 left.length c2] from by rw [← HV1.out]; exact hB)
      rw [HV1.out] at s0
      have hsz := hT.size
      clear hB hT HB
      go_wp2_with fail
      obtain ⟨V, hV⟩ : ∃ V, V = wr.setCell ⟨gA, 1, none⟩ (.int .i64 scv) := ⟨_, rfl⟩
      have HB3 := Lib.hid (show Blk V gA 45 #[.int .i64 scv, .int .i64 scv, .slice A1 att.length c1, .slice A2 left.length c2] from by rw [hV]; exact HB2.out.set_ 1 _)
      have HT3 := Lib.hid (show Two2 gA gA W V from by rw [hV]; exact HT.out.set_ (p := ⟨gA, 1, none⟩) (.inl rfl) _)
      rw [← hV]
      clear hV s0 s1 s3 fA HB2 oA HT
      go_loopw [5, 41] (fun _ t wr => ∃ k : Nat, k ≤ left.length ∧ t = .int .i64 k ∧ Blk wr gA 45 #[.int .i64 scv, .int .i64 (topRN scv left k), .slice A1 att.length c1, .slice A2 left.length c2] ∧ Two2 gA gA W wr) (fun _ t _ => left.length - (intOf t).toNat)
      case atStart => exact ⟨0, Nat.zero_le _, rfl, by rw [HZ2.out]; exact HB3.out, HT3.out⟩
      case round =>
        clear HB3 HT3
        obtain ⟨k, hk, rfl, hB, hT⟩ := hrel
        have HB := Lib.hid hB
        have HT := Lib.hid hT
        have s0 : wr.cell? ⟨gA, 0, none⟩ = some (.int .i64 scv) := hB.cell 0
        have s1 : wr.cell? ⟨gA, 1, none⟩ = some (.int .i64 (topRN scv left k)) := hB.cell 1
        have fA := hB.frozen
        have oA := Old.mk hB.lt
        by_cases hlt : k < left.length
        · have hki : (k : Int) < left.length := by omega
          obtain ⟨x, hx⟩ : ∃ x, left[k]? = some x := ⟨_, List.getElem?_eq_getElem hlt⟩
          rcases HA2.out with rfl | ⟨g, rfl, hg1, hg2, hc⟩
          · simp at hlt
          have hne : g ≠ gA := by omega
          have e0 : wr.cell? ⟨g, k * 6, none⟩ = some (.int .i64 x.bk.turn) := (hT.cell hg2 hne hne _).trans (hc k x hx 0 _ rfl)
          have e1 := (hT.cell hg2 hne hne _).trans (hc k x hx 1 _ rfl)
          have e2 := (hT.cell hg2 hne hne _).trans (hc k x hx 2 _ rfl)
          have e3 := (hT.cell hg2 hne hne _).trans (hc k x hx 3 _ rfl)
          have e4 := (hT.cell hg2 hne hne _).trans (hc k x hx 4 _ rfl)
          have e5 := (hT.cell hg2 hne hne _).trans (hc k x hx 5 _ rfl)
          have HS := Lib.hid (topRN_succ (m := scv) hx)
          clear hc hx hB hT
          generalize topRN scv left k = m at *
          go_wp2_with fail
          refine wp_region_tail 10 (by kernel_rfl) (by kernel_rfl) ?_
          simp only [List.take_succ_cons, List.take_zero, List.drop_succ_cons, List.drop_zero]
          repeat still_step
          refine wpStill_nil ?_
          go_wp2_with fail
          refine ⟨⟨k + 1, by omega, by go_num, ?_, ?_⟩, by simp [intOf]; omega⟩
          · rw [HS.out, ← ite_max]
            exact ((HB.out.alloc (.cells #[.int .i64 x.bk.turn, .int .i64 x.bk.x0, .int .i64 x.bk.y0, .int .i64 x.bk.x1, .int .i64 x.bk.y1, .int .i64 x.bound] 70)).set_ 1 _).drew
          · exact ((HT.out.trans (Two2.of_ext ((Ext.refl wr).alloc (.cells #[.int .i64 x.bk.turn, .int .i64 x.bk.x0, .int .i64 x.bk.y0, .int .i64 x.bk.x1, .int .i64 x.bk.y1, .int .i64 x.bound] 70)))).set_ (p := ⟨gA, 1, none⟩) (.inl rfl) _).drew
        · obtain rfl : k = left.length := by omega
          have HB2 := Lib.hid (show Blk wr gA 45 #[.int .i64 scv, .int .i64 bdv, .slice A1 att.length c1, .slice A2 left.length c2] from by rw [← HV2.out]; exact hB)
          clear hB hT HB
          go_wp2_with fail
          go_end0
          exact ⟨⟨_, rfl⟩, HB2.out, HT.out⟩
end Go.Proofs.Ytchplmenkdghcaa
namespace Go.Proofs.Ytchplmenkdghcaa
open Go.RowKit
end Go.Proofs.Ytchplmenkdghcaa

