/- The reference's Best (33). -/
import Derived.Test.YthejomcibobieaaSearched
import Derived.Test.YthejomcibobieaaAlive
namespace Go.Proofs.Ythejomcibobieaa
open Go.RowKit

theorem call_a {P : Program} {f : FuncId} {args : Array Value} {s : St} {w : World} {R : Ending → World → Prop} (h : Calls P f args w (RetA s w)) (hR : ∀ A1 c1 A2 c2 z, Ats (ext w z) A1 s.att → Rss (ext w z) A2 s.left → R (.returned (.agg #[.int .i64 (scoreS s), .int .i64 (boundS s), .slice A1 s.att.length c1, .slice A2 s.left.length c2])) (ext w z)) : Calls P f args w R :=
  h.mono fun e w' ⟨A1, c1, A2, c2, he, h1, h2, hw⟩ => by
    subst he
    have := hR A1 c1 A2 c2 w'
    rw [ext_of hw] at this
    exact this h1 h2
theorem store_four {W : World} {g : Nat} {cs : Array Value} (h : Blk W g 58 cs) (hn : cs.size = 4) (v0 v1 v2 v3 : Value) : Blk ((((W.setCell ⟨g, 0, none⟩ v0).setCell ⟨g, 1, none⟩ v1).setCell ⟨g, 2, none⟩ v2).setCell ⟨g, 3, none⟩ v3) g 58 #[v0, v1, v2, v3] := by
  have h4 := (((h.set_ 0 v0).set_ 1 v1).set_ 2 v2).set_ 3 v3
  rcases cs with ⟨l⟩
  rcases l with _ | ⟨x0, _ | ⟨x1, _ | ⟨x2, _ | ⟨x3, _ | ⟨x4, r⟩⟩⟩⟩⟩
  · cases hn
  · cases hn
  · cases hn
  · cases hn
  · simp only [List.setIfInBounds_toArray, List.set_cons_zero, List.set_cons_succ] at h4
    exact h4
  · simp at hn
theorem Sl.small {α : Type} {sz : Nat} {f : α → List Value} {W : World} {A : Option Addr} {l : List α} (hf : ∀ x, (f x).length = sz) (h : Sl sz f W A l) {g : Nat} {t : TypeId} {cs : Array Value} (hB : Blk W g t cs) (hn : cs.size < sz) (i : Nat) (v : Value) : Sl sz f (W.setCell ⟨g, i, none⟩ v) A l := by
  rcases h with h | ⟨b, off, h1, h2, h3⟩
  · exact .inl h
  · rcases l with _ | ⟨x0, r⟩
    · exact .inl rfl
    · have hlt : sz - 1 < (f x0).length := by rw [hf]; omega
      have hc := h3 0 x0 rfl (sz - 1) _ (List.getElem?_eq_getElem hlt)
      have hb : b ≠ g := by
        rintro rfl
        have := hB.cell (off + 0 * sz + (sz - 1))
        rw [this, Array.getElem?_eq_none (by omega)] at hc
        cases hc
      exact .inr ⟨b, off, h1, by simpa using h2, fun k x hk j u hu => (World.cell?_setCell_other W _ _ v (fun e => hb (by have e2 := congrArg Addr.block e; exact e2.symm))).trans (h3 k x hk j u hu)⟩
theorem Sl.small4 {α : Type} {sz : Nat} {f : α → List Value} {W : World} {A : Option Addr} {l : List α} (hf : ∀ x, (f x).length = sz) (h : Sl sz f W A l) {g : Nat} {t : TypeId} {cs : Array Value} (hB : Blk W g t cs) (hn : cs.size < sz) (v0 v1 v2 v3 : Value) : Sl sz f ((((W.setCell ⟨g, 0, none⟩ v0).setCell ⟨g, 1, none⟩ v1).setCell ⟨g, 2, none⟩ v2).setCell ⟨g, 3, none⟩ v3) A l := by
  have h1 := h.small hf hB hn 0 v0
  have b1 := hB.set_ 0 v0
  have h2 := h1.small hf b1 (by simpa using hn) 1 v1
  have b2 := b1.set_ 1 v1
  have h3 := h2.small hf b2 (by simpa using hn) 2 v2
  have b3 := b2.set_ 2 v2
  exact h3.small hf b3 (by simpa using hn) 3 v3
theorem Ext.four {w W : World} (h : Ext w W) {g : Nat} (hg : w.heap.size ≤ g) (v0 v1 v2 v3 : Value) : Ext w ((((W.setCell ⟨g, 0, none⟩ v0).setCell ⟨g, 1, none⟩ v1).setCell ⟨g, 2, none⟩ v2).setCell ⟨g, 3, none⟩ v3) :=
  (((h.setCell (p := ⟨g, 0, none⟩) hg v0).setCell (p := ⟨g, 1, none⟩) hg v1).setCell (p := ⟨g, 2, none⟩) hg v2).setCell (p := ⟨g, 3, none⟩) hg v3
set_option maxRecDepth 100000 in
set_option maxHeartbeats 8000000 in
theorem refBest_any (c : Cl) (lp lq : List Mi) (n : Int) (hp : ∀ m ∈ lp, 0 ≤ m.dir) (hq : ∀ m ∈ lq, 0 ≤ m.dir) (hnp : lp.length ≤ 100) (hnq : lq.length ≤ 100) (Ap Aq : Option Addr) (cp cq : Nat) (w : World) (hP : Pts w Ap lp) (hQ : Pts w Aq lq) :
    Calls Try.prog 33 #[.slice Ap lp.length cp, .slice Aq lq.length cq, c.val, .int .i64 n] w (RetB (bestS c lp lq n) (bestE c lp lq n) w) := by
  have CA := Lib.hid (fun w h1 h2 => asked_any c lp lq hnp hnq Ap Aq cp cq w h1 h2)
  have CI := Lib.hid (fun w => within_any n 0 2000 w)
  have HE0 := Lib.hid (((Ext.refl w).alloc (.cells #[.int .i64 c.turns, .int .i64 c.shift, .int .i64 c.elastic, .int .i64 c.reach, .int .i64 c.spread] 38)).alloc (.cells #[.int .i64 0, .int .i64 0, .slice none 0 0, .slice none 0 0] 58))
  have HC0 := Lib.hid ((Blk.new w 38 #[.int .i64 c.turns, .int .i64 c.shift, .int .i64 c.elastic, .int .i64 c.reach, .int .i64 c.spread]).alloc (.cells #[.int .i64 0, .int .i64 0, .slice none 0 0, .slice none 0 0] 58))
  have HR0 := Lib.hid (Blk.new' (w.alloc (.cells #[.int .i64 c.turns, .int .i64 c.shift, .int .i64 c.elastic, .int .i64 c.reach, .int .i64 c.spread] 38)) 58 #[.int .i64 0, .int .i64 0, .slice none 0 0, .slice none 0 0] (w.heap.size + 1) (by simp))
  have HP := Lib.hid (hP.grow HE0.out)
  have HQ := Lib.hid (hQ.grow HE0.out)
  clear hP hQ
  by_cases h0 : askE c lp lq = 0
  · obtain ⟨a1, a2, hc⟩ := askE_ok h0
    obtain ⟨hpo, -⟩ := okP_ok a1 hp
    obtain ⟨hqo, -⟩ := okP_ok a2 hq
    rw [h0] at CA
    cases h1 : inB n 0 2000
    · rw [h1] at CI
      have HV := Lib.hid (show bestE c lp lq n = 2 by unfold bestE; rw [if_pos h0, h1]; rfl)
      have HS := Lib.hid (show bestS c lp lq n = ⟨[], []⟩ by unfold bestS; rw [HV.out]; rfl)
      clear h0 h1 a1 a2 hc hpo hqo
      go_enter Try.func33, Try.ntmps33
      go_wp2_with fail
      generalize (w.alloc (.cells #[.int .i64 c.turns, .int .i64 c.shift, .int .i64 c.elastic, .int .i64 c.reach, .int .i64 c.spread] 38)).alloc (.cells #[.int .i64 0, .int .i64 0, .slice none 0 0, .slice none 0 0] 58) = V at *
      have c0 : V.cell? ⟨w.heap.size, 0, none⟩ = some (.int .i64 c.turns) := HC0.out.cell 0
      have c1 : V.cell? ⟨w.heap.size, 1, none⟩ = some (.int .i64 c.shift) := HC0.out.cell 1
      have c2 : V.cell? ⟨w.heap.size, 2, none⟩ = some (.int .i64 c.elastic) := HC0.out.cell 2
      have c3 : V.cell? ⟨w.heap.size, 3, none⟩ = some (.int .i64 c.reach) := HC0.out.cell 3
      have c4 : V.cell? ⟨w.heap.size, 4, none⟩ = some (.int .i64 c.spread) := HC0.out.cell 4
      have z0 : V.cell? ⟨w.heap.size + 1, 0, none⟩ = some (.int .i64 0) := HR0.out.cell 0
      have z1 : V.cell? ⟨w.heap.size + 1, 1, none⟩ = some (.int .i64 0) := HR0.out.cell 1
      have z2 : V.cell? ⟨w.heap.size + 1, 2, none⟩ = some (.slice none 0 0) := HR0.out.cell 2
      have z3 : V.cell? ⟨w.heap.size + 1, 3, none⟩ = some (.slice none 0 0) := HR0.out.cell 3
      have zf := HR0.out.frozen
      have oC := Old.mk HC0.out.lt
      have oR := Old.mk HR0.out.lt
      refine Calls.ext (CA.out _ HP.out HQ.out) fun y1 => ?_
      go_wp2_with fail
      refine Calls.same (CI.out _) ?_
      go_wp2_with fail
      have HB := Lib.hid (store_four (HR0.out.ext y1) rfl (.int .i64 0) (.int .i64 0) (.slice none 0 0) (.slice none 0 0))
      have HEf := Lib.hid ((HE0.out.ext y1).four (g := w.heap.size + 1) (by omega) (.int .i64 0) (.int .i64 0) (.slice none 0 0) (.slice none 0 0))
      generalize ((((ext V y1).setCell ⟨w.heap.size + 1, 0, none⟩ (.int .i64 0)).setCell ⟨w.heap.size + 1, 1, none⟩ (.int .i64 0)).setCell ⟨w.heap.size + 1, 2, none⟩ (.slice none 0 0)).setCell ⟨w.heap.size + 1, 3, none⟩ (.slice none 0 0) = Wf at *
      have q0 : Wf.cell? ⟨w.heap.size + 1, 0, none⟩ = some (.int .i64 0) := HB.out.cell 0
      have q1 : Wf.cell? ⟨w.heap.size + 1, 1, none⟩ = some (.int .i64 0) := HB.out.cell 1
      have q2 : Wf.cell? ⟨w.heap.size + 1, 2, none⟩ = some (.slice none 0 0) := HB.out.cell 2
      have q3 : Wf.cell? ⟨w.heap.size + 1, 3, none⟩ = some (.slice none 0 0) := HB.out.cell 3
      refine bodyPost_ret (v := .tuple #[.agg #[.int .i64 0, .int .i64 0, .slice none 0 0, .slice none 0 0], .int .i64 2]) (by simp [results, Try.results33, go_sem, q0, q1, q2, q3]) rfl ?_
      rw [HS.out, HV.out]
      exact ⟨none, 0, none, 0, rfl, .inl rfl, .inl rfl, HEf.out⟩
    · rw [h1] at CI
      have HV := Lib.hid (show bestE c lp lq n = 0 by unfold bestE; rw [if_pos h0, h1]; rfl)
      have hn := inB_iff.1 h1
      obtain ⟨N, rfl⟩ : ∃ N : Nat, n = N := ⟨n.toNat, by omega⟩
      have HS := Lib.hid (show bestS c lp lq N = runS (bndK c lp lq) (trK c lp lq) N (startS (bndK c lp lq) c) by unfold bestS; rw [HV.out, if_pos rfl]; rfl)
      have CS := Lib.hid (fun w => searched_any c hc lp lq N (by omega) hpo hqo hnp hnq Ap Aq cp cq w)
      generalize runS (bndK c lp lq) (trK c lp lq) N (startS (bndK c lp lq) c) = s at *
      clear h0 h1 a1 a2 hc hpo hqo hn
      go_enter Try.func33, Try.ntmps33
      go_wp2_with fail
      generalize (w.alloc (.cells #[.int .i64 c.turns, .int .i64 c.shift, .int .i64 c.elastic, .int .i64 c.reach, .int .i64 c.spread] 38)).alloc (.cells #[.int .i64 0, .int .i64 0, .slice none 0 0, .slice none 0 0] 58) = V at *
      have c0 : V.cell? ⟨w.heap.size, 0, none⟩ = some (.int .i64 c.turns) := HC0.out.cell 0
      have c1 : V.cell? ⟨w.heap.size, 1, none⟩ = some (.int .i64 c.shift) := HC0.out.cell 1
      have c2 : V.cell? ⟨w.heap.size, 2, none⟩ = some (.int .i64 c.elastic) := HC0.out.cell 2
      have c3 : V.cell? ⟨w.heap.size, 3, none⟩ = some (.int .i64 c.reach) := HC0.out.cell 3
      have c4 : V.cell? ⟨w.heap.size, 4, none⟩ = some (.int .i64 c.spread) := HC0.out.cell 4
      have z0 : V.cell? ⟨w.heap.size + 1, 0, none⟩ = some (.int .i64 0) := HR0.out.cell 0
      have z1 : V.cell? ⟨w.heap.size + 1, 1, none⟩ = some (.int .i64 0) := HR0.out.cell 1
      have z2 : V.cell? ⟨w.heap.size + 1, 2, none⟩ = some (.slice none 0 0) := HR0.out.cell 2
      have z3 : V.cell? ⟨w.heap.size + 1, 3, none⟩ = some (.slice none 0 0) := HR0.out.cell 3
      have zf := HR0.out.frozen
      have oC := Old.mk HC0.out.lt
      have oR := Old.mk HR0.out.lt
      refine Calls.ext (CA.out _ HP.out HQ.out) fun y1 => ?_
      go_wp2_with fail
      refine Calls.same (CI.out _) ?_
      go_wp2_with fail
      have CS2 := Lib.hid (CS.out (ext V y1) (HP.out.grow (Ext.ext_self V y1)) (HQ.out.grow (Ext.ext_self V y1)))
      refine call_a CS2.out fun A1 c1 A2 c2 y2 hA hL => ?_
      have HA := Lib.hid hA
      have HL := Lib.hid hL
      clear hA hL
      obtain ⟨sc, hsc⟩ : ∃ sc, sc = scoreS s := ⟨_, rfl⟩
      obtain ⟨bd, hbd⟩ : ∃ bd, bd = boundS s := ⟨_, rfl⟩
      rw [← hsc, ← hbd]
      have HSB := Lib.hid (And.intro hsc hbd)
      clear hsc hbd
      go_wp2_with fail
      have HR1 := Lib.hid ((HR0.out.ext y1).ext y2)
      have HB := Lib.hid (store_four HR1.out rfl (.int .i64 sc) (.int .i64 bd) (.slice A1 s.att.length c1) (.slice A2 s.left.length c2))
      have HEf := Lib.hid (((HE0.out.ext y1).ext y2).four (g := w.heap.size + 1) (by omega) (.int .i64 sc) (.int .i64 bd) (.slice A1 s.att.length c1) (.slice A2 s.left.length c2))
      have HAf := Lib.hid (Sl.small4 at_len HA.out HR1.out (by decide) (.int .i64 sc) (.int .i64 bd) (.slice A1 s.att.length c1) (.slice A2 s.left.length c2))
      have HLf := Lib.hid (Sl.small4 rs_len HL.out HR1.out (by decide) (.int .i64 sc) (.int .i64 bd) (.slice A1 s.att.length c1) (.slice A2 s.left.length c2))
      generalize ((((ext (ext V y1) y2).setCell ⟨w.heap.size + 1, 0, none⟩ (.int .i64 sc)).setCell ⟨w.heap.size + 1, 1, none⟩ (.int .i64 bd)).setCell ⟨w.heap.size + 1, 2, none⟩ (.slice A1 s.att.length c1)).setCell ⟨w.heap.size + 1, 3, none⟩ (.slice A2 s.left.length c2) = Wf at *
      have q0 : Wf.cell? ⟨w.heap.size + 1, 0, none⟩ = some (.int .i64 sc) := HB.out.cell 0
      have q1 : Wf.cell? ⟨w.heap.size + 1, 1, none⟩ = some (.int .i64 bd) := HB.out.cell 1
      have q2 : Wf.cell? ⟨w.heap.size + 1, 2, none⟩ = some (.slice A1 s.att.length c1) := HB.out.cell 2
      have q3 : Wf.cell? ⟨w.heap.size + 1, 3, none⟩ = some (.slice A2 s.left.length c2) := HB.out.cell 3
      refine bodyPost_ret (v := .tuple #[.agg #[.int .i64 sc, .int .i64 bd, .slice A1 s.att.length c1, .slice A2 s.left.length c2], .int .i64 0]) (by simp [results, Try.results33, go_sem, q0, q1, q2, q3]) rfl ?_
      rw [HS.out, HV.out]
      obtain ⟨hsc, hbd⟩ := HSB.out
      rw [hsc, hbd]
      exact ⟨A1, c1, A2, c2, rfl, HAf.out, HLf.out, HEf.out⟩
  · obtain ⟨x, hx, hx2⟩ := ask_err h0
    have HV := Lib.hid (show bestE c lp lq n = x from by unfold bestE; rw [if_neg h0, hx])
    rw [hx] at CA
    have HS := Lib.hid (show bestS c lp lq n = ⟨[], []⟩ by
      unfold bestS
      rw [HV.out]
      rcases hx2 with rfl | rfl <;> rfl)
    clear h0 hx
    have hxn : (x != 0) = true := by rcases hx2 with rfl | rfl <;> rfl
    go_enter Try.func33, Try.ntmps33
    go_wp2_with fail
    generalize (w.alloc (.cells #[.int .i64 c.turns, .int .i64 c.shift, .int .i64 c.elastic, .int .i64 c.reach, .int .i64 c.spread] 38)).alloc (.cells #[.int .i64 0, .int .i64 0, .slice none 0 0, .slice none 0 0] 58) = V at *
    have c0 : V.cell? ⟨w.heap.size, 0, none⟩ = some (.int .i64 c.turns) := HC0.out.cell 0
    have c1 : V.cell? ⟨w.heap.size, 1, none⟩ = some (.int .i64 c.shift) := HC0.out.cell 1
    have c2 : V.cell? ⟨w.heap.size, 2, none⟩ = some (.int .i64 c.elastic) := HC0.out.cell 2
    have c3 : V.cell? ⟨w.heap.size, 3, none⟩ = some (.int .i64 c.reach) := HC0.out.cell 3
    have c4 : V.cell? ⟨w.heap.size, 4, none⟩ = some (.int .i64 c.spread) := HC0.out.cell 4
    have z0 : V.cell? ⟨w.heap.size + 1, 0, none⟩ = some (.int .i64 0) := HR0.out.cell 0
    have z1 : V.cell? ⟨w.heap.size + 1, 1, none⟩ = some (.int .i64 0) := HR0.out.cell 1
    have z2 : V.cell? ⟨w.heap.size + 1, 2, none⟩ = some (.slice none 0 0) := HR0.out.cell 2
    have z3 : V.cell? ⟨w.heap.size + 1, 3, none⟩ = some (.slice none 0 0) := HR0.out.cell 3
    have zf := HR0.out.frozen
    have oC := Old.mk HC0.out.lt
    have oR := Old.mk HR0.out.lt
    refine Calls.ext (CA.out _ HP.out HQ.out) fun y1 => ?_
    go_wp2_with fail

    have HB := Lib.hid (store_four (HR0.out.ext y1) rfl (.int .i64 0) (.int .i64 0) (.slice none 0 0) (.slice none 0 0))
    have HEf := Lib.hid ((HE0.out.ext y1).four (g := w.heap.size + 1) (by omega) (.int .i64 0) (.int .i64 0) (.slice none 0 0) (.slice none 0 0))
    generalize ((((ext V y1).setCell ⟨w.heap.size + 1, 0, none⟩ (.int .i64 0)).setCell ⟨w.heap.size + 1, 1, none⟩ (.int .i64 0)).setCell ⟨w.heap.size + 1, 2, none⟩ (.slice none 0 0)).setCell ⟨w.heap.size + 1, 3, none⟩ (.slice none 0 0) = Wf at *
    have q0 : Wf.cell? ⟨w.heap.size + 1, 0, none⟩ = some (.int .i64 0) := HB.out.cell 0
    have q1 : Wf.cell? ⟨w.heap.size + 1, 1, none⟩ = some (.int .i64 0) := HB.out.cell 1
    have q2 : Wf.cell? ⟨w.heap.size + 1, 2, none⟩ = some (.slice none 0 0) := HB.out.cell 2
    have q3 : Wf.cell? ⟨w.heap.size + 1, 3, none⟩ = some (.slice none 0 0) := HB.out.cell 3
    refine bodyPost_ret (v := .tuple #[.agg #[.int .i64 0, .int .i64 0, .slice none 0 0, .slice none 0 0], .int .i64 x]) (by simp [results, Try.results33, go_sem, q0, q1, q2, q3]) rfl ?_
    rw [HS.out, HV.out]
    exact ⟨none, 0, none, 0, rfl, .inl rfl, .inl rfl, HEf.out⟩
end Go.Proofs.Ythejomcibobieaa
