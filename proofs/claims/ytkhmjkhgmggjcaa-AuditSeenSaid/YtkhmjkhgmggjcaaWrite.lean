/- slices.Clone and audit.Write: what they return. -/
import Derived.Test.YtkhmjkhgmggjcaaTips
import Derived.Test.YtkhmjkhgmggjcaaSlices
import Derived.WalkSpells
namespace Go.Proofs.Ytkhmjkhgmggjcaa
open Go.RowKit

def E.cellsL (x : E) : List Value := [.int .i64 x.time, .int .i64 x.kind, .int .i64 x.person, .int .u64 x.detail, .int .u64 x.salt, .int .u64 x.seal_, .int .u64 x.link]
def flat (l : List E) : List Value := l.flatMap E.cellsL
theorem flat_nil : flat [] = [] := rfl
theorem flat_append (l m : List E) : flat (l ++ m) = flat l ++ flat m := by simp [flat]
theorem flat_one (x : E) : flat [x] = x.cellsL := by simp [flat]
theorem flat_length (l : List E) : (flat l).length = l.length * 7 := by
  induction l with
  | nil => rfl
  | cons x r ih => simp only [flat, List.flatMap_cons, List.length_append] at ih ⊢; rw [ih]; simp [E.cellsL]; omega
theorem flat_at (l : List E) (k : Nat) (x : E) (h : l[k]? = some x) (j : Nat) (hj : j < 7) : (flat l)[k * 7 + j]? = x.cellsL[j]? := by
  induction l generalizing k with
  | nil => simp at h
  | cons y r ih =>
    have hy : y.cellsL.length = 7 := rfl
    simp only [flat, List.flatMap_cons] at ih ⊢
    cases k with
    | zero =>
      have : y = x := by simpa using h
      subst this
      rw [Nat.zero_mul, Nat.zero_add, List.getElem?_append_left (by rw [hy]; exact hj)]
    | succ k =>
      rw [List.getElem?_append_right (by rw [hy]; omega), hy, show (k + 1) * 7 + j - 7 = k * 7 + j by omega]
      exact ih k (by simpa using h)
theorem flat_one' (l : List E) : ∀ u ∈ flat l, u.oneCell' = true := by
  intro u hu
  obtain ⟨x, _, hx⟩ := List.mem_flatMap.1 hu
  simp only [E.cellsL, List.mem_cons, List.not_mem_nil, or_false] at hx
  rcases hx with rfl | rfl | rfl | rfl | rfl | rfl | rfl <;> rfl
theorem Log.slc {w : World} {A : Option Addr} {l : List E} (h : Log w A l) : Slc w 7 A l.length (flat l) := by
  refine ⟨flat_length l, fun hn => ?_⟩
  rcases h with rfl | ⟨b, off, rfl, hb, hc⟩
  · simp at hn
  · refine ⟨b, off, rfl, hb, fun j u hu => ?_⟩
    have hj : j < l.length * 7 := by rw [← flat_length]; exact (List.getElem?_eq_some_iff.1 hu).1
    have hk : j / 7 < l.length := by omega
    obtain ⟨c0, c1, c2, c3, c4, c5, c6⟩ := hc (j / 7) l[j / 7] (List.getElem?_eq_getElem hk)
    have h7 : j % 7 < 7 := Nat.mod_lt _ (by omega)
    have hu' := flat_at l (j / 7) l[j / 7] (List.getElem?_eq_getElem hk) (j % 7) h7
    rw [show j / 7 * 7 + j % 7 = j by omega, hu] at hu'
    have hcases : j % 7 = 0 ∨ j % 7 = 1 ∨ j % 7 = 2 ∨ j % 7 = 3 ∨ j % 7 = 4 ∨ j % 7 = 5 ∨ j % 7 = 6 := by omega
    rcases hcases with e | e | e | e | e | e | e <;> rw [e] at hu' <;> simp only [E.cellsL, List.getElem?_cons_zero, List.getElem?_cons_succ, Option.some.injEq] at hu' <;> subst hu'
    · rw [show off + j = off + j / 7 * 7 by omega]; exact c0
    · rw [show off + j = off + j / 7 * 7 + 1 by omega]; exact c1
    · rw [show off + j = off + j / 7 * 7 + 2 by omega]; exact c2
    · rw [show off + j = off + j / 7 * 7 + 3 by omega]; exact c3
    · rw [show off + j = off + j / 7 * 7 + 4 by omega]; exact c4
    · rw [show off + j = off + j / 7 * 7 + 5 by omega]; exact c5
    · rw [show off + j = off + j / 7 * 7 + 6 by omega]; exact c6
theorem Slc.log {w : World} {A : Option Addr} {l : List E} (h : Slc w 7 A l.length (flat l)) : Log w A l := by
  rcases l with _ | ⟨x0, r⟩
  · exact .inl rfl
  · obtain ⟨b, off, rfl, hb, hc⟩ := h.2 (by simp)
    refine .inr ⟨b, off, rfl, hb, fun k x hk => ?_⟩
    have := fun (j : Nat) (hj : j < 7) (u : Value) (hu : x.cellsL[j]? = some u) => hc (k * 7 + j) u ((flat_at _ k x hk j hj).trans hu)
    exact ⟨this 0 (by omega) _ rfl, this 1 (by omega) _ rfl, this 2 (by omega) _ rfl, this 3 (by omega) _ rfl, this 4 (by omega) _ rfl, this 5 (by omega) _ rfl, this 6 (by omega) _ rfl⟩

theorem infoE : ElemInfo Try.prog 39 54 7 56 := elemInfo Try.underlying39 (z := .agg #[.int .i64 0, .int .i64 0, .int .i64 0, .int .u64 0, .int .u64 0, .int .u64 0, .int .u64 0]) (by kernel_rfl) rfl (by omega)

set_option maxHeartbeats 400000 in
theorem clone_any (A : Option Addr) (c : Nat) (l : List E) (w : World) (hl : Log w A l) (hn : l.length ≤ 200) :
    Calls Try.prog 54 #[.slice A l.length c] w (RetS 54 7 l.length (flat l) w) := by
  rcases A with _ | ad
  · have h0 : l = [] := by
      rcases hl with h | ⟨b, off, h, _⟩
      · exact h
      · cases h
    subst h0
    have hq : ∀ W, (binOp .eql 39 (.slice none 0 c) (.slice none 0 0)).run Try.prog W = .ok (.bool true) W := fun W => Lib.run_eql_slice_nil W 39 54 none 0 c 0 0 Try.underlying39
    go_enter Try.func54, Try.ntmps54
    go_wp2_with fail
    go_ret
    exact ⟨none, 0, rfl, own_nil _ _ _ _, Ext.refl _⟩
  · have hs := hl.slc
    have hq : ∀ W, (binOp .eql 39 (.slice (some ad) l.length c) (.slice none 0 0)).run Try.prog W = .ok (.bool false) W := fun W => Lib.run_eql_slice_nil W 39 54 (some ad) l.length c 0 0 Try.underlying39
    go_enter Try.func54, Try.ntmps54
    go_wp2_with (at_builtin; refine wpList_append_ext rfl w ((Ext.refl w).alloc _) infoE (.tmp 5) (.tmp 6) rfl _ 0 [] rfl (own_empty 7 (Nat.le_refl _) (Blk.new w 54 #[])) (some ad) l.length c (flat l) rfl (hs.grow ((Ext.refl w).alloc _)) (flat_one' l) (by omega) (by omega) ?_; intro A' c' z hown)
    simp only [Nat.zero_add, List.nil_append] at hown
    go_ret
    exact ⟨A', c', by simp, hown, Ext.ext_self _ _⟩

def timeB (l : List E) (t : Int) : Bool := fromB (lastE l).time 1099511627776 t
/-- the arguments of Write are right -/
def wargB (l : List E) (t k p : Int) : Bool := fromB (lastE l).time 1099511627776 t && fromB 0 7 k && fromB 0 63 p
def newE (l : List E) (t k p d s : Int) : E := ⟨t, k, p, d, s, bits .xor .u64 d s, linkI (lastE l).link ⟨t, k, p, d, s, bits .xor .u64 d s, 0⟩⟩
/-- the log that Write returns, and its error -/
def writeL (l : List E) (t k p d s : Int) : List E := if okB l && wargB l t k p && !decide (l.length = 60) then l ++ [newE l t k p d s] else []
def writeI (l : List E) (t k p : Int) : Int := if okB l then if wargB l t k p then if l.length = 60 then 9 else 0 else 2 else 110

set_option maxRecDepth 100000 in
set_option maxHeartbeats 2000000 in
theorem write_any (A : Option Addr) (c : Nat) (l : List E) (t k p d s : Int) (w : World) (hl : Log w A l) (hn : l.length ≤ 100) :
    Calls Try.prog 28 #[.slice A l.length c, .int .i64 t, .int .i64 k, .int .i64 p, .int .u64 d, .int .u64 s] w (RetS2 54 7 (writeL l t k p d s).length (flat (writeL l t k p d s)) (.int .i64 (writeI l t k p)) w) := by
  cases hg : okB l
  · have Hv := Lib.hid (show writeL l t k p d s = [] ∧ writeI l t k p = 110 by simp [writeL, writeI, hg])
    have hck : checkI l = 110 := by simp [checkI_eq, hg]
    go_enter Try.func28, Try.ntmps28
    go_wp2_with (first | (go_at_call 30; refine Calls.ext (check_any A c l _ hl hn) fun z => ?_) | (go_at_call 48; refine Calls.ext (last_any A c l _ (hl.grow ((Ext.refl w).ext _)) hn) fun z => ?_))
    go_ret2
    rw [Hv.out.1, Hv.out.2]
    exact ⟨none, 0, rfl, own_nil _ _ _ _, (((Ext.refl w).ext _).ext _).alloc _⟩
  · have hck : checkI l = 0 := by simp [checkI_eq, hg]
    cases hw : wargB l t k p
    · have Hv := Lib.hid (show writeL l t k p d s = [] ∧ writeI l t k p = 2 by simp [writeL, writeI, hg, hw])
      have hw' : fromB (lastE l).time 1099511627776 t = false ∨ (fromB (lastE l).time 1099511627776 t = true ∧ fromB 0 7 k = false) ∨ (fromB (lastE l).time 1099511627776 t = true ∧ fromB 0 7 k = true ∧ fromB 0 63 p = false) := by
        unfold wargB at hw
        cases h1 : fromB (lastE l).time 1099511627776 t <;> cases h2 : fromB 0 7 k <;> cases h3 : fromB 0 63 p <;> simp_all
      clear hw
      rcases hw' with h1 | ⟨h1, h2⟩ | ⟨h1, h2, h3⟩
      all_goals
        go_enter Try.func28, Try.ntmps28
        go_wp2_with (first | (go_at_call 30; refine Calls.ext (check_any A c l _ hl hn) fun z => ?_) | (go_at_call 48; refine Calls.ext (last_any A c l _ (hl.grow ((Ext.refl w).ext _)) hn) fun z => ?_) | (go_at_call 51; refine Calls.same (from_any _ _ _ _) ?_))
        go_ret2
        rw [Hv.out.1, Hv.out.2]
        exact ⟨none, 0, rfl, own_nil _ _ _ _, (((Ext.refl w).ext _).ext _).alloc _⟩
    · obtain ⟨⟨h1, h2⟩, h3⟩ : (fromB (lastE l).time 1099511627776 t = true ∧ fromB 0 7 k = true) ∧ fromB 0 63 p = true := by simpa [wargB] using hw
      clear hw
      by_cases h60 : l.length = 60
      · have Hv := Lib.hid (show writeL l t k p d s = [] ∧ writeI l t k p = 9 by simp [writeL, writeI, hg, wargB, h1, h2, h3, h60])
        have h60' : ((l.length : Int) == 60) = true := by simp; omega
        clear h60
        go_enter Try.func28, Try.ntmps28
        go_wp2_with (first | (go_at_call 30; refine Calls.ext (check_any A c l _ hl hn) fun z => ?_) | (go_at_call 48; refine Calls.ext (last_any A c l _ (hl.grow ((Ext.refl w).ext _)) hn) fun z => ?_) | (go_at_call 51; refine Calls.same (from_any _ _ _ _) ?_))
        go_ret2
        rw [Hv.out.1, Hv.out.2]
        exact ⟨none, 0, rfl, own_nil _ _ _ _, (((Ext.refl w).ext _).ext _).alloc _⟩
      · have Hv := Lib.hid (show writeL l t k p d s = l ++ [newE l t k p d s] ∧ writeI l t k p = 0 by simp [writeL, writeI, hg, wargB, h1, h2, h3, h60])
        have h60' : ((l.length : Int) == 60) = false := by simp; omega
        clear h60
        go_enter Try.func28, Try.ntmps28
        go_wp2_with (first | (go_at_call 30; refine Calls.ext (check_any A c l _ hl hn) fun z1 => ?_) | (go_at_call 48; refine Calls.ext (last_any A c l _ (hl.grow ((Ext.refl w).ext _)) hn) fun z2 => ?_) | (go_at_call 51; refine Calls.same (from_any _ _ _ _) ?_))
        refine Calls.ext (linked_any (lastE l).link ⟨t, k, p, d, s, bits .xor .u64 d s, 0⟩ _) fun z3 => ?_
        go_wp2_with fail
        refine wp_abs w (fun W => Blk W ((ext (ext w z1) z2).heap.size + 1) 54 (newE l t k p d s).cells) ?_ ?_ (fun z4 hB => ?_)
        · repeat' (first | with_reducible exact Ext.refl _ | with_reducible refine Ext.alloc ?_ _ | with_reducible refine Ext.ext ?_ _ | with_reducible refine Ext.setCell ?_ (by have := ext_size w z1; have := ext_size (ext w z1) z2; simp; omega) _)
        · have hb0 := Blk.new (((ext (ext w z1) z2)).alloc (.cells #[.int .i64 (lastE l).time, .int .i64 (lastE l).kind, .int .i64 (lastE l).person, .int .u64 (lastE l).detail, .int .u64 (lastE l).salt, .int .u64 (lastE l).seal_, .int .u64 (lastE l).link] 54)) 54 #[.int .i64 t, .int .i64 k, .int .i64 p, .int .u64 d, .int .u64 s, .int .u64 (bits .xor .u64 d s), .int .u64 0]
          have hb1 := (hb0.ext z3).set_ 6 (.int .u64 (linkI (lastE l).link ⟨t, k, p, d, s, bits .xor .u64 d s, 0⟩))
          simpa [newE, E.cells] using hb1
        have hBw := Old.mk hB.lt
        generalize (ext (ext w z1) z2).heap.size + 1 = B at *
        have HL := Lib.hid (hl.grow (Ext.ext_self w z4))
        generalize hy : newE l t k p d s = y at *
        have hB1 := hB.cell
        simp only [E.cells] at hB1
        have e0 := hB1 0
        have e1 := hB1 1
        have e2 := hB1 2
        have e3 := hB1 3
        have e4 := hB1 4
        have e5 := hB1 5
        have e6 := hB1 6
        simp only [List.getElem?_toArray, List.getElem?_cons_zero, List.getElem?_cons_succ] at e0 e1 e2 e3 e4 e5 e6
        clear hB1 hy hl
        have HB := Lib.hid hB
        clear hB
        have HW := Lib.hid (Ext.ext_self w z4)
        generalize ext w z4 = W at *
        go_region_law (first
          | (refine step_append_ext rfl W (by repeat' (first | with_reducible exact Ext.refl _ | with_reducible refine Ext.alloc ?_ _ | with_reducible refine Ext.ext ?_ _ | with_reducible refine Ext.drew ?_)) infoE (.tmp 60) (.tmp 62) rfl (.slice A1 l.length c1) l.length (flat l) rfl (by first | exact own_mono (own_grow hown1 ((Ext.refl _).alloc _)) (by simp) | exact own_mono hown1 (by simp)) _ 1 1 y.cells.toList rfl (by first | exact Slc.of_blk (Blk.new _ 54 y.cells) rfl | exact Slc.of_blk ((Blk.new W 54 y.cells).drew.ext _) rfl) (by simp [Value.oneCell']) (by omega) (by omega) ?_
             intro A2 c2 z6 hown2)
          | (refine step_call_slice rfl 54 [.tmp 59] #[39] rfl (by kernel_rfl) [.slice A l.length c] rfl (clone_any A c l _ (by exact HL.out.grow (by repeat' (first | with_reducible exact Ext.refl _ | with_reducible refine Ext.alloc ?_ _ | with_reducible refine Ext.ext ?_ _ | with_reducible refine Ext.drew ?_))) (by omega)) ?_
             intro A1 c1 z5 hown1))
        all_goals
          go_wp2_with fail
          go_ret2
          rw [Hv.out.1, Hv.out.2]
          refine ⟨A2, c2, ?_, ?_, HW.out.ext _⟩
          · rw [List.length_append]; rfl
          · have h3 := own_mono hown2 HW.out.size
            rw [flat_append, flat_one, List.length_append]
            exact h3
end Go.Proofs.Ytkhmjkhgmggjcaa
