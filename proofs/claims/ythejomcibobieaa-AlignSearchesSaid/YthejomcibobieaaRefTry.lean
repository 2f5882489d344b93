/- The reference's attempt of a move (Bends 41, Tried 57). -/
import Derived.Test.YthejomcibobieaaTries
namespace Go.Proofs.Ythejomcibobieaa
open Go.RowKit

def bdAt (i : Nat) : Bd := ⟨(i : Int) / 27 - 1, (i : Int) / 9 % 3 - 1, (i : Int) / 3 % 3 - 1, (i : Int) % 3 - 1⟩
def bendsK (E : Nat) (k : Nat) : List Bd := ((List.range k).map bdAt).filter fun b => isBend E b.f
theorem bends_eq0 : bendsK 0 81 = growL 0 4 0 bd0 := by kernel_rfl
theorem bends_eq1 : bendsK 1 81 = growL 1 4 0 bd0 := by kernel_rfl
theorem bends_eq (E : Nat) (h : E ≤ 1) : bendsK E 81 = growL E 4 0 bd0 := by
  rcases (show E = 0 ∨ E = 1 by omega) with rfl | rfl
  · exact bends_eq0
  · exact bends_eq1
theorem bends_len (E : Nat) (h : E ≤ 1) : 1 ≤ (bendsK E 81).length ∧ (bendsK E 81).length ≤ 81 := by
  rcases (show E = 0 ∨ E = 1 by omega) with rfl | rfl <;> decide +kernel
theorem bendsK_succ (E k : Nat) : bendsK E (k + 1) = bendsK E k ++ if isBend E (bdAt k).f then [bdAt k] else [] := by
  unfold bendsK
  rw [List.range_succ, List.map_append, List.filter_append]
  congr 1
  simp only [List.map_cons, List.map_nil, List.filter_cons, List.filter_nil]
def bdCells (l : List Bd) : List Value := l.flatMap fun b => [.int .i64 b.a, .int .i64 b.b, .int .i64 b.c, .int .i64 b.d]
theorem infoB : ElemInfo Try.prog 80 28 4 32 := elemInfo (z := .agg #[.int .i64 0, .int .i64 0, .int .i64 0, .int .i64 0]) Try.underlying80 (by kernel_rfl) rfl (by decide)
theorem bendsK_len (E k : Nat) : (bendsK E k).length ≤ k := by
  have := List.length_filter_le (fun b : Bd => isBend E b.f) ((List.range k).map bdAt)
  simpa [bendsK] using this
set_option maxRecDepth 100000 in
set_option maxHeartbeats 4000000 in
theorem refBends_any (c : Cl) (E : Nat) (hE : E ≤ 1) (hc : c.elastic = E) (w : World) :
    Calls Try.prog 41 #[c.val] w (RetS 28 4 (bendsK E 81).length (bdCells (bendsK E 81)) w) := by
  have HB := Lib.hid (fun (b : Bd) w => isBend_any c b.f (by omega) w)
  rw [hc] at HB
  have HC := Lib.hid hc
  clear hc
  go_enter Try.func41, Try.ntmps41
  go_wp2_with fail
  have HX := Lib.hid (Blk.new w 38 #[.int .i64 c.turns, .int .i64 c.shift, .int .i64 c.elastic, .int .i64 c.reach, .int .i64 c.spread])
  have HE := Lib.hid ((Ext.refl w).alloc (.cells #[.int .i64 c.turns, .int .i64 c.shift, .int .i64 c.elastic, .int .i64 c.reach, .int .i64 c.spread] 38))
  generalize w.alloc (.cells #[.int .i64 c.turns, .int .i64 c.shift, .int .i64 c.elastic, .int .i64 c.reach, .int .i64 c.spread] 38) = V at *
  go_loopw [3, 4, 5] (fun s t _ wr => ∃ (k : Nat) (uv : Value), uv = s ∧ k ≤ 81 ∧ t = .int .i64 k ∧ wr.ownsRow V.heap.size 28 4 s (bendsK E k).length (bdCells (bendsK E k)) ∧ Ext V wr) (fun _ t _ _ => 81 - (intOf t).toNat)
  case atStart => exact ⟨0, _, rfl, by omega, rfl, own_nil _ _ _ _, Ext.refl _⟩
  case round =>
    obtain ⟨k, uv, rfl, hk, rfl, hown, hE2⟩ := hrel
    have HOwn := Lib.hid hown
    have HE2 := Lib.hid hE2
    have bX := HX.out.grow hE2
    have c0 : wr.cell? ⟨w.heap.size, 0, none⟩ = some (.int .i64 c.turns) := bX.cell 0
    have c1 : wr.cell? ⟨w.heap.size, 1, none⟩ = some (.int .i64 c.shift) := bX.cell 1
    have c2 : wr.cell? ⟨w.heap.size, 2, none⟩ = some (.int .i64 c.elastic) := bX.cell 2
    have c3 : wr.cell? ⟨w.heap.size, 3, none⟩ = some (.int .i64 c.reach) := bX.cell 3
    have c4 : wr.cell? ⟨w.heap.size, 4, none⟩ = some (.int .i64 c.spread) := bX.cell 4
    have oX := Old.mk bX.lt
    clear hown hE2 bX
    by_cases hk81 : k < 81
    · have hki : (k : Int) < 81 := by omega
      go_wp2_with fail
      have e1 : (k : Int) / 27 - 1 = (bdAt k).a := rfl
      have e2 : (k : Int) / 9 % 3 - 1 = (bdAt k).b := rfl
      have e3 : (k : Int) / 3 % 3 - 1 = (bdAt k).c := rfl
      have e4 : (k : Int) % 3 - 1 = (bdAt k).d := rfl
      rw [e1, e2, e3, e4]
      clear e1 e2 e3 e4
      have HS := Lib.hid (bendsK_succ E k)
      have hle := bendsK_len E k
      generalize bdAt k = b at *
      cases hb : isBend E b.f
      · have HV := Lib.hid (show bendsK E (k + 1) = bendsK E k from by rw [HS.out, hb]; simp)
        refine Calls.ext (hb ▸ HB.out b _) fun z => ?_
        go_wp2_with fail
        have hE3 := ((Ext.refl wr).alloc (.cells #[.int .i64 b.a, .int .i64 b.b, .int .i64 b.c, .int .i64 b.d] 28)).ext z
        exact ⟨⟨k + 1, _, rfl, by omega, by go_num, by rw [HV.out]; exact own_grow HOwn.out hE3, HE2.out.trans hE3⟩, by simp [intOf]; omega⟩
      · have HV := Lib.hid (show bendsK E (k + 1) = bendsK E k ++ [b] from by rw [HS.out, hb]; simp)
        refine Calls.ext (hb ▸ HB.out b _) fun z => ?_
        have hE3 := ((Ext.refl wr).alloc (.cells #[.int .i64 b.a, .int .i64 b.b, .int .i64 b.c, .int .i64 b.d] 28)).ext z
        have HE3 := Lib.hid (HE2.out.trans hE3)
        have HOwn2 := Lib.hid (own_grow HOwn.out hE3)
        have HN := Lib.hid (((Blk.new wr 28 #[.int .i64 b.a, .int .i64 b.b, .int .i64 b.c, .int .i64 b.d])).ext z)
        have x0 : (ext (wr.alloc (.cells #[.int .i64 b.a, .int .i64 b.b, .int .i64 b.c, .int .i64 b.d] 28)) z).cell? ⟨wr.heap.size, 0, none⟩ = some (.int .i64 b.a) := HN.out.cell 0
        have x1 : (ext (wr.alloc (.cells #[.int .i64 b.a, .int .i64 b.b, .int .i64 b.c, .int .i64 b.d] 28)) z).cell? ⟨wr.heap.size, 1, none⟩ = some (.int .i64 b.b) := HN.out.cell 1
        have x2 : (ext (wr.alloc (.cells #[.int .i64 b.a, .int .i64 b.b, .int .i64 b.c, .int .i64 b.d] 28)) z).cell? ⟨wr.heap.size, 2, none⟩ = some (.int .i64 b.c) := HN.out.cell 2
        have x3 : (ext (wr.alloc (.cells #[.int .i64 b.a, .int .i64 b.b, .int .i64 b.c, .int .i64 b.d] 28)) z).cell? ⟨wr.heap.size, 3, none⟩ = some (.int .i64 b.d) := HN.out.cell 3
        clear hE3 HE2 HOwn
        generalize ext (wr.alloc (.cells #[.int .i64 b.a, .int .i64 b.b, .int .i64 b.c, .int .i64 b.d] 28)) z = W2 at *
        go_wp2_with (at_builtin; refine wpList_append_ext rfl V (by exact HE3.out.alloc _) infoB (.tmp 28) (.tmp 30) rfl _ (bendsK E k).length (bdCells (bendsK E k)) rfl (by exact own_grow HOwn2.out ((Ext.refl _).alloc _)) _ 1 1 [.int .i64 b.a, .int .i64 b.b, .int .i64 b.c, .int .i64 b.d] rfl (Slc.of_blk (cs := #[.int .i64 b.a, .int .i64 b.b, .int .i64 b.c, .int .i64 b.d]) (t := 28) (Blk.new W2 28 #[.int .i64 b.a, .int .i64 b.b, .int .i64 b.c, .int .i64 b.d]) rfl) (by simp [Value.oneCell']) (by omega) (by omega) ?_; intro A2 c2 z3 hown2)
        refine ⟨⟨k + 1, _, rfl, by omega, by go_num, ?_, Ext.ext_self V z3⟩, by simp [intOf]; omega⟩
        have el : (bendsK E (k + 1)).length = (bendsK E k).length + 1 := by rw [HV.out]; simp
        have ec : bdCells (bendsK E (k + 1)) = bdCells (bendsK E k) ++ [.int .i64 b.a, .int .i64 b.b, .int .i64 b.c, .int .i64 b.d] := by rw [HV.out]; simp [bdCells]
        rw [el, ec]
        exact hown2
    · obtain rfl : k = 81 := by omega
      obtain ⟨A3, c3, rfl⟩ := own_slice HOwn.out
      go_wp2_with fail
      go_ret
      exact ⟨A3, c3, rfl, own_mono HOwn.out (HE.out.size), HE.out.trans HE2.out⟩
theorem bdCells_at : ∀ (l : List Bd) (j : Nat) (b : Bd), l[j]? = some b → (bdCells l)[j * 4]? = some (.int .i64 b.a) ∧ (bdCells l)[j * 4 + 1]? = some (.int .i64 b.b) ∧ (bdCells l)[j * 4 + 2]? = some (.int .i64 b.c) ∧ (bdCells l)[j * 4 + 3]? = some (.int .i64 b.d) := by
  intro l
  induction l with
  | nil => intro j b h; simp at h
  | cons x l ih =>
    intro j b h
    cases j with
    | zero =>
      simp only [List.getElem?_cons_zero, Option.some.injEq] at h
      subst h
      exact ⟨rfl, rfl, rfl, rfl⟩
    | succ j =>
      simp only [List.getElem?_cons_succ] at h
      have e : ∀ k : Nat, (bdCells (x :: l))[k + 4]? = (bdCells l)[k]? := fun k => rfl
      have h4 := ih j b h
      have a0 : (j + 1) * 4 = j * 4 + 4 := by omega
      have a1 : (j + 1) * 4 + 1 = (j * 4 + 1) + 4 := by omega
      have a2 : (j + 1) * 4 + 2 = (j * 4 + 2) + 4 := by omega
      have a3 : (j + 1) * 4 + 3 = (j * 4 + 3) + 4 := by omega
      rw [a1, a2, a3, a0, e, e, e, e]
      exact h4
theorem tried_eq (f : Bd → Int) (v : Mv) (b : Bd) (l : List Bd) (h : -1 < f b) : (b :: l).foldl (stepT f) ⟨v, b, -1⟩ = tryL f v (b :: l) := by
  unfold tryL
  simp only [List.foldl_cons]
  congr 1
  unfold stepT
  rw [if_pos h, if_pos h]
/-- one way out -/
def onlyQ (F : Act) (W : World) : Exit → Act → World → Prop
  | .normal, a, w => a = F ∧ w = W
  | _, _, _ => False
/-- the best of the first k bends -/
def tryK (f : Bd → Int) (v : Mv) (b : Bd) (l : List Bd) (k : Nat) : At := (l.take k).foldl (stepT f) ⟨v, b, -1⟩
theorem tryK_succ {f : Bd → Int} {v : Mv} {b x : Bd} {l : List Bd} {k : Nat} (h : l[k]? = some x) : tryK f v b l (k + 1) = stepT f (tryK f v b l k) x := by
  have hk : k < l.length := by
    rcases Nat.lt_or_ge k l.length with h1 | h1
    · exact h1
    · rw [List.getElem?_eq_none h1] at h; cases h
  unfold tryK
  rw [List.take_succ_eq_append_getElem hk, List.foldl_append]
  rw [List.getElem?_eq_getElem hk] at h
  injection h with h
  rw [h]; rfl
set_option maxRecDepth 100000 in
set_option maxHeartbeats 4000000 in
theorem tried_any (c : Cl) (hc : c.ok) (lp lq : List Mi) (v : Mv) (hp : ∀ m ∈ lp, m.ok) (hq : ∀ m ∈ lq, m.ok) (ht : -3 ≤ v.turn ∧ v.turn ≤ 3) (hdx : -4 ≤ v.dx ∧ v.dx ≤ 4) (hdy : -4 ≤ v.dy ∧ v.dy ≤ 4) (hnp : lp.length ≤ 100) (hnq : lq.length ≤ 100) (Ap Aq : Option Addr) (cp cq : Nat) (w : World) (hP : Pts w Ap lp) (hQ : Pts w Aq lq) :
    Calls Try.prog 57 #[.slice Ap lp.length cp, .slice Aq lq.length cq, c.val, v.val] w fun e w' => e = .returned (tryL (fun b => scrK c lp lq v b.f) v (growL c.elastic.toNat 4 0 bd0)).val ∧ Ext w w' := by
  obtain ⟨E, hE⟩ : ∃ E : Nat, c.elastic = E := ⟨c.elastic.toNat, by have := hc.elastic; omega⟩
  have hE1 : E ≤ 1 := by have := hc.elastic; omega
  have hEn : c.elastic.toNat = E := by omega
  have HRB := Lib.hid (fun w => refBends_any c E hE1 hE w)
  rw [hEn, ← bends_eq E hE1]
  have hl := bends_len E hE1
  obtain ⟨f, hf⟩ : ∃ f : Bd → Int, f = fun b => scrK c lp lq v b.f := ⟨_, rfl⟩
  have hf0 : ∀ b, -1 < f b := fun b => by rw [hf]; show (-1 : Int) < scrK c lp lq v b.f; unfold scrK; omega
  have hX : ∀ x ∈ bendsK E 81, ∀ j, j < 4 → -1 ≤ x.f j ∧ x.f j ≤ 1 := fun x hx => by
    have := (List.mem_filter.1 hx).2
    exact bend_in (by omega) this
  obtain ⟨L, hL⟩ : ∃ L, bendsK E 81 = L := ⟨_, rfl⟩
  rw [hL] at HRB hl hX ⊢
  have CS := Lib.hid (show ∀ (b : Bd), b ∈ L → ∀ w, Pts w Ap lp → Pts w Aq lq → Calls Try.prog 55 #[.slice Ap lp.length cp, .slice Aq lq.length cq, c.val, v.val, .agg b.cells] w fun e w' => e = .returned (.int .i64 (f b)) ∧ Ext w w' from fun b hb w h1 h2 => by rw [hf]; exact scored_any c lp lq v b.f hp hq ht hdx hdy (hX b hb) hnp hnq Ap Aq cp cq w h1 h2)
  rw [← hf]
  obtain ⟨b0, L1, hL1⟩ : ∃ b0 L1, L = b0 :: L1 := by
    cases L with
    | nil => simp at hl
    | cons x l => exact ⟨x, l, rfl⟩
  have HV := Lib.hid (show tryL f v L = tryK f v b0 L L.length by rw [hL1, ← tried_eq f v b0 L1 (hf0 b0)]; unfold tryK; rw [List.take_length])
  have hb0 : L[0]? = some b0 := by rw [hL1]; rfl
  clear hL1 hf hX hf0 hL hEn hE hE1 hp hq ht hdx hdy hnp hnq hc
  have HP := Lib.hid hP
  have HQ := Lib.hid hQ
  clear hP hQ
  go_enter Try.func57, Try.ntmps57
  go_wp2_with fail
  have HE0 := Lib.hid ((((Ext.refl w).alloc (.cells #[.int .i64 c.turns, .int .i64 c.shift, .int .i64 c.elastic, .int .i64 c.reach, .int .i64 c.spread] 38)).alloc (.cells #[.int .i64 v.turn, .int .i64 v.dx, .int .i64 v.dy] 26)).alloc (.cells #[.int .i64 0, .int .i64 0, .int .i64 0, .int .i64 0, .int .i64 0, .int .i64 0, .int .i64 0, .int .i64 0] 46))
  have HC0 := Lib.hid (((Blk.new w 38 #[.int .i64 c.turns, .int .i64 c.shift, .int .i64 c.elastic, .int .i64 c.reach, .int .i64 c.spread]).alloc (.cells #[.int .i64 v.turn, .int .i64 v.dx, .int .i64 v.dy] 26)).alloc (.cells #[.int .i64 0, .int .i64 0, .int .i64 0, .int .i64 0, .int .i64 0, .int .i64 0, .int .i64 0, .int .i64 0] 46))
  have HM0 := Lib.hid ((Blk.new' (w.alloc (.cells #[.int .i64 c.turns, .int .i64 c.shift, .int .i64 c.elastic, .int .i64 c.reach, .int .i64 c.spread] 38)) 26 #[.int .i64 v.turn, .int .i64 v.dx, .int .i64 v.dy] (w.heap.size + 1) (by simp)).alloc (.cells #[.int .i64 0, .int .i64 0, .int .i64 0, .int .i64 0, .int .i64 0, .int .i64 0, .int .i64 0, .int .i64 0] 46))
  have HR0 := Lib.hid (Blk.new' ((w.alloc (.cells #[.int .i64 c.turns, .int .i64 c.shift, .int .i64 c.elastic, .int .i64 c.reach, .int .i64 c.spread] 38)).alloc (.cells #[.int .i64 v.turn, .int .i64 v.dx, .int .i64 v.dy] 26)) 46 #[.int .i64 0, .int .i64 0, .int .i64 0, .int .i64 0, .int .i64 0, .int .i64 0, .int .i64 0, .int .i64 0] (w.heap.size + 1 + 1) (by simp))
  generalize (((w.alloc (.cells #[.int .i64 c.turns, .int .i64 c.shift, .int .i64 c.elastic, .int .i64 c.reach, .int .i64 c.spread] 38)).alloc (.cells #[.int .i64 v.turn, .int .i64 v.dx, .int .i64 v.dy] 26)).alloc (.cells #[.int .i64 0, .int .i64 0, .int .i64 0, .int .i64 0, .int .i64 0, .int .i64 0, .int .i64 0, .int .i64 0] 46)) = V at *
  refine calls_slice (HRB.out _) fun A n z hown => ?_
  obtain ⟨gl, cap, hv, hgb, hgl⟩ := hown.form (by omega)
  injection hv with hA _ hcap
  subst hA
  have hcl : ∀ j u, (bdCells L)[j]? = some u → (ext V z).cell? ⟨gl, j, none⟩ = some u := fun j u hu => by
    have := hown.cells (g := gl) rfl j u hu
    rwa [addr_add, Nat.zero_add] at this
  have HCL := Lib.hid hcl
  have HC1 := Lib.hid (HC0.out.ext z)
  have HM1 := Lib.hid (HM0.out.ext z)
  have HR1 := Lib.hid (HR0.out.ext z)
  have HE1 := Lib.hid (HE0.out.ext z)
  have HGL := Lib.hid hgl
  obtain ⟨u0, u1, u2, u3⟩ := bdCells_at L 0 b0 hb0
  have y0 := hcl _ _ u0
  have y1 := hcl _ _ u1
  have y2 := hcl _ _ u2
  have y3 := hcl _ _ u3
  simp only [Nat.zero_mul, Nat.zero_add] at y0 y1 y2 y3
  have v0 : (ext V z).cell? ⟨w.heap.size + 1, 0, none⟩ = some (.int .i64 v.turn) := HM1.out.cell 0
  have v1 : (ext V z).cell? ⟨w.heap.size + 1, 1, none⟩ = some (.int .i64 v.dx) := HM1.out.cell 1
  have v2 : (ext V z).cell? ⟨w.heap.size + 1, 2, none⟩ = some (.int .i64 v.dy) := HM1.out.cell 2
  have hlp : (0 : Int) < L.length := by omega
  have hlp2 : 0 < L.length := by omega
  have HHL := Lib.hid hl
  clear hown hcl HC0 HM0 HR0 HE0 u0 u1 u2 u3 hcap hgl hl
  generalize ext V z = V1 at *
  have oGL := Old.mk HGL.out
  have oM := Old.mk HM1.out.lt
  go_wp2_with fail
  have hmx : Try.prog.follows .mixedOrders = true := by kernel_rfl
  refine Code.wp_mono (Q := onlyQ { tmps := #[.slice Ap lp.length cp, .slice Aq lq.length cq, c.val, v.val, undef, undef, .pointer (some ⟨w.heap.size, 0, none⟩), .pointer (some ⟨w.heap.size + 1, 0, none⟩), .pointer (some ⟨w.heap.size + 1 + 1, 0, none⟩), .slice (some ⟨gl, 0, none⟩) L.length n, .pointer (some ⟨V1.heap.size, 0, none⟩), undef, undef, .agg #[.int .i64 c.turns, .int .i64 c.shift, .int .i64 c.elastic, .int .i64 c.reach, .int .i64 c.spread], .slice (some ⟨gl, 0, none⟩) L.length n, .agg #[.int .i64 v.turn, .int .i64 v.dx, .int .i64 v.dy], .slice (some ⟨gl, 0, none⟩) L.length n, .pointer (some ⟨gl, 0, none⟩), .agg #[.int .i64 b0.a, .int .i64 b0.b, .int .i64 b0.c, .int .i64 b0.d], .agg #[.int .i64 v.turn, .int .i64 v.dx, .int .i64 v.dy, .int .i64 b0.a, .int .i64 b0.b, .int .i64 b0.c, .int .i64 b0.d, .int .i64 (-1)], undef, undef, undef, undef, undef, undef, undef, undef, undef, undef, undef, undef, undef, undef, undef, undef, undef, undef, undef, undef, undef, undef, undef, undef, undef, undef, undef], defers := [] } (V1.alloc (.cells #[.int .i64 v.turn, .int .i64 v.dx, .int .i64 v.dy, .int .i64 b0.a, .int .i64 b0.b, .int .i64 b0.c, .int .i64 b0.d, .int .i64 (-1)] 46)).drew) ?_ ?_
  rotate_left
  · go_region_law fail
    all_goals exact ⟨rfl, rfl⟩
  intro e a' w' he
  cases e with
  | normal =>
    obtain ⟨rfl, rfl⟩ := he
    dsimp only
    have hE2 : Ext V1 (V1.alloc (.cells #[.int .i64 v.turn, .int .i64 v.dx, .int .i64 v.dy, .int .i64 b0.a, .int .i64 b0.b, .int .i64 b0.c, .int .i64 b0.d, .int .i64 (-1)] 46)).drew := ((Ext.refl V1).alloc _).drew
    have HC2 := Lib.hid (HC1.out.grow hE2)
    have HM2 := Lib.hid (HM1.out.grow hE2)
    have HR2 := Lib.hid (HR1.out.grow hE2)
    have HE2 := Lib.hid (HE1.out.trans hE2)
    have HB2 := Lib.hid (show Blk (V1.alloc (.cells #[.int .i64 v.turn, .int .i64 v.dx, .int .i64 v.dy, .int .i64 b0.a, .int .i64 b0.b, .int .i64 b0.c, .int .i64 b0.d, .int .i64 (-1)] 46)).drew V1.heap.size 46 (tryK f v b0 L 0).cells from (Blk.new V1 46 _).drew)
    have HCL2 := Lib.hid (show ∀ j u, (bdCells L)[j]? = some u → (V1.alloc (.cells #[.int .i64 v.turn, .int .i64 v.dx, .int .i64 v.dy, .int .i64 b0.a, .int .i64 b0.b, .int .i64 b0.c, .int .i64 b0.d, .int .i64 (-1)] 46)).drew.cell? ⟨gl, j, none⟩ = some u from fun j u hu => (hE2.cell (p := ⟨gl, j, none⟩) HGL.out).trans (HCL.out j u hu))
    have HGL2 := Lib.hid (Nat.lt_of_lt_of_le HGL.out hE2.size)
    have HNg := Lib.hid (show gl < V1.heap.size ∧ w.heap.size + 1 + 1 < V1.heap.size from ⟨HGL.out, HR1.out.lt⟩)
    obtain ⟨gb, hgb⟩ : ∃ gb, gb = V1.heap.size := ⟨_, rfl⟩
    rw [← hgb] at HB2 HNg ⊢
    clear hE2 HC1 HM1 HR1 HE1 HCL HGL v0 v1 v2 y0 y1 y2 y3 oGL oM hgb hmx
    generalize (V1.alloc (.cells #[.int .i64 v.turn, .int .i64 v.dx, .int .i64 v.dy, .int .i64 b0.a, .int .i64 b0.b, .int .i64 b0.c, .int .i64 b0.d, .int .i64 (-1)] 46)).drew = V2 at *
    go_wp2_with fail
    go_loopw [11, 12] (fun t _ wr => ∃ k : Nat, k ≤ L.length ∧ t = .int .i64 k ∧ Blk wr gb 46 (tryK f v b0 L k).cells ∧ Two2 gb gb V2 wr) (fun t _ _ => L.length - (intOf t).toNat)
    case atStart => exact ⟨0, Nat.zero_le _, rfl, HB2.out, Two2.refl _ _ _⟩
    case round =>
      clear HB2
      obtain ⟨k, hk, rfl, hB, hT⟩ := hrel
      have HB := Lib.hid hB
      have HT := Lib.hid hT
      have bC := HC2.out.turn hT (by have := HNg.out; omega) (by have := HNg.out; omega)
      have bM := HM2.out.turn hT (by have := HNg.out; omega) (by have := HNg.out; omega)
      have bR := HR2.out.turn hT (by have := HNg.out; omega) (by have := HNg.out; omega)
      have HEw := Lib.hid (show Ext w wr from Two2.ext_ HE2.out hT (by have := HNg.out; omega) (by have := HNg.out; omega))
      obtain ⟨best, hbest⟩ : ∃ best, best = tryK f v b0 L k := ⟨_, rfl⟩
      rw [← hbest] at HB hB
      by_cases hkn : k < L.length
      · have hki : (k : Int) < L.length := by omega
        obtain ⟨x, hx⟩ : ∃ x, L[k]? = some x := ⟨_, List.getElem?_eq_getElem hkn⟩
        have C := Lib.hid (fun w' h => CS.out x (List.mem_of_getElem? hx) w' (HP.out.grow h) (HQ.out.grow h))
        have HSt := Lib.hid (tryK_succ (f := f) (v := v) (b := b0) hx)
        rw [← hbest] at HSt
        obtain ⟨u0, u1, u2, u3⟩ := bdCells_at L k x hx
        have y0 := (hT.cell HGL2.out (by have := HNg.out; omega) (by have := HNg.out; omega) _).trans (HCL2.out _ _ u0)
        have y1 := (hT.cell HGL2.out (by have := HNg.out; omega) (by have := HNg.out; omega) _).trans (HCL2.out _ _ u1)
        have y2 := (hT.cell HGL2.out (by have := HNg.out; omega) (by have := HNg.out; omega) _).trans (HCL2.out _ _ u2)
        have y3 := (hT.cell HGL2.out (by have := HNg.out; omega) (by have := HNg.out; omega) _).trans (HCL2.out _ _ u3)
        have c0 : wr.cell? ⟨w.heap.size, 0, none⟩ = some (.int .i64 c.turns) := bC.cell 0
        have c1 : wr.cell? ⟨w.heap.size, 1, none⟩ = some (.int .i64 c.shift) := bC.cell 1
        have c2 : wr.cell? ⟨w.heap.size, 2, none⟩ = some (.int .i64 c.elastic) := bC.cell 2
        have c3 : wr.cell? ⟨w.heap.size, 3, none⟩ = some (.int .i64 c.reach) := bC.cell 3
        have c4 : wr.cell? ⟨w.heap.size, 4, none⟩ = some (.int .i64 c.spread) := bC.cell 4
        have v0 : wr.cell? ⟨w.heap.size + 1, 0, none⟩ = some (.int .i64 v.turn) := bM.cell 0
        have v1 : wr.cell? ⟨w.heap.size + 1, 1, none⟩ = some (.int .i64 v.dx) := bM.cell 1
        have v2 : wr.cell? ⟨w.heap.size + 1, 2, none⟩ = some (.int .i64 v.dy) := bM.cell 2
        have s3 : wr.cell? ⟨gb, 3, none⟩ = some (.int .i64 best.bd.a) := hB.cell 3
        have s4 : wr.cell? ⟨gb, 4, none⟩ = some (.int .i64 best.bd.b) := hB.cell 4
        have s5 : wr.cell? ⟨gb, 5, none⟩ = some (.int .i64 best.bd.c) := hB.cell 5
        have s6 : wr.cell? ⟨gb, 6, none⟩ = some (.int .i64 best.bd.d) := hB.cell 6
        have s7 : wr.cell? ⟨gb, 7, none⟩ = some (.int .i64 best.score) := hB.cell 7
        have fB := hB.frozen
        have oC := Old.mk bC.lt
        have oM := Old.mk bM.lt
        have oB := Old.mk hB.lt
        have oG := Old.mk (Nat.lt_of_lt_of_le HGL2.out hT.size)
        have hk81 : L.length ≤ 81 := HHL.out.2
        clear hbest hB hT bC bM bR u0 u1 u2 u3
        go_wp2_with fail
        refine wp_region_ext (by kernel_rfl) (by kernel_rfl) ?_
        repeat (go_big_quiet_step (first | (go_at_call 55; exact Calls.quiet_ext (C.out _ (HEw.out.ext _)))))
        refine wpQuiet_nil ?_
        rintro _ ⟨z2, rfl⟩
        cases hlt : decide (best.score < f x)
        · have HV3 := Lib.hid (show tryK f v b0 L (k + 1) = best from by rw [HSt.out]; unfold stepT; rw [if_neg (by simpa using hlt)])
          go_wp2_with fail
          exact ⟨⟨k + 1, by omega, by go_num, by rw [HV3.out]; exact HB.out.ext z2, HT.out.trans (Two2.of_ext (Ext.ext_self wr z2))⟩, by simp [intOf]; omega⟩
        · have HV3 := Lib.hid (show tryK f v b0 L (k + 1) = ⟨best.mv, x, f x⟩ from by rw [HSt.out]; unfold stepT; rw [if_pos (by simpa using hlt)])
          go_wp2_with fail
          exact ⟨⟨k + 1, by omega, by go_num, by rw [HV3.out]; exact ((((((HB.out.ext z2).set_ 3 _).set_ 4 _).set_ 5 _).set_ 6 _).set_ 7 _), ((((((HT.out.trans (Two2.of_ext (Ext.ext_self wr z2))).set_ (p := ⟨gb, 3, none⟩) (.inl rfl) _).set_ (p := ⟨gb, 4, none⟩) (.inl rfl) _).set_ (p := ⟨gb, 5, none⟩) (.inl rfl) _).set_ (p := ⟨gb, 6, none⟩) (.inl rfl) _).set_ (p := ⟨gb, 7, none⟩) (.inl rfl) _)⟩, by simp [intOf]; omega⟩
      · obtain rfl : k = L.length := by omega
        have HV3 := Lib.hid (HV.out.trans hbest.symm)
        have s0 : wr.cell? ⟨gb, 0, none⟩ = some (.int .i64 best.mv.turn) := hB.cell 0
        have s1 : wr.cell? ⟨gb, 1, none⟩ = some (.int .i64 best.mv.dx) := hB.cell 1
        have s2 : wr.cell? ⟨gb, 2, none⟩ = some (.int .i64 best.mv.dy) := hB.cell 2
        have s3 : wr.cell? ⟨gb, 3, none⟩ = some (.int .i64 best.bd.a) := hB.cell 3
        have s4 : wr.cell? ⟨gb, 4, none⟩ = some (.int .i64 best.bd.b) := hB.cell 4
        have s5 : wr.cell? ⟨gb, 5, none⟩ = some (.int .i64 best.bd.c) := hB.cell 5
        have s6 : wr.cell? ⟨gb, 6, none⟩ = some (.int .i64 best.bd.d) := hB.cell 6
        have s7 : wr.cell? ⟨gb, 7, none⟩ = some (.int .i64 best.score) := hB.cell 7
        have r0 : ∀ j, j < 8 → wr.cell? ⟨w.heap.size + 1 + 1, j, none⟩ = some (.int .i64 0) := fun j hj => by
          rw [bR.cell]
          rcases (show j = 0 ∨ j = 1 ∨ j = 2 ∨ j = 3 ∨ j = 4 ∨ j = 5 ∨ j = 6 ∨ j = 7 by omega) with rfl | rfl | rfl | rfl | rfl | rfl | rfl | rfl <;> rfl
        have k0 := r0 0 (by omega)
        have k1 := r0 1 (by omega)
        have k2 := r0 2 (by omega)
        have k3 := r0 3 (by omega)
        have k4 := r0 4 (by omega)
        have k5 := r0 5 (by omega)
        have k6 := r0 6 (by omega)
        have k7 := r0 7 (by omega)
        have rf := bR.frozen
        have HBR := Lib.hid bR
        clear r0 hbest hB hT bC bM bR
        go_wp2_with fail
        have HS := Lib.hid (store_att HBR.out best)
        have HEf : Hid (Ext w ((((((((wr.setCell ⟨w.heap.size + 1 + 1, 0, none⟩ (.int .i64 best.mv.turn)).setCell ⟨w.heap.size + 1 + 1, 1, none⟩ (.int .i64 best.mv.dx)).setCell ⟨w.heap.size + 1 + 1, 2, none⟩ (.int .i64 best.mv.dy)).setCell ⟨w.heap.size + 1 + 1, 3, none⟩ (.int .i64 best.bd.a)).setCell ⟨w.heap.size + 1 + 1, 4, none⟩ (.int .i64 best.bd.b)).setCell ⟨w.heap.size + 1 + 1, 5, none⟩ (.int .i64 best.bd.c)).setCell ⟨w.heap.size + 1 + 1, 6, none⟩ (.int .i64 best.bd.d)).setCell ⟨w.heap.size + 1 + 1, 7, none⟩ (.int .i64 best.score))) := Lib.hid (Ext.setCell (Ext.setCell (Ext.setCell (Ext.setCell (Ext.setCell (Ext.setCell (Ext.setCell (Ext.setCell HEw.out (p := ⟨w.heap.size + 1 + 1, 0, none⟩) (by show w.heap.size ≤ w.heap.size + 1 + 1; omega) (.int .i64 best.mv.turn)) (p := ⟨w.heap.size + 1 + 1, 1, none⟩) (by show w.heap.size ≤ w.heap.size + 1 + 1; omega) (.int .i64 best.mv.dx)) (p := ⟨w.heap.size + 1 + 1, 2, none⟩) (by show w.heap.size ≤ w.heap.size + 1 + 1; omega) (.int .i64 best.mv.dy)) (p := ⟨w.heap.size + 1 + 1, 3, none⟩) (by show w.heap.size ≤ w.heap.size + 1 + 1; omega) (.int .i64 best.bd.a)) (p := ⟨w.heap.size + 1 + 1, 4, none⟩) (by show w.heap.size ≤ w.heap.size + 1 + 1; omega) (.int .i64 best.bd.b)) (p := ⟨w.heap.size + 1 + 1, 5, none⟩) (by show w.heap.size ≤ w.heap.size + 1 + 1; omega) (.int .i64 best.bd.c)) (p := ⟨w.heap.size + 1 + 1, 6, none⟩) (by show w.heap.size ≤ w.heap.size + 1 + 1; omega) (.int .i64 best.bd.d)) (p := ⟨w.heap.size + 1 + 1, 7, none⟩) (by show w.heap.size ≤ w.heap.size + 1 + 1; omega) (.int .i64 best.score))
        generalize ((((((((wr.setCell ⟨w.heap.size + 1 + 1, 0, none⟩ (.int .i64 best.mv.turn)).setCell ⟨w.heap.size + 1 + 1, 1, none⟩ (.int .i64 best.mv.dx)).setCell ⟨w.heap.size + 1 + 1, 2, none⟩ (.int .i64 best.mv.dy)).setCell ⟨w.heap.size + 1 + 1, 3, none⟩ (.int .i64 best.bd.a)).setCell ⟨w.heap.size + 1 + 1, 4, none⟩ (.int .i64 best.bd.b)).setCell ⟨w.heap.size + 1 + 1, 5, none⟩ (.int .i64 best.bd.c)).setCell ⟨w.heap.size + 1 + 1, 6, none⟩ (.int .i64 best.bd.d)).setCell ⟨w.heap.size + 1 + 1, 7, none⟩ (.int .i64 best.score)) = Wf at *
        have q0 : Wf.cell? ⟨w.heap.size + 1 + 1, 0, none⟩ = some (.int .i64 best.mv.turn) := HS.out.cell 0
        have q1 : Wf.cell? ⟨w.heap.size + 1 + 1, 1, none⟩ = some (.int .i64 best.mv.dx) := HS.out.cell 1
        have q2 : Wf.cell? ⟨w.heap.size + 1 + 1, 2, none⟩ = some (.int .i64 best.mv.dy) := HS.out.cell 2
        have q3 : Wf.cell? ⟨w.heap.size + 1 + 1, 3, none⟩ = some (.int .i64 best.bd.a) := HS.out.cell 3
        have q4 : Wf.cell? ⟨w.heap.size + 1 + 1, 4, none⟩ = some (.int .i64 best.bd.b) := HS.out.cell 4
        have q5 : Wf.cell? ⟨w.heap.size + 1 + 1, 5, none⟩ = some (.int .i64 best.bd.c) := HS.out.cell 5
        have q6 : Wf.cell? ⟨w.heap.size + 1 + 1, 6, none⟩ = some (.int .i64 best.bd.d) := HS.out.cell 6
        have q7 : Wf.cell? ⟨w.heap.size + 1 + 1, 7, none⟩ = some (.int .i64 best.score) := HS.out.cell 7
        refine bodyPost_ret (v := best.val) (by simp [results, Try.results57, go_sem, q0, q1, q2, q3, q4, q5, q6, q7]) rfl ⟨ret_of (by rw [HV3.out]), HEf.out⟩
  | _ => exact he.elim
end Go.Proofs.Ythejomcibobieaa
