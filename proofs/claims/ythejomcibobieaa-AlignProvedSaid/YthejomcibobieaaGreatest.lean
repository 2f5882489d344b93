/- The greatest score of all moves and bends, one by one (40). -/
import Derived.Test.YthejomcibobieaaMoves
import Derived.Test.YthejomcibobieaaAlive
namespace Go.Proofs.Ythejomcibobieaa
open Go.RowKit

def Top2 (f : Mv → Bd → Int) (L : List Mv) (B : List Bd) (k j : Nat) (M : Int) : Prop :=
  0 ≤ M ∧ (∀ v ∈ L.take k, ∀ b ∈ B, f v b ≤ M) ∧ (∀ x, L[k]? = some x → ∀ b ∈ B.take j, f x b ≤ M) ∧ (M = 0 ∨ ∃ v ∈ L, ∃ b ∈ B, M = f v b)
theorem Top2.start (f : Mv → Bd → Int) (L : List Mv) (B : List Bd) : Top2 f L B 0 0 0 := ⟨Int.le_refl _, by simp, by simp, .inl rfl⟩
theorem take_one {α : Type} {l : List α} {k : Nat} {x : α} (h : l[k]? = some x) : l.take (k + 1) = l.take k ++ [x] := by
  obtain ⟨hk, hx⟩ := List.getElem?_eq_some_iff.1 h
  rw [List.take_succ_eq_append_getElem hk, hx]
theorem Top2.inner {f : Mv → Bd → Int} {L : List Mv} {B : List Bd} {k j : Nat} {M : Int} {x : Mv} {b : Bd} (h : Top2 f L B k j M) (hx : L[k]? = some x) (hb : B[j]? = some b) : Top2 f L B k (j + 1) (max M (f x b)) := by
  obtain ⟨h1, h2, h3, h4⟩ := h
  refine ⟨by omega, fun v hv d hd => by have := h2 v hv d hd; omega, fun y hy d hd => ?_, ?_⟩
  · rw [hx] at hy
    injection hy with hy
    subst hy
    rw [take_one hb] at hd
    rcases List.mem_append.1 hd with hd | hd
    · have := h3 x hx d hd; omega
    · rw [List.mem_singleton.1 hd]; omega
  · rcases Int.le_total M (f x b) with h | h
    · right
      exact ⟨x, List.mem_of_getElem? hx, b, List.mem_of_getElem? hb, by omega⟩
    · rw [show max M (f x b) = M by omega]; exact h4
theorem Top2.outer {f : Mv → Bd → Int} {L : List Mv} {B : List Bd} {k : Nat} {M : Int} {x : Mv} (h : Top2 f L B k B.length M) (hx : L[k]? = some x) : Top2 f L B (k + 1) 0 M := by
  obtain ⟨h1, h2, h3, h4⟩ := h
  refine ⟨h1, fun v hv b hb => ?_, by simp, h4⟩
  rw [take_one hx] at hv
  rcases List.mem_append.1 hv with hv | hv
  · exact h2 v hv b hb
  · rw [List.mem_singleton.1 hv]
    exact h3 x hx b (by rw [List.take_length]; exact hb)
/-- M is the greatest score -/
def Most (c : Cl) (lp lq : List Mi) (M : Int) : Prop :=
  0 ≤ M ∧ (∀ (v : Mv) (b : Bd), isMove c v = true → isBend c.elastic b.f = true → scrK c lp lq v b.f ≤ M) ∧ (M = 0 ∨ ∃ (v : Mv) (b : Bd), isMove c v = true ∧ isBend c.elastic b.f = true ∧ M = scrK c lp lq v b.f)
/-- the moves of a class, all -/
theorem mem_movesOf {c : Cl} {T S : Nat} (h1 : c.turns = T) (h2 : c.shift = S) {v : Mv} : v ∈ movesM T S (2 * T + 1) ↔ isMove c v = true := by
  rw [mem_moves, isMove_iff, h1, h2]
theorem pos_moves (T S : Nat) : 0 < (movesM T S (2 * T + 1)).length := by
  rw [movesM_len]
  exact Nat.mul_pos (by omega) (Nat.mul_pos (by omega) (by omega))
theorem mvCells_at {L : List Mv} {k : Nat} {x : Mv} (h : L[k]? = some x) : (flatG Mv.cellsL L)[k * 3]? = some (.int .i64 x.turn) ∧ (flatG Mv.cellsL L)[k * 3 + 1]? = some (.int .i64 x.dx) ∧ (flatG Mv.cellsL L)[k * 3 + 2]? = some (.int .i64 x.dy) :=
  ⟨flatG_at mv_len L k x h 0 (by omega), flatG_at mv_len L k x h 1 (by omega), flatG_at mv_len L k x h 2 (by omega)⟩
set_option maxRecDepth 100000 in
set_option maxHeartbeats 8000000 in
theorem greatest_any (c : Cl) (lp lq : List Mi) (h0 : askE c lp lq = 0) (hp : ∀ m ∈ lp, 0 ≤ m.dir) (hq : ∀ m ∈ lq, 0 ≤ m.dir) (hnp : lp.length ≤ 100) (hnq : lq.length ≤ 100) (Ap Aq : Option Addr) (cp cq : Nat) (w : World) (hP : Pts w Ap lp) (hQ : Pts w Aq lq) :
    Calls Try.prog 40 #[.slice Ap lp.length cp, .slice Aq lq.length cq, c.val] w fun e w' => ∃ M, Most c lp lq M ∧ e = .returned (.tuple #[.int .i64 M, .bool true]) ∧ Ext w w' := by
  have HP := Lib.hid hP
  have HQ := Lib.hid hQ
  clear hP hQ
  obtain ⟨-, -, hc⟩ := askE_ok h0
  obtain ⟨E, hE⟩ : ∃ E : Nat, c.elastic = E := ⟨c.elastic.toNat, by have := hc.elastic; omega⟩
  obtain ⟨T, hT⟩ : ∃ T : Nat, c.turns = T := ⟨c.turns.toNat, by have := hc.turns; omega⟩
  obtain ⟨S, hS⟩ : ∃ S : Nat, c.shift = S := ⟨c.shift.toNat, by have := hc.shift; omega⟩
  have hE1 : E ≤ 1 := by have := hc.elastic; omega
  have HRB := Lib.hid (fun w => refBends_any c E hE1 hE w)
  have HMV := Lib.hid (fun w => moves_any c T S (by have := hc.turns; omega) (by have := hc.shift; omega) hT hS w)
  have hl := bends_len E hE1
  have hlm := pos_moves T S
  have hml : (movesM T S (2 * T + 1)).length ≤ 1000 := by
    rw [movesM_len]
    have := hc.turns
    have := hc.shift
    have h1 : (2 * S + 1) * (2 * S + 1) ≤ 9 * 9 := Nat.mul_le_mul (by omega) (by omega)
    have h2 : (2 * T + 1) * ((2 * S + 1) * (2 * S + 1)) ≤ 7 * 81 := Nat.mul_le_mul (by omega) (by omega)
    omega
  obtain ⟨B, hB⟩ : ∃ B, bendsK E 81 = B := ⟨_, rfl⟩
  obtain ⟨L, hL⟩ : ∃ L, movesM T S (2 * T + 1) = L := ⟨_, rfl⟩
  have hmb : ∀ b : Bd, b ∈ B ↔ isBend c.elastic b.f = true := fun b => by
    rw [← mem_bends hc]
    unfold bendsL
    rw [hE, Int.toNat_natCast, ← bends_eq E hE1, hB]
  have hmv : ∀ v : Mv, v ∈ L ↔ isMove c v = true := fun v => by rw [← hL]; exact mem_movesOf hT hS
  obtain ⟨f, hf⟩ : ∃ f : Mv → Bd → Int, ∀ v b, f v b = scrK c lp lq v b.f := ⟨fun v b => scrK c lp lq v b.f, fun _ _ => rfl⟩
  have HFIN := Lib.hid (show ∀ M, Top2 f L B L.length 0 M → Most c lp lq M from fun M h => by
    obtain ⟨h1, h2, -, h4⟩ := h
    simp only [hf] at h2 h4
    refine ⟨h1, fun v b hv hb => h2 v (by rw [List.take_length]; exact (hmv v).2 hv) b ((hmb b).2 hb), ?_⟩
    rcases h4 with h4 | ⟨v, hv, b, hb, e⟩
    · exact .inl h4
    · exact .inr ⟨v, b, (hmv v).1 hv, (hmb b).1 hb, e⟩)
  have CS := Lib.hid (show ∀ v ∈ L, ∀ b ∈ B, ∀ A A' n n' w, Pts w A lp → Pts w A' lq → Calls Try.prog 21 #[.slice A lp.length n, .slice A' lq.length n', c.val, v.val, .agg b.cells] w fun e w' => e = .returned (.tuple #[.int .i64 (f v b), .int .i64 0]) ∧ Ext w w' from fun v hv b hb A A' n n' w h1 h2 => by
    have := Score_any c lp lq v b.f hp hq hnp hnq A A' n n' w h1 h2
    unfold scoreT at this
    rw [if_pos h0, (hmv v).1 hv, (hmb b).1 hb, ← hf] at this
    exact this)
  rw [hB] at HRB hl
  rw [hL] at HMV hlm hml
  clear hmb hmv hE hT hS hB hL hc h0 hp hq hf
  go_enter Try.func40, Try.ntmps40
  go_wp2_with fail
  have hE0 := (Ext.refl w).alloc (.cells #[.int .i64 c.turns, .int .i64 c.shift, .int .i64 c.elastic, .int .i64 c.reach, .int .i64 c.spread] 38)
  have HC0 := Lib.hid (Blk.new w 38 #[.int .i64 c.turns, .int .i64 c.shift, .int .i64 c.elastic, .int .i64 c.reach, .int .i64 c.spread])
  refine calls_slice (HRB.out _) fun A n z hown => ?_
  obtain ⟨gl, cap, hv, hgb, hgl⟩ := hown.form (by omega)
  injection hv with hA _ hcap
  subst hA hcap
  have HCL := Lib.hid (fun j uu hu => by
    have := hown.cells (g := gl) rfl j uu hu
    rwa [addr_add, Nat.zero_add] at this : ∀ j uu, (bdCells B)[j]? = some uu → (ext (w.alloc (.cells #[.int .i64 c.turns, .int .i64 c.shift, .int .i64 c.elastic, .int .i64 c.reach, .int .i64 c.spread] 38)) z).cell? ⟨gl, j, none⟩ = some uu)
  have HE1 := Lib.hid (hE0.ext z)
  have HC1 := Lib.hid (HC0.out.ext z)
  have HGL := Lib.hid hgl
  clear hown hgl hE0 HC0 hgb
  generalize ext (w.alloc (.cells #[.int .i64 c.turns, .int .i64 c.shift, .int .i64 c.elastic, .int .i64 c.reach, .int .i64 c.spread] 38)) z = V at *
  have g0 : V.cell? ⟨w.heap.size, 0, none⟩ = some (.int .i64 c.turns) := HC1.out.cell 0
  have g1 : V.cell? ⟨w.heap.size, 1, none⟩ = some (.int .i64 c.shift) := HC1.out.cell 1
  have g2 : V.cell? ⟨w.heap.size, 2, none⟩ = some (.int .i64 c.elastic) := HC1.out.cell 2
  have g3 : V.cell? ⟨w.heap.size, 3, none⟩ = some (.int .i64 c.reach) := HC1.out.cell 3
  have g4 : V.cell? ⟨w.heap.size, 4, none⟩ = some (.int .i64 c.spread) := HC1.out.cell 4
  have oC := Old.mk HC1.out.lt
  go_wp2_with fail
  refine calls_slice (HMV.out _) fun A2 n2 z2 hown => ?_
  obtain ⟨gm, cap2, hv, hgb, hgl⟩ := hown.form (by omega)
  injection hv with hA _ hcap
  subst hA hcap
  have HML := Lib.hid (fun j uu hu => by
    have := hown.cells (g := gm) rfl j uu hu
    rwa [addr_add, Nat.zero_add] at this : ∀ j uu, (flatG Mv.cellsL L)[j]? = some uu → (ext V z2).cell? ⟨gm, j, none⟩ = some uu)
  have HE2 := Lib.hid (HE1.out.ext z2)
  have HC2 := Lib.hid (HC1.out.ext z2)
  have HGM := Lib.hid hgl
  have HX2 := Lib.hid (Ext.ext_self V z2)
  have HGL2 := Lib.hid (show gl < (ext V z2).heap.size from Nat.lt_of_lt_of_le HGL.out HX2.out.size)
  have HCL2 := Lib.hid (show ∀ j uu, (bdCells B)[j]? = some uu → (ext V z2).cell? ⟨gl, j, none⟩ = some uu from fun j uu hu => (HX2.out.cell (by exact HGL.out)).trans (HCL.out j uu hu))
  clear hown hgl hgb HE1 HC1 HCL HGL HX2 g0 g1 g2 g3 g4 oC
  generalize ext V z2 = V1 at *
  go_wp2_with fail
  go_loopw [8, 21] (fun s t wr => ∃ (k : Nat) (M : Int), k ≤ L.length ∧ t = .int .i64 k ∧ s = .int .i64 M ∧ Top2 f L B k 0 M ∧ Ext V1 wr) (fun _ t _ => L.length - (intOf t).toNat)
  case atStart => exact ⟨0, 0, Nat.zero_le _, rfl, rfl, Top2.start f L B, Ext.refl _⟩
  case round =>
    obtain ⟨k, M, hk, rfl, rfl, htop, hE⟩ := hrel
    have HE := Lib.hid hE
    have HT := Lib.hid htop
    clear htop
    by_cases hlt : k < L.length
    · have hki : (k : Int) < L.length := by omega
      obtain ⟨x, hx⟩ : ∃ x, L[k]? = some x := ⟨_, List.getElem?_eq_getElem hlt⟩
      obtain ⟨u0, u1, u2⟩ := mvCells_at hx
      have y0 : wr.cell? ⟨gm, k * 3, none⟩ = some (.int .i64 x.turn) := (hE.cell (by exact HGM.out)).trans (HML.out _ _ u0)
      have y1 : wr.cell? ⟨gm, k * 3 + 1, none⟩ = some (.int .i64 x.dx) := (hE.cell (by exact HGM.out)).trans (HML.out _ _ u1)
      have y2 : wr.cell? ⟨gm, k * 3 + 2, none⟩ = some (.int .i64 x.dy) := (hE.cell (by exact HGM.out)).trans (HML.out _ _ u2)
      have oM : Nonempty (Old gm wr) := ⟨Nat.lt_of_lt_of_le HGM.out hE.size⟩
      have CSx := Lib.hid (CS.out x (List.mem_of_getElem? hx))
      have HX := Lib.hid hx
      clear u0 u1 u2 hx hE
      go_wp2_with fail
      have HEa := Lib.hid (HE.out.alloc (.cells #[.int .i64 x.turn, .int .i64 x.dx, .int .i64 x.dy] 26))
      have HV := Lib.hid (Blk.new wr 26 #[.int .i64 x.turn, .int .i64 x.dx, .int .i64 x.dy])
      clear y0 y1 y2 oM HE
      generalize wr.alloc (.cells #[.int .i64 x.turn, .int .i64 x.dx, .int .i64 x.dy] 26) = W1 at *
      generalize wr.heap.size = gx at *
      go_loopw [8, 27] (fun s t wr => ∃ (j : Nat) (N : Int), j ≤ B.length ∧ t = .int .i64 j ∧ s = .int .i64 N ∧ Top2 f L B k j N ∧ Ext W1 wr) (fun _ t _ => B.length - (intOf t).toNat)
      case atStart => exact ⟨0, M, Nat.zero_le _, rfl, rfl, HT.out, Ext.refl _⟩
      case round =>
        obtain ⟨j, N, hj, rfl, rfl, htop, hE⟩ := hrel
        have HE := Lib.hid hE
        have HTj := Lib.hid htop
        clear htop
        by_cases hlj : j < B.length
        · have hji : (j : Int) < B.length := by omega
          obtain ⟨b, hb⟩ : ∃ b, B[j]? = some b := ⟨_, List.getElem?_eq_getElem hlj⟩
          obtain ⟨u0, u1, u2, u3⟩ := bdCells_at B j b hb
          have hEE := HEa.out.trans hE
          have y0 : wr.cell? ⟨gl, j * 4, none⟩ = some (.int .i64 b.a) := (hEE.cell (by exact HGL2.out)).trans (HCL2.out _ _ u0)
          have y1 : wr.cell? ⟨gl, j * 4 + 1, none⟩ = some (.int .i64 b.b) := (hEE.cell (by exact HGL2.out)).trans (HCL2.out _ _ u1)
          have y2 : wr.cell? ⟨gl, j * 4 + 2, none⟩ = some (.int .i64 b.c) := (hEE.cell (by exact HGL2.out)).trans (HCL2.out _ _ u2)
          have y3 : wr.cell? ⟨gl, j * 4 + 3, none⟩ = some (.int .i64 b.d) := (hEE.cell (by exact HGL2.out)).trans (HCL2.out _ _ u3)
          have oG : Nonempty (Old gl wr) := ⟨Nat.lt_of_lt_of_le HGL2.out hEE.size⟩
          have g0 : wr.cell? ⟨w.heap.size, 0, none⟩ = some (.int .i64 c.turns) := (HC2.out.grow hEE).cell 0
          have g1 : wr.cell? ⟨w.heap.size, 1, none⟩ = some (.int .i64 c.shift) := (HC2.out.grow hEE).cell 1
          have g2 : wr.cell? ⟨w.heap.size, 2, none⟩ = some (.int .i64 c.elastic) := (HC2.out.grow hEE).cell 2
          have g3 : wr.cell? ⟨w.heap.size, 3, none⟩ = some (.int .i64 c.reach) := (HC2.out.grow hEE).cell 3
          have g4 : wr.cell? ⟨w.heap.size, 4, none⟩ = some (.int .i64 c.spread) := (HC2.out.grow hEE).cell 4
          have oC := Old.mk (HC2.out.grow hEE).lt
          have v0 : wr.cell? ⟨gx, 0, none⟩ = some (.int .i64 x.turn) := (HV.out.grow hE).cell 0
          have v1 : wr.cell? ⟨gx, 1, none⟩ = some (.int .i64 x.dx) := (HV.out.grow hE).cell 1
          have v2 : wr.cell? ⟨gx, 2, none⟩ = some (.int .i64 x.dy) := (HV.out.grow hE).cell 2
          have oV := Old.mk (HV.out.grow hE).lt
          have CSb := Lib.hid (CSx.out b (List.mem_of_getElem? hb))
          have hmx : max N (f x b) = if N < f x b then f x b else N := by split <;> omega
          have HTT := Lib.hid (hmx ▸ HTj.out.inner HX.out hb)
          clear hmx
          clear u0 u1 u2 u3 hE hEE
          generalize f x b = sx at *
          go_wp2_with fail
          have hA := HE.out.alloc (.cells #[.int .i64 b.a, .int .i64 b.b, .int .i64 b.c, .int .i64 b.d] 28)
          have hB := HE2.out.trans (HEa.out.trans hA)
          refine Calls.ext (CSb.out _ _ _ _ _ (HP.out.grow hB) (HQ.out.grow hB)) fun z3 => ?_
          go_wp2_with fail
          exact ⟨⟨j + 1, _, by omega, by go_num, rfl, HTT.out, hA.ext z3⟩, by simp [intOf]; omega⟩
        · obtain rfl : j = B.length := by omega
          go_wp2_with fail
          exact ⟨⟨k + 1, N, by omega, by go_num, rfl, HTj.out.outer HX.out, HEa.out.trans HE.out⟩, by simp [intOf]; omega⟩
    · obtain rfl : k = L.length := by omega
      go_wp2_with fail
      go_ret2
      exact ⟨M, HFIN.out M HT.out, rfl, HE2.out.trans HE.out⟩
end Go.Proofs.Ythejomcibobieaa
