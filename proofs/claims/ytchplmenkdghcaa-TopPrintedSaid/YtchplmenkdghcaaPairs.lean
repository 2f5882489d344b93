/- The program: whether a number, moved, comes near to another one (span.near, 84). -/
import Derived.Test.YtchplmenkdghcaaPlace
import Derived.Test.YtchplmenkdghcaaMatch
import Derived.Test.YtchplmenkdghcaaSlices
namespace Go.Proofs.Ytchplmenkdghcaa
open Go.RowKit
def nearN (lo hi fr to reach : Int) : Bool := decide (fr + lo ≤ to + reach) && decide (to - reach ≤ fr + hi)
set_option maxRecDepth 100000 in
set_option maxHeartbeats 1000000 in
theorem near_any (lo hi fr to reach : Int) (h1 : -10000 ≤ lo ∧ lo ≤ 10000) (h2 : -10000 ≤ hi ∧ hi ≤ 10000) (h3 : -10000 ≤ fr ∧ fr ≤ 10000) (h4 : -10000 ≤ to ∧ to ≤ 10000) (h5 : -10000 ≤ reach ∧ reach ≤ 10000) (w : World) :
    Calls Try.prog 50 #[.agg #[.int .i64 lo, .int .i64 hi], .int .i64 fr, .int .i64 to, .int .i64 reach] w fun e w' => e = .returned (.bool (nearN lo hi fr to reach)) ∧ Ext w w' := by
  have HV := Lib.hid (show nearN lo hi fr to reach = (decide (fr + lo ≤ to + reach) && decide (to - reach ≤ fr + hi)) from rfl)
  cases e1 : decide (fr + lo ≤ to + reach)
  · have HV1 := Lib.hid (show nearN lo hi fr to reach = false from HV.out.trans (by rw [e1]; simp))
    go_enter Try.func50, Try.ntmps50
    go_wp2_with fail
    go_ret
    exact ⟨ret_of (congrArg Value.bool HV1.out.symm), (Ext.refl w).alloc _⟩
  · have HV1 := Lib.hid (show nearN lo hi fr to reach = decide (to - reach ≤ fr + hi) from HV.out.trans (by rw [e1]; simp))
    go_enter Try.func50, Try.ntmps50
    go_wp2_with fail
    go_ret
    exact ⟨ret_of (congrArg Value.bool HV1.out.symm), (Ext.refl w).alloc _⟩
end Go.Proofs.Ytchplmenkdghcaa
namespace Go.Proofs.Ytchplmenkdghcaa
/-- the program: which points may be paired, for spans -/
def parB (c : Cl) (m o : Mi) (n xlo xhi : Int) (ylo yhi : Nat → Int) : Bool :=
  decide (m.kind = o.kind) && decide (min (turnO m o n) (16 - turnO m o n) ≤ c.spread) && nearN xlo xhi (turnX m n) o.x c.reach && nearN (ylo (m.x / 16).toNat) (yhi (m.x / 16).toNat) (turnY m n) o.y c.reach
theorem par_alike (c : Cl) (m o : Mi) (v : Mv) (b : Nat → Int) : parB c m o v.turn v.dx v.dx (fun i => v.dy + b i) (fun i => v.dy + b i) = alikeB c m o v b := by
  unfold parB alikeB nearN placeX placeY absD
  rw [Bool.eq_iff_iff]
  simp only [Bool.and_eq_true, decide_eq_true_eq]
  generalize b (m.x / 16).toNat = e
  generalize turnX m v.turn = x
  generalize turnY m v.turn = y
  constructor
  · rintro ⟨⟨⟨h1, h2⟩, h3, h4⟩, h5, h6⟩
    exact ⟨⟨⟨h1, by omega⟩, by omega⟩, h2⟩
  · rintro ⟨⟨⟨h1, h2⟩, h3⟩, h4⟩
    exact ⟨⟨⟨h1, h4⟩, by omega, by omega⟩, by omega, by omega⟩
end Go.Proofs.Ytchplmenkdghcaa
/- The program: the greatest number of pairs for spans (pairs, 73). -/
namespace Go.Proofs.Ytchplmenkdghcaa
open Go.RowKit
abbrev spV (lo hi : Int) : Value := .agg #[.int .i64 lo, .int .i64 hi]
abbrev spansV (ylo yhi : Nat → Int) : Value := .agg #[.int .i64 (ylo 0), .int .i64 (yhi 0), .int .i64 (ylo 1), .int .i64 (yhi 1), .int .i64 (ylo 2), .int .i64 (yhi 2), .int .i64 (ylo 3), .int .i64 (yhi 3)]
def parL (c : Cl) (lp lq : List Mi) (n xlo xhi : Int) (ylo yhi : Nat → Int) (pi j : Nat) : Bool := match lp[pi]?, lq[j]? with | some m, some o => parB c m o n xlo xhi ylo yhi | _, _ => false
def partL (f : Nat → Bool) (k : Nat) : List Nat := (List.range k).filter f
theorem partL_yes {f : Nat → Bool} {k : Nat} (h : f k = true) : partL f (k + 1) = partL f k ++ [k] := by simp [partL, List.range_succ, List.filter_append, h]
theorem partL_no {f : Nat → Bool} {k : Nat} (h : f k = false) : partL f (k + 1) = partL f k := by simp [partL, List.range_succ, List.filter_append, h]
theorem partL_all (may : Nat → Nat → Bool) (n pi : Nat) : partL (may pi) n = nbF n may pi := by simp [partL, nbF, restL, List.range_eq_range']
theorem partL_len (f : Nat → Bool) (k : Nat) : (partL f k).length ≤ k := by
  have := List.length_filter_le f (List.range k)
  rw [List.length_range] at this
  exact this
def numV (l : List Nat) : List Value := l.map fun (x : Nat) => Value.int .i64 (x : Int)
theorem zInfoR : ZInfo Try.prog 111 72 (.slice none 0 0) := zInfo (bytes := 24) Try.underlying111 (by kernel_rfl) (by decide) rfl
theorem infoN : ElemInfo Try.prog 72 3 1 8 := elemInfo (z := .int .i64 0) Try.underlying72 (by kernel_rfl) rfl (by decide)
/-- the first rows are done, the others empty -/
structure PRows (w : World) (gO np pi : Nat) (nb : Nat → List Nat) (cells : Array Value) : Prop where
  size : cells.size = np
  done : ∀ x, x < pi → ∃ A c, cells[x]? = some (.slice A (nb x).length c) ∧ (nb x ≠ [] → ∃ g, A = some ⟨g, 0, none⟩ ∧ g < w.heap.size ∧ g ≠ gO ∧ ∀ (j y : Nat), (nb x)[j]? = some y → w.cell? ⟨g, j, none⟩ = some (.int .i64 (y : Int)))
  rest : ∀ x, pi ≤ x → x < np → cells[x]? = some (.slice none 0 0)
theorem PRows.zero (w : World) (gO np : Nat) (nb : Nat → List Nat) : PRows w gO np 0 nb (Array.replicate np (.slice none 0 0)) :=
  ⟨by simp, fun x h => absurd h (Nat.not_lt_zero _), fun x _ h => by simp [h]⟩
theorem PRows.turn {w w' : World} {gO np pi : Nat} {nb : Nat → List Nat} {cells : Array Value} (h : PRows w gO np pi nb cells) (k : Two2 gO gO w w') : PRows w' gO np pi nb cells := by
  refine ⟨h.size, fun x hx => ?_, h.rest⟩
  obtain ⟨A, c, h1, h2⟩ := h.done x hx
  refine ⟨A, c, h1, fun hne => ?_⟩
  obtain ⟨g, e, h3, h4, h5⟩ := h2 hne
  exact ⟨g, e, Nat.lt_of_lt_of_le h3 k.size, h4, fun j y hy => by rw [k.cell h3 h4 h4]; exact h5 j y hy⟩
theorem Two2.of_ext {g g' : Nat} {w w' : World} (h : Ext w w') : Two2 g g' w w' := ⟨h.os, h.tape, h.output, h.size, fun b hb _ _ => h.block b hb⟩
/-- a row is filled -/
theorem PRows.step {w w' : World} {gO np pi m : Nat} {nb : Nat → List Nat} {cells : Array Value} {v : Value} {xs : List Nat} (h : PRows w gO np pi nb cells) (hi : pi < np) (k : Two2 gO gO w w') (hg : gO < w.heap.size) (hm : m = xs.length) (hown : w'.ownsRow w.heap.size 3 1 v m (numV xs)) (hx : nb pi = xs) :
    PRows w' gO np (pi + 1) nb (cells.setIfInBounds pi v) := by
  have h' := h.turn k
  subst hm
  refine ⟨by simp [h.size], fun x hxi => ?_, fun x h1 h2 => ?_⟩
  · by_cases e : x = pi
    · subst e
      obtain ⟨A, c, rfl⟩ := own_slice hown
      refine ⟨A, c, ?_, fun hne => ?_⟩
      · rw [Array.getElem?_setIfInBounds_self_of_lt (by rw [h.size]; exact hi), hx]
      · rw [hx] at hne ⊢
        have h0 : 0 < xs.length := List.length_pos_iff.2 hne
        obtain ⟨g, e, hg1, hL⟩ := lst_of_own h0 (by simp [numV]) hown
        refine ⟨g, e, hL.lt, by omega, fun j y hy => ?_⟩
        have hj : j < xs.length := by
          rcases Nat.lt_or_ge j xs.length with h1 | h1
          · exact h1
          · rw [List.getElem?_eq_none h1] at hy; cases hy
        rw [hL.at_ j (by simpa [numV] using hj)]
        simp [numV, hy]
    · obtain ⟨A, c, h1, h2⟩ := h'.done x (by omega)
      exact ⟨A, c, by rw [Array.getElem?_setIfInBounds_ne (fun e2 => e e2.symm)]; exact h1, h2⟩
  · rw [Array.getElem?_setIfInBounds_ne (by omega)]
    exact h.rest x (by omega) h2
/-- what the walk keeps of the world behind an append to a row -/
theorem two_trunc {gO : Nat} {W1 wr : World} (k : Two2 gO gO W1 wr) (z : World) : Two2 gO gO W1 (ext (trunc wr W1.heap.size) z) := by
  have h := Ext.ext_self (trunc wr W1.heap.size) z
  have hs := trunc_size k.size
  refine ⟨h.os.trans k.os, h.tape.trans k.tape, h.output.trans k.output, by have := h.size; omega, fun b hb h1 h2 => ?_⟩
  rw [h.block b (by omega), trunc_at _ _ _ hb]
  exact k.block b hb h1 h2
theorem PRows.par {w : World} {gO np n : Nat} {nb : Nat → List Nat} {cells : Array Value} (h : PRows w gO np np nb cells) (hB : Blk w gO 72 cells) (hl : ∀ pi, (nb pi).length ≤ 1000) : ParIn w gO np n nb := by
  refine ⟨fun x hx => ?_, hB.lt, fun x _ => hl x⟩
  obtain ⟨A, c, h1, h2⟩ := h.done x hx
  refine ⟨A, c, by rw [hB.cell]; exact h1, fun hne => ?_⟩
  obtain ⟨g, e, h3, _, h5⟩ := h2 hne
  exact ⟨g, e, h3, h5⟩
theorem run_max2 {P : Program} (ts : Array TypeId) (T : TypeId) (k : IntKind) (a b : Int) (w : World) : (Builtin.max_ ts T #[.int k a, .int k b]).run P w = .ok (.int k (max a b)) w := by
  have e : (Builtin.max_ ts T #[.int k a, .int k b]).run P w = .ok (.int k (if a < b then b else a)) w := by simp [Builtin.max_, Builtin.max2]
  rw [e]
  congr 2
  split <;> omega
theorem wpList_max2 {P : Program} {ops : Array Oper} {rest : List Oper} {o : Oper} {a : Act} {w : World} {Q : Exit → Act → World → Prop} (hgd : o.guard = none) (x y : Operand) (ts : Array TypeId) (ho : o.op = .call { callee := .builtin .max, args := #[x, y], argTypes := ts })
    (k : IntKind) (p q u : Int) (hu : max p q = u) (hx : a.eval x = .int k p) (hy : a.eval y = .int k q) (h : wpList P ops Q rest (a.put o.dst (.int k u)) w) : wpList P ops Q (o :: rest) a w :=
  wpList_plain hgd fun _ hK => by
    subst hu
    unfold Oper.wp execOp
    simp only [ho, resolve, invoke, builtin, Sem.run_bind, Sem.run_pure, Result.andThen_ok, List.map_toArray, List.map_cons, List.map_nil, hx, hy, run_max2]
    exact hK _ _ h
end Go.Proofs.Ytchplmenkdghcaa
namespace Go.Proofs.Ytchplmenkdghcaa
open Go.RowKit
abbrev clA (c : Cl) : Array Value := #[.int .i64 c.turns, .int .i64 c.shift, .int .i64 c.elastic, .int .i64 c.reach, .int .i64 c.spread]
abbrev ysA (ylo yhi : Nat → Int) : Array Value := #[.int .i64 (ylo 0), .int .i64 (yhi 0), .int .i64 (ylo 1), .int .i64 (yhi 1), .int .i64 (ylo 2), .int .i64 (yhi 2), .int .i64 (ylo 3), .int .i64 (yhi 3)]
set_option maxRecDepth 100000 in
set_option maxHeartbeats 8000000 in
theorem pairs_any (c : Cl) (hc : c.ok) (lp lq : List Mi) (n xlo xhi : Int) (ylo yhi : Nat → Int) (hp : ∀ m ∈ lp, m.ok) (hq : ∀ m ∈ lq, m.ok) (hn : -3 ≤ n ∧ n ≤ 3) (hxl : -100 ≤ xlo ∧ xlo ≤ 100) (hxh : -100 ≤ xhi ∧ xhi ≤ 100) (hyl : ∀ j, j < 4 → -100 ≤ ylo j ∧ ylo j ≤ 100) (hyh : ∀ j, j < 4 → -100 ≤ yhi j ∧ yhi j ≤ 100) (hnp : lp.length ≤ 100) (hnq : lq.length ≤ 100) (Ap Aq : Option Addr) (cp cq : Nat) (w : World) (hP : Pts w Ap lp) (hQ : Pts w Aq lq) :
    Calls Try.prog 41 #[.slice Ap lp.length cp, .slice Aq lq.length cq, c.val, .int .i64 n, spV xlo xhi, spansV ylo yhi] w fun e w' => e = .returned (.int .i64 (mmk (nbF lq.length (parL c lp lq n xlo xhi ylo yhi)) lp.length [])) ∧ Ext w w' := by
  have HP := Lib.hid hP
  have HQ := Lib.hid hQ
  clear hP hQ
  have hlp : lp.length ≤ 65536 := by omega
  go_enter Try.func41, Try.ntmps41
  go_wp2_with (at_make; refine wpList_make_blk _ rfl (.tmp 21) (.tmp 21) 111 rfl 72 (.slice none 0 0) zInfoR lp.length hlp rfl rfl ?_; intro z0 hB0; have o0 := Old.mk hB0.lt)
  have hs : (((w.alloc (.cells (clA c) 26)).alloc (.cells #[.int .i64 xlo, .int .i64 xhi] 100)).alloc (.cells (ysA ylo yhi) 101)).heap.size = w.heap.size + 1 + 1 + 1 := by simp
  have HCl := Lib.hid ((((Blk.new w 26 (clA c)).alloc (.cells #[.int .i64 xlo, .int .i64 xhi] 100)).alloc (.cells (ysA ylo yhi) 101)).ext z0)
  have HXs := Lib.hid (((Blk.new' (w.alloc (.cells (clA c) 26)) 100 #[.int .i64 xlo, .int .i64 xhi] (w.heap.size + 1) (by simp)).alloc (.cells (ysA ylo yhi) 101)).ext z0)
  have HYs := Lib.hid ((Blk.new' ((w.alloc (.cells (clA c) 26)).alloc (.cells #[.int .i64 xlo, .int .i64 xhi] 100)) 101 (ysA ylo yhi) (w.heap.size + 1 + 1) (by simp)).ext z0)
  have HE := Lib.hid (((((Ext.refl w).alloc (.cells (clA c) 26)).alloc (.cells #[.int .i64 xlo, .int .i64 xhi] 100)).alloc (.cells (ysA ylo yhi) 101)).ext z0)
  rw [hs] at hB0
  have HB0 := Lib.hid hB0
  clear hB0 o0
  obtain ⟨nb, hnb⟩ : ∃ nb, nb = nbF lq.length (parL c lp lq n xlo xhi ylo yhi) := ⟨_, rfl⟩
  have HNB := Lib.hid hnb
  clear hnb
  obtain ⟨gO, hgO⟩ : ∃ g, g = w.heap.size + 1 + 1 + 1 := ⟨_, rfl⟩
  have HG := Lib.hid hgO
  rw [← hgO] at HB0 ⊢
  clear hgO hs
  generalize ext (((w.alloc (.cells (clA c) 26)).alloc (.cells #[.int .i64 xlo, .int .i64 xhi] 100)).alloc (.cells (ysA ylo yhi) 101)) z0 = V at *
  have HGl := Lib.hid (show gO < V.heap.size ∧ w.heap.size + 1 + 1 < gO from ⟨HB0.out.lt, by have := HG.out; omega⟩)
  go_loopw [14, 15, 16, 17, 18, 19, 25] (fun _ _ _ _ _ _ t wr => ∃ (pi : Nat) (cells : Array Value), pi ≤ lp.length ∧ t = .int .i64 pi ∧ Blk wr gO 72 cells ∧ PRows wr gO lp.length pi nb cells ∧ Two2 gO gO V wr) (fun _ _ _ _ _ _ t _ => lp.length - (intOf t).toNat)
  case atStart => exact ⟨0, _, Nat.zero_le _, rfl, HB0.out, PRows.zero _ _ _ _, Two2.refl _ _ _⟩
  case round =>
    clear HB0
    obtain ⟨pi, cells, hi, rfl, hB, hR, hT⟩ := hrel
    have HB := Lib.hid hB
    have HR := Lib.hid hR
    have HT := Lib.hid hT
    clear hB hR hT
    by_cases hin : pi < lp.length
    · have hii : (pi : Int) < lp.length := by omega
      obtain ⟨m, hm⟩ : ∃ m, lp[pi]? = some m := ⟨_, List.getElem?_eq_getElem hin⟩
      have hmok := hp m (List.mem_of_getElem? hm)
      have pP := HP.out
      rcases pP with rfl | ⟨bp, op, rfl, hbp, hcp⟩
      · simp at hin
      have hwV : Two2 gO gO w wr := (Two2.of_ext HE.out).trans HT.out
      obtain ⟨p0, p1, p2, p3⟩ := hcp pi m hm
      have p0' := (hwV.cell hbp (by have := HGl.out; omega) (by have := HGl.out; omega) _).trans p0
      have p1' := (hwV.cell hbp (by have := HGl.out; omega) (by have := HGl.out; omega) _).trans p1
      have p2' := (hwV.cell hbp (by have := HGl.out; omega) (by have := HGl.out; omega) _).trans p2
      have p3' := (hwV.cell hbp (by have := HGl.out; omega) (by have := HGl.out; omega) _).trans p3
      have CT : ∀ w, Calls Try.prog 49 #[m.val, .int .i64 n] w fun e w' => e = .returned (.agg #[.int .i64 (turnX m n), .int .i64 (turnY m n), .int .i64 (turnD m n), .int .i64 (m.x / 16), .int .u8 m.kind]) ∧ Ext w w' := fun w => turn_any m n hmok.x hmok.y hmok.dir hn w
      replace CT := Lib.hid CT
      have HMX := Lib.hid hmok
      have HPar := Lib.hid (fun (mo : Mi) (j : Nat) (h : lq[j]? = some mo) => show parL c lp lq n xlo xhi ylo yhi pi j = parB c m mo n xlo xhi ylo yhi by unfold parL; rw [hm, h])
      have t1 := turnX_in (n := n) hmok.x hmok.y
      have t2 := turnY_in (n := n) hmok.x hmok.y
      have t3 : 0 ≤ turnD m n ∧ turnD m n < 16 := by unfold turnD; omega
      have t4 : 0 ≤ m.x / 16 ∧ m.x / 16 < 4 := by have := hmok.x; omega
      have HPB := Lib.hid (fun mo : Mi => show parB c m mo n xlo xhi ylo yhi = (decide (m.kind = mo.kind) && decide (min (max (turnD m n - 2 * mo.dir) (-(turnD m n - 2 * mo.dir))) (16 - max (turnD m n - 2 * mo.dir) (-(turnD m n - 2 * mo.dir))) ≤ c.spread) && nearN xlo xhi (turnX m n) mo.x c.reach && nearN (ylo (m.x / 16).toNat) (yhi (m.x / 16).toNat) (turnY m n) mo.y c.reach) from rfl)
      clear hmok hwV p0 p1 p2 p3 hcp
      generalize turnX m n = tx at *
      generalize turnY m n = ty at *
      generalize turnD m n = td at *
      generalize m.x / 16 = st at *
      go_wp2_with fail
      refine Calls.ext (CT.out _) fun z1 => ?_
      go_wp2_with fail
      have HB1 := Lib.hid (((HB.out.alloc (.cells #[.int .i64 m.x, .int .i64 m.y, .int .u8 m.kind, .int .u8 m.dir] 57)).ext z1).alloc (.cells #[.int .i64 tx, .int .i64 ty, .int .i64 td, .int .i64 st, .int .u8 m.kind] 113))
      have hE1 := (((Ext.refl wr).alloc (.cells #[.int .i64 m.x, .int .i64 m.y, .int .u8 m.kind, .int .u8 m.dir] 57)).ext z1).alloc (.cells #[.int .i64 tx, .int .i64 ty, .int .i64 td, .int .i64 st, .int .u8 m.kind] 113)
      have HT1 := Lib.hid (HT.out.trans (Two2.of_ext hE1))
      have HR1 := Lib.hid (HR.out.turn (Two2.of_ext hE1))
      have HX1 := Lib.hid (Blk.new (ext (wr.alloc (.cells #[.int .i64 m.x, .int .i64 m.y, .int .u8 m.kind, .int .u8 m.dir] 57)) z1) 113 #[.int .i64 tx, .int .i64 ty, .int .i64 td, .int .i64 st, .int .u8 m.kind])
      have HN1 := Lib.hid (show gO ≠ (ext (wr.alloc (.cells #[.int .i64 m.x, .int .i64 m.y, .int .u8 m.kind, .int .u8 m.dir] 57)) z1).heap.size from by have := ((HB.out.alloc (.cells #[.int .i64 m.x, .int .i64 m.y, .int .u8 m.kind, .int .u8 m.dir] 57)).ext z1).lt; omega)
      clear hE1 HB HT HR p0' p1' p2' p3' CT
      generalize (ext (wr.alloc (.cells #[.int .i64 m.x, .int .i64 m.y, .int .u8 m.kind, .int .u8 m.dir] 57)) z1).alloc (.cells #[.int .i64 tx, .int .i64 ty, .int .i64 td, .int .i64 st, .int .u8 m.kind] 113) = W1 at *
      generalize (ext (wr.alloc (.cells #[.int .i64 m.x, .int .i64 m.y, .int .u8 m.kind, .int .u8 m.dir] 57)) z1).heap.size = gt at *
      obtain ⟨f, hf⟩ : ∃ f, f = parL c lp lq n xlo xhi ylo yhi pi := ⟨_, rfl⟩
      rw [← hf] at HPar
      have HF := Lib.hid hf
      clear hf
      go_loopw [17, 18, 19, 35] (fun _ _ _ t wr2 => ∃ (k : Nat) (v : Value), k ≤ lq.length ∧ t = .int .i64 k ∧ wr2.ownsRow W1.heap.size 3 1 v (partL f k).length (numV (partL f k)) ∧ Blk wr2 gO 72 (cells.setIfInBounds pi v) ∧ Two2 gO gO W1 wr2) (fun _ _ _ t _ => lq.length - (intOf t).toNat)
      case atStart =>
        refine ⟨0, .slice none 0 0, Nat.zero_le _, rfl, own_nil _ _ _ _, ?_, Two2.refl _ _ _⟩
        have e : cells.setIfInBounds pi (.slice none 0 0) = cells := by
          apply Array.ext_getElem?
          intro j
          by_cases h : pi = j
          · subst h
            rw [Array.getElem?_setIfInBounds_self_of_lt (by rw [HR1.out.size]; exact hin), HR1.out.rest pi (Nat.le_refl _) hin]
          · rw [Array.getElem?_setIfInBounds_ne h]
        rw [e]; exact HB1.out
      case round =>
        obtain ⟨k, v, hk, rfl, hown, hB2, hT2⟩ := hrel
        have HOwn := Lib.hid hown
        have HB2 := Lib.hid hB2
        have HT2 := Lib.hid hT2
        clear hown hB2 hT2
        by_cases hkn : k < lq.length
        · have hki : (k : Int) < lq.length := by omega
          obtain ⟨mo, ho⟩ : ∃ o, lq[k]? = some o := ⟨_, List.getElem?_eq_getElem hkn⟩
          have hook := hq mo (List.mem_of_getElem? ho)
          have pQ := HQ.out
          rcases pQ with rfl | ⟨bq, oq, rfl, hbq, hcq⟩
          · simp at hkn
          have hwV : Two2 gO gO w wr := ((Two2.of_ext HE.out).trans HT1.out).trans HT2.out
          obtain ⟨q0, q1, q2, q3⟩ := hcq k mo ho
          have q0' := (hwV.cell hbq (by have := HGl.out; omega) (by have := HGl.out; omega) _).trans q0
          have q1' := (hwV.cell hbq (by have := HGl.out; omega) (by have := HGl.out; omega) _).trans q1
          have q2' := (hwV.cell hbq (by have := HGl.out; omega) (by have := HGl.out; omega) _).trans q2
          have q3' := (hwV.cell hbq (by have := HGl.out; omega) (by have := HGl.out; omega) _).trans q3
          have hVr : Two2 gO gO V wr := HT1.out.trans HT2.out
          have bC := HCl.out.turn hVr (by have := HGl.out; omega) (by have := HGl.out; omega)
          have bX := HXs.out.turn hVr (by have := HGl.out; omega) (by have := HGl.out; omega)
          have bY := HYs.out.turn hVr (by have := HGl.out; omega) (by have := HGl.out; omega)
          have bT := HX1.out.turn HT2.out (fun e => HN1.out e.symm) (fun e => HN1.out e.symm)
          have oC := Old.mk bC.lt
          have oX := Old.mk bX.lt
          have oY := Old.mk bY.lt
          have oT := Old.mk bT.lt
          have oQ := Old.mk (Nat.lt_of_lt_of_le hbq hwV.size)
          have oG := Old.mk HB2.out.lt
          have r0 : wr.cell? ⟨gt, 0, none⟩ = some (.int .i64 tx) := bT.cell 0
          have r1 : wr.cell? ⟨gt, 1, none⟩ = some (.int .i64 ty) := bT.cell 1
          have r2 : wr.cell? ⟨gt, 2, none⟩ = some (.int .i64 td) := bT.cell 2
          have r3 : wr.cell? ⟨gt, 3, none⟩ = some (.int .i64 st) := bT.cell 3
          have r4 : wr.cell? ⟨gt, 4, none⟩ = some (.int .u8 m.kind) := bT.cell 4
          have s3 : wr.cell? ⟨w.heap.size, 3, none⟩ = some (.int .i64 c.reach) := bC.cell 3
          have s4 : wr.cell? ⟨w.heap.size, 4, none⟩ = some (.int .i64 c.spread) := bC.cell 4
          have x0 : wr.cell? ⟨w.heap.size + 1, 0, none⟩ = some (.int .i64 xlo) := bX.cell 0
          have x1 : wr.cell? ⟨w.heap.size + 1, 1, none⟩ = some (.int .i64 xhi) := bX.cell 1
          obtain ⟨sn, hsn⟩ : ∃ sn : Nat, st = sn := ⟨st.toNat, by omega⟩
          subst hsn
          have hsn4 : sn < 4 := by omega
          have y0 : wr.cell? ⟨w.heap.size + 1 + 1, sn * 2, none⟩ = some (.int .i64 (ylo sn)) := by
            rw [bY.cell]
            rcases (show sn = 0 ∨ sn = 1 ∨ sn = 2 ∨ sn = 3 by omega) with rfl | rfl | rfl | rfl <;> rfl
          have y1 : wr.cell? ⟨w.heap.size + 1 + 1, sn * 2 + 1, none⟩ = some (.int .i64 (yhi sn)) := by
            rw [bY.cell]
            rcases (show sn = 0 ∨ sn = 1 ∨ sn = 2 ∨ sn = 3 by omega) with rfl | rfl | rfl | rfl <;> rfl
          obtain ⟨o1, o2⟩ := hook.x
          obtain ⟨o3, o4⟩ := hook.y
          obtain ⟨o5, o6⟩ := hook.dir
          have C3 := Lib.hid (fun w => near_any xlo xhi tx mo.x c.reach (by omega) (by omega) (by omega) (by omega) (by have := hc.reach; omega) w)
          have C4 := Lib.hid (fun w => near_any (ylo sn) (yhi sn) ty mo.y c.reach (by have := hyl sn hsn4; omega) (by have := hyh sn hsn4; omega) (by omega) (by omega) (by have := hc.reach; omega) w)
          obtain ⟨ta, hta⟩ : ∃ ta, ta = max (td - 2 * mo.dir) (2 * mo.dir - td) := ⟨_, rfl⟩
          have HM := Lib.hid hta.symm
          have HV := Lib.hid (show f k = (decide (m.kind = mo.kind) && decide (min ta (16 - ta) ≤ c.spread) && nearN xlo xhi tx mo.x c.reach && nearN (ylo sn) (yhi sn) ty mo.y c.reach) from by
            rw [HPar.out mo k ho, HPB.out mo, show -(td - 2 * mo.dir) = 2 * mo.dir - td by omega, ← hta]; rfl)
          have hta2 : 0 ≤ ta ∧ ta ≤ 100 := by omega
          clear hta HPar HPB
          have c97 : wr.cell? ⟨gO, pi, none⟩ = some v := by
            rw [HB2.out.cell]
            exact Array.getElem?_setIfInBounds_self_of_lt (by rw [HR1.out.size]; exact hin)
          clear hook q0 q1 q2 q3 hcq hwV hVr bC bX bY bT
          go_wp2_with (refine wpList_max2 rfl (.tmp 46) (.tmp 53) #[3, 3] rfl .i64 _ _ ta HM.out rfl rfl ?_)
          cases e1 : decide (m.kind = mo.kind)
          · have e1' : (m.kind == mo.kind) = false := by simpa using e1
            have HV1 := Lib.hid (show f k = false from HV.out.trans (by rw [e1]; simp))
            clear HV
            refine wp_region_ext (by kernel_rfl) (by kernel_rfl) ?_
            repeat (go_big_quiet_step (fail))
            refine wpQuiet_nil ?_
            rintro _ ⟨z2, rfl⟩
            go_wp2_with fail
            have hE2 := (((Ext.refl wr).alloc (.cells #[.int .i64 mo.x, .int .i64 mo.y, .int .u8 mo.kind, .int .u8 mo.dir] 57)).ext z2)
            exact ⟨⟨k + 1, v, by omega, by go_num, by rw [partL_no HV1.out]; exact own_grow HOwn.out hE2, HB2.out.grow hE2, HT2.out.trans (Two2.of_ext hE2)⟩, by simp [intOf]; omega⟩
          have e1' : (m.kind == mo.kind) = true := by simpa using e1
          by_cases hm1 : 16 - ta < ta
          · have hmn : min ta (16 - ta) = 16 - ta := by omega
            rw [hmn] at HV
            cases e2 : decide (16 - ta ≤ c.spread)
            · have HV1 := Lib.hid (show f k = false from HV.out.trans (by rw [e1, e2]; simp))
              clear HV
              refine wp_region_ext (by kernel_rfl) (by kernel_rfl) ?_
              repeat (go_big_quiet_step (fail))
              refine wpQuiet_nil ?_
              rintro _ ⟨z2, rfl⟩
              go_wp2_with fail
              have hE2 := (((Ext.refl wr).alloc (.cells #[.int .i64 mo.x, .int .i64 mo.y, .int .u8 mo.kind, .int .u8 mo.dir] 57)).ext z2)
              exact ⟨⟨k + 1, v, by omega, by go_num, by rw [partL_no HV1.out]; exact own_grow HOwn.out hE2, HB2.out.grow hE2, HT2.out.trans (Two2.of_ext hE2)⟩, by simp [intOf]; omega⟩
            cases e3 : nearN xlo xhi tx mo.x c.reach
            · rw [e3] at C3
              have HV1 := Lib.hid (show f k = false from HV.out.trans (by rw [e1, e2, e3]; simp))
              clear HV
              refine wp_region_ext (by kernel_rfl) (by kernel_rfl) ?_
              repeat (go_big_quiet_step ((go_at_call 50; exact Calls.quiet_ext (C3.out _))))
              refine wpQuiet_nil ?_
              rintro _ ⟨z2, rfl⟩
              go_wp2_with fail
              have hE2 := (((Ext.refl wr).alloc (.cells #[.int .i64 mo.x, .int .i64 mo.y, .int .u8 mo.kind, .int .u8 mo.dir] 57)).ext z2)
              exact ⟨⟨k + 1, v, by omega, by go_num, by rw [partL_no HV1.out]; exact own_grow HOwn.out hE2, HB2.out.grow hE2, HT2.out.trans (Two2.of_ext hE2)⟩, by simp [intOf]; omega⟩
            cases e4 : nearN (ylo sn) (yhi sn) ty mo.y c.reach
            · rw [e3] at C3
              rw [e4] at C4
              have HV1 := Lib.hid (show f k = false from HV.out.trans (by rw [e1, e2, e3, e4]; simp))
              clear HV
              refine wp_region_ext (by kernel_rfl) (by kernel_rfl) ?_
              repeat (go_big_quiet_step (first | (go_at_call 50; with_reducible exact Calls.quiet_ext (C3.out _)) | (go_at_call 50; with_reducible exact Calls.quiet_ext (C4.out _))))
              refine wpQuiet_nil ?_
              rintro _ ⟨z2, rfl⟩
              go_wp2_with fail
              have hE2 := (((Ext.refl wr).alloc (.cells #[.int .i64 mo.x, .int .i64 mo.y, .int .u8 mo.kind, .int .u8 mo.dir] 57)).ext z2)
              exact ⟨⟨k + 1, v, by omega, by go_num, by rw [partL_no HV1.out]; exact own_grow HOwn.out hE2, HB2.out.grow hE2, HT2.out.trans (Two2.of_ext hE2)⟩, by simp [intOf]; omega⟩
            have HV1 := Lib.hid (show f k = true from HV.out.trans (by rw [e1, e2, e3, e4]; simp))
            rw [e3] at C3
            rw [e4] at C4
            clear HV
            refine wp_region_ext (by kernel_rfl) (by kernel_rfl) ?_
            repeat (go_big_quiet_step (first | (go_at_call 50; with_reducible exact Calls.quiet_ext (C3.out _)) | (go_at_call 50; with_reducible exact Calls.quiet_ext (C4.out _))))
            refine wpQuiet_nil ?_
            rintro _ ⟨z2, rfl⟩
            clear C3 C4
            have hE2 := (((Ext.refl wr).alloc (.cells #[.int .i64 mo.x, .int .i64 mo.y, .int .u8 mo.kind, .int .u8 mo.dir] 57)).ext z2)
            have HS2 := Lib.hid (HT2.out.trans (Two2.of_ext hE2))
            have HOwn2 := Lib.hid (own_grow HOwn.out hE2)
            have HB3 := Lib.hid (HB2.out.grow hE2)
            have HN2 := Lib.hid (show gO < W1.heap.size from HB1.out.lt)
            have c98 : (ext (wr.alloc (.cells #[.int .i64 mo.x, .int .i64 mo.y, .int .u8 mo.kind, .int .u8 mo.dir] 57)) z2).cell? ⟨gO, pi, none⟩ = some v := by
              rw [hE2.cell (p := ⟨gO, pi, none⟩) HB2.out.lt]; exact c97
            clear HOwn HB2 HT2 hE2 c97
            have hcv : (cells.setIfInBounds pi v)[pi]? = some v := Array.getElem?_setIfInBounds_self_of_lt (by rw [HR1.out.size]; exact hin)
            have oG := Old.mk HB3.out.lt
            generalize ext (wr.alloc (.cells #[.int .i64 mo.x, .int .i64 mo.y, .int .u8 mo.kind, .int .u8 mo.dir] 57)) z2 = W2 at *
            have hvl : (partL f k).length ≤ k := partL_len f k
            go_wp2_with (at_builtin; refine wpList_append_keep rfl (trunc (W2.alloc (.cells #[.int .i64 k] 3)) W1.heap.size) (trunc_ext (by have := HS2.out.size; simp; omega)) infoN (.tmp 97) (.tmp 99) rfl v (partL f k).length (numV (partL f k)) rfl (by rw [trunc_size (by have := HS2.out.size; simp; omega)]; exact own_grow HOwn2.out ((Ext.refl W2).alloc _)) _ 1 1 [.int .i64 (k : Int)] rfl (by decide) (Slc.of_blk (cs := #[.int .i64 (k : Int)]) (t := 3) (Blk.new W2 3 #[.int .i64 (k : Int)]) rfl) (by simp [Value.oneCell']) (by omega) (by decide) ?_; intro A2 c2 z3 hown2 hkeep; have HB5 := Lib.hid ((trunc_blk (HB3.out.alloc (.cells #[.int .i64 (k : Int)] 3)) HN2.out).ext z3); have c101 := (HB5.out.cell pi).trans hcv; have f101 := HB5.out.frozen pi)
            rw [trunc_size (by have := HS2.out.size; simp; omega)] at hown2
            have e2' : (cells.setIfInBounds pi v).setIfInBounds pi (.slice A2 ((partL f k).length + 1) c2) = cells.setIfInBounds pi (.slice A2 ((partL f k).length + 1) c2) := by
              apply Array.ext_getElem?
              intro j
              by_cases h : pi = j
              · subst h
                rw [Array.getElem?_setIfInBounds_self_of_lt (by simp [HR1.out.size]; exact hin), Array.getElem?_setIfInBounds_self_of_lt (by rw [HR1.out.size]; exact hin)]
              · rw [Array.getElem?_setIfInBounds_ne h, Array.getElem?_setIfInBounds_ne h, Array.getElem?_setIfInBounds_ne h]
            have ep : partL f (k + 1) = partL f k ++ [k] := partL_yes HV1.out
            have el : (partL f (k + 1)).length = (partL f k).length + 1 := by rw [ep]; simp
            refine ⟨⟨k + 1, .slice A2 ((partL f k).length + 1) c2, by omega, by go_num, ?_, ?_, ?_⟩, by simp [intOf]; omega⟩
            · rw [el, ep]
              have : numV (partL f k ++ [k]) = numV (partL f k) ++ [.int .i64 (k : Int)] := by simp [numV]
              rw [this]
              exact ownsRow_setCell_below hown2 HN2.out _
            · have := HB5.out.set_ pi (.slice A2 ((partL f k).length + 1) c2)
              rw [e2'] at this
              exact this
            · exact ((two_trunc (HS2.out.trans (Two2.of_ext ((Ext.refl W2).alloc _))) z3)).set_ (.inl rfl) _
          · have hmn : min ta (16 - ta) = ta := by omega
            rw [hmn] at HV
            cases e2 : decide (ta ≤ c.spread)
            · have HV1 := Lib.hid (show f k = false from HV.out.trans (by rw [e1, e2]; simp))
              clear HV
              refine wp_region_ext (by kernel_rfl) (by kernel_rfl) ?_
              repeat (go_big_quiet_step (fail))
              refine wpQuiet_nil ?_
              rintro _ ⟨z2, rfl⟩
              go_wp2_with fail
              have hE2 := (((Ext.refl wr).alloc (.cells #[.int .i64 mo.x, .int .i64 mo.y, .int .u8 mo.kind, .int .u8 mo.dir] 57)).ext z2)
              exact ⟨⟨k + 1, v, by omega, by go_num, by rw [partL_no HV1.out]; exact own_grow HOwn.out hE2, HB2.out.grow hE2, HT2.out.trans (Two2.of_ext hE2)⟩, by simp [intOf]; omega⟩
            cases e3 : nearN xlo xhi tx mo.x c.reach
            · rw [e3] at C3
              have HV1 := Lib.hid (show f k = false from HV.out.trans (by rw [e1, e2, e3]; simp))
              clear HV
              refine wp_region_ext (by kernel_rfl) (by kernel_rfl) ?_
              repeat (go_big_quiet_step ((go_at_call 50; exact Calls.quiet_ext (C3.out _))))
              refine wpQuiet_nil ?_
              rintro _ ⟨z2, rfl⟩
              go_wp2_with fail
              have hE2 := (((Ext.refl wr).alloc (.cells #[.int .i64 mo.x, .int .i64 mo.y, .int .u8 mo.kind, .int .u8 mo.dir] 57)).ext z2)
              exact ⟨⟨k + 1, v, by omega, by go_num, by rw [partL_no HV1.out]; exact own_grow HOwn.out hE2, HB2.out.grow hE2, HT2.out.trans (Two2.of_ext hE2)⟩, by simp [intOf]; omega⟩
            cases e4 : nearN (ylo sn) (yhi sn) ty mo.y c.reach
            · rw [e3] at C3
              rw [e4] at C4
              have HV1 := Lib.hid (show f k = false from HV.out.trans (by rw [e1, e2, e3, e4]; simp))
              clear HV
              refine wp_region_ext (by kernel_rfl) (by kernel_rfl) ?_
              repeat (go_big_quiet_step (first | (go_at_call 50; with_reducible exact Calls.quiet_ext (C3.out _)) | (go_at_call 50; with_reducible exact Calls.quiet_ext (C4.out _))))
              refine wpQuiet_nil ?_
              rintro _ ⟨z2, rfl⟩
              go_wp2_with fail
              have hE2 := (((Ext.refl wr).alloc (.cells #[.int .i64 mo.x, .int .i64 mo.y, .int .u8 mo.kind, .int .u8 mo.dir] 57)).ext z2)
              exact ⟨⟨k + 1, v, by omega, by go_num, by rw [partL_no HV1.out]; exact own_grow HOwn.out hE2, HB2.out.grow hE2, HT2.out.trans (Two2.of_ext hE2)⟩, by simp [intOf]; omega⟩
            have HV1 := Lib.hid (show f k = true from HV.out.trans (by rw [e1, e2, e3, e4]; simp))
            rw [e3] at C3
            rw [e4] at C4
            clear HV
            refine wp_region_ext (by kernel_rfl) (by kernel_rfl) ?_
            repeat (go_big_quiet_step (first | (go_at_call 50; with_reducible exact Calls.quiet_ext (C3.out _)) | (go_at_call 50; with_reducible exact Calls.quiet_ext (C4.out _))))
            refine wpQuiet_nil ?_
            rintro _ ⟨z2, rfl⟩
            clear C3 C4
            have hE2 := (((Ext.refl wr).alloc (.cells #[.int .i64 mo.x, .int .i64 mo.y, .int .u8 mo.kind, .int .u8 mo.dir] 57)).ext z2)
            have HS2 := Lib.hid (HT2.out.trans (Two2.of_ext hE2))
            have HOwn2 := Lib.hid (own_grow HOwn.out hE2)
            have HB3 := Lib.hid (HB2.out.grow hE2)
            have HN2 := Lib.hid (show gO < W1.heap.size from HB1.out.lt)
            have c98 : (ext (wr.alloc (.cells #[.int .i64 mo.x, .int .i64 mo.y, .int .u8 mo.kind, .int .u8 mo.dir] 57)) z2).cell? ⟨gO, pi, none⟩ = some v := by
              rw [hE2.cell (p := ⟨gO, pi, none⟩) HB2.out.lt]; exact c97
            clear HOwn HB2 HT2 hE2 c97
            have hcv : (cells.setIfInBounds pi v)[pi]? = some v := Array.getElem?_setIfInBounds_self_of_lt (by rw [HR1.out.size]; exact hin)
            have oG := Old.mk HB3.out.lt
            generalize ext (wr.alloc (.cells #[.int .i64 mo.x, .int .i64 mo.y, .int .u8 mo.kind, .int .u8 mo.dir] 57)) z2 = W2 at *
            have hvl : (partL f k).length ≤ k := partL_len f k
            go_wp2_with (at_builtin; refine wpList_append_keep rfl (trunc (W2.alloc (.cells #[.int .i64 k] 3)) W1.heap.size) (trunc_ext (by have := HS2.out.size; simp; omega)) infoN (.tmp 97) (.tmp 99) rfl v (partL f k).length (numV (partL f k)) rfl (by rw [trunc_size (by have := HS2.out.size; simp; omega)]; exact own_grow HOwn2.out ((Ext.refl W2).alloc _)) _ 1 1 [.int .i64 (k : Int)] rfl (by decide) (Slc.of_blk (cs := #[.int .i64 (k : Int)]) (t := 3) (Blk.new W2 3 #[.int .i64 (k : Int)]) rfl) (by simp [Value.oneCell']) (by omega) (by decide) ?_; intro A2 c2 z3 hown2 hkeep; have HB5 := Lib.hid ((trunc_blk (HB3.out.alloc (.cells #[.int .i64 (k : Int)] 3)) HN2.out).ext z3); have c101 := (HB5.out.cell pi).trans hcv; have f101 := HB5.out.frozen pi)
            rw [trunc_size (by have := HS2.out.size; simp; omega)] at hown2
            have e2' : (cells.setIfInBounds pi v).setIfInBounds pi (.slice A2 ((partL f k).length + 1) c2) = cells.setIfInBounds pi (.slice A2 ((partL f k).length + 1) c2) := by
              apply Array.ext_getElem?
              intro j
              by_cases h : pi = j
              · subst h
                rw [Array.getElem?_setIfInBounds_self_of_lt (by simp [HR1.out.size]; exact hin), Array.getElem?_setIfInBounds_self_of_lt (by rw [HR1.out.size]; exact hin)]
              · rw [Array.getElem?_setIfInBounds_ne h, Array.getElem?_setIfInBounds_ne h, Array.getElem?_setIfInBounds_ne h]
            have ep : partL f (k + 1) = partL f k ++ [k] := partL_yes HV1.out
            have el : (partL f (k + 1)).length = (partL f k).length + 1 := by rw [ep]; simp
            refine ⟨⟨k + 1, .slice A2 ((partL f k).length + 1) c2, by omega, by go_num, ?_, ?_, ?_⟩, by simp [intOf]; omega⟩
            · rw [el, ep]
              have : numV (partL f k ++ [k]) = numV (partL f k) ++ [.int .i64 (k : Int)] := by simp [numV]
              rw [this]
              exact ownsRow_setCell_below hown2 HN2.out _
            · have := HB5.out.set_ pi (.slice A2 ((partL f k).length + 1) c2)
              rw [e2'] at this
              exact this
            · exact ((two_trunc (HS2.out.trans (Two2.of_ext ((Ext.refl W2).alloc _))) z3)).set_ (.inl rfl) _
        · obtain rfl : k = lq.length := by omega
          have hx : nb pi = partL f lq.length := by rw [HNB.out, ← partL_all, HF.out]
          go_wp2_with fail
          exact ⟨⟨pi + 1, cells.setIfInBounds pi v, by omega, by go_num, HB2.out, HR1.out.step hin HT2.out HB1.out.lt rfl HOwn.out hx, HT1.out.trans HT2.out⟩, by simp [intOf]; omega⟩
    · obtain rfl : pi = lp.length := by omega
      have hlt : ∀ i j, j ∈ nb i → j < lq.length := fun i j h => by rw [HNB.out] at h; exact (nbF_lt h).1
      have hll : ∀ i, (nb i).length ≤ 1000 := fun i => by
        rw [HNB.out, ← partL_all]
        have := partL_len (parL c lp lq n xlo xhi ylo yhi i) lq.length
        omega
      have C := Lib.hid (match_any lp.length lq.length gO lp.length (some ⟨gO, 0, none⟩) nb (fun _ => rfl) (by omega) (by omega) hlt wr (fun _ => HR.out.par HB.out hll))
      clear hlt hll
      go_wp2_with fail
      refine Calls.ext C.out fun z5 => ?_
      go_wp2_with fail
      go_ret
      exact ⟨ret_of (by rw [HNB.out]; rfl), (Two2.ext_ HE.out HT.out (by have := HGl.out; omega) (by have := HGl.out; omega)).ext z5⟩
end Go.Proofs.Ytchplmenkdghcaa
