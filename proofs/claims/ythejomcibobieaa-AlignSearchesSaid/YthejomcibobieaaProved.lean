/- The program's proof check: what its map holds on the way. -/
import Derived.Test.YthejomcibobieaaCovers
import Derived.Test.YthejomcibobieaaBestS
import Derived.Test.YthejomcibobieaaEqAt
import Derived.Test.YthejomcibobieaaSum
import Derived.Deep.CutRange
import Derived.Deep.CutBlock
namespace Go.Proofs.Ythejomcibobieaa
open Go.RowKit

/-- the map in block B counts the list l; the boxes of the class and of the result lie in b, b + 1 -/
structure PvI (w : World) (b B : Nat) (c : Cl) (cs : Array Value) (l : List Mv) (D : DataW Unit) (W : World) : Prop where
  own : W.ownsMap Try.prog 26 (plainElem Try.prog 3) B l.length D
  map : MapL D l
  ext : Ext w W
  cb : Blk W b 38 (clCells c)
  ab : Blk W (b + 1) 58 cs
  lo : w.heap.size ≤ b
  hB : b + 1 < B
section
variable {w : World} {b B : Nat} {c : Cl} {cs : Array Value} {l : List Mv} {D : DataW Unit} {W W' : World}
theorem PvI.grow (h : PvI w b B c cs l D W) (hE : Ext W W') : PvI w b B c cs l D W' :=
  ⟨own_same h.own (hE.block B h.own.lt), h.map, h.ext.trans hE, h.cb.grow hE, h.ab.grow hE, h.lo, h.hB⟩
theorem PvI.inc (h : PvI w b B c cs l D W) {v : Mv} (hv : smV v) (hl : l.length ≤ 1000000) :
    ∃ o0 st o1 o2, W.heap[B]? = some o0 ∧ IncO Try.prog 129 B v.val (l.count v : Nat) ((l.count v : Nat) + 1) st o0 o1 o2 ∧ ∀ W' : World, W.drew.grownBy W' (some B) → W'.heap[B]? = some o2 → ∃ D', PvI w b B c cs (l ++ [v]) D' W' := by
  have hcl : l.count v ≤ l.length := List.count_le_length
  obtain ⟨o0, st, o1, o2, h0, hI, hO⟩ := inc_parts law26 Try.underlying129 Try.underlying3 Try.zeroValue3 h.own (by unfold maxLen; omega) (keyM hv) ((l.count v : Nat) + 1) (WalkArith.wf_i64 (by omega)) (h.map.at_ v hv) (by omega)
  refine ⟨o0, st, o1, o2, h0, hI, fun W' hG h2 => ⟨_, ?_, h.map.put (h.own.tidy (Maps.Keyed.of_law law26)) hv, ?_, ?_, ?_, h.lo, h.hB⟩⟩
  · have := hO W' h2
    rw [List.length_append]
    exact this
  · refine (h.ext.drew).grown hG fun k hk => ?_
    injection hk with hk
    have := h.lo
    have := h.hB
    omega
  · have := h.hB
    exact (hG.block b h.cb.lt (fun e => by injection e with e; omega)).trans h.cb
  · have := h.hB
    exact (hG.block (b + 1) h.ab.lt (fun e => by injection e with e; omega)).trans h.ab
theorem PvI.other (_h : PvI w b B c cs l D W) {g : Nat} {t : TypeId} {ks : Array Value} (hg : Blk W g t ks) (hne : g ≠ B) (hG : W.drew.grownBy W' (some B)) : Blk W' g t ks :=
  (hG.block g hg.lt (fun e => by injection e with e; exact hne e)).trans hg
end
end Go.Proofs.Ythejomcibobieaa
/- The program: whether a result is proved (proved, 62). -/
namespace Go.Proofs.Ythejomcibobieaa
open Go.RowKit

def attL (att : List At) (i : Nat) : List Mv := (att.take i).map (·.mv)
theorem attL_succ {att : List At} {i : Nat} {x : At} (h : att[i]? = some x) : attL att (i + 1) = attL att i ++ [x.mv] := by
  have hi : i < att.length := (List.getElem?_eq_some_iff.1 h).1
  unfold attL
  rw [List.take_succ_eq_append_getElem hi, List.map_append]
  rw [List.getElem?_eq_getElem hi] at h
  injection h with h
  rw [h]
  rfl
theorem attL_len (att : List At) (i : Nat) : (attL att i).length ≤ att.length := by unfold attL; rw [List.length_map, List.length_take]; omega
/-- what is covered by all attempts and the first j blocks -/
def lefL (att : List At) (left : List Rs) (j : Nat) : List Mv := attL att att.length ++ (left.take j).flatMap fun r => movesB r.bk
theorem lefL_zero (att : List At) (left : List Rs) : lefL att left 0 = attL att att.length := by simp [lefL]
theorem lefL_succ {att : List At} {left : List Rs} {j : Nat} {r : Rs} (h : left[j]? = some r) : lefL att left (j + 1) = lefL att left j ++ movesB r.bk := by
  have hi : j < left.length := (List.getElem?_eq_some_iff.1 h).1
  unfold lefL
  rw [List.take_succ_eq_append_getElem hi, List.flatMap_append, List.append_assoc]
  rw [List.getElem?_eq_getElem hi] at h
  injection h with h
  rw [h]
  simp
theorem lefL_all (att : List At) (left : List Rs) : lefL att left left.length = covL att left := by simp [lefL, covL, attL]
theorem rowsB_len (k : Bk) (n : Nat) : (rowsB k n).length = n * (k.x1 - k.x0 + 1).toNat := by
  unfold rowsB
  rw [len_flatMap (m := (k.x1 - k.x0 + 1).toNat) (fun a _ => by simp [rowB, runI_len]), runI_len]
theorem rowB_len (k : Bk) (dy : Int) (n : Nat) : (rowB k dy n).length = n := by simp [rowB, runI_len]
theorem blk_small {c : Cl} (hc : c.ok) {k : Bk} (h : isBlk c k = true) : (-3 ≤ k.turn ∧ k.turn ≤ 3) ∧ (-4 ≤ k.x0 ∧ k.x0 ≤ k.x1 ∧ k.x1 ≤ 4) ∧ (-4 ≤ k.y0 ∧ k.y0 ≤ k.y1 ∧ k.y1 ≤ 4) := by
  rw [isBlk_iff] at h
  have := hc.turns
  have := hc.shift
  omega
theorem rowsB_small {k : Bk} {n : Nat} (hx : -4 ≤ k.x0 ∧ k.x1 ≤ 4) (hn : n ≤ 9) : (rowsB k n).length ≤ 81 := by
  rw [rowsB_len]
  have h : (k.x1 - k.x0 + 1).toNat ≤ 9 := by omega
  have := Nat.mul_le_mul hn h
  omega
theorem ok_all {α : Type} {p : α → Bool} {l : List α} (h : ∀ j x, j < l.length → l[j]? = some x → p x = true) : ∀ x ∈ l, p x = true := fun x hx => by
  obtain ⟨j, hj, rfl⟩ := List.mem_iff_getElem.1 hx
  exact h j _ hj (List.getElem?_eq_getElem hj)
theorem cov_moves {c : Cl} {bnd : Bk → Int} {tr : Mv → At} {att : List At} {left : List Rs} (h1 : ∀ j x, j < att.length → att[j]? = some x → okA c tr x = true) (h2 : ∀ j x, j < left.length → left[j]? = some x → okR c bnd x = true) : ∀ v ∈ covL att left, isMove c v = true := by
  intro v hv
  rcases List.mem_append.1 hv with hv | hv
  · obtain ⟨x, hx, rfl⟩ := List.mem_map.1 hv
    have := ok_all h1 x hx
    unfold okA at this
    simp only [Bool.and_eq_true] at this
    exact this.1
  · obtain ⟨r, hr, hv⟩ := List.mem_flatMap.1 hv
    have := ok_all h2 r hr
    unfold okR at this
    simp only [Bool.and_eq_true] at this
    have h3 := isBlk_iff.1 this.1
    have h4 := hasB_iff.1 (mem_movesB.1 hv)
    rw [isMove_iff]
    omega
theorem PvI.iter {w : World} {b B : Nat} {c : Cl} {cs : Array Value} {l : List Mv} {D : DataW Unit} {W W' : World} (h : PvI w b B c cs l D W) (ho : W'.ownsMap Try.prog 26 (plainElem Try.prog 3) B l.length D) {R : Nat} (hG : W.grownBy W' (some R)) (hR : B < R) : PvI w b B c cs l D W' := by
  have h1 := h.lo
  have h2 := h.hB
  exact ⟨ho, h.map, h.ext.grown hG fun k hk => (by injection hk with hk; omega), (hG.block b h.cb.lt (fun e => by injection e with e; omega)).trans h.cb, (hG.block (b + 1) h.ab.lt (fun e => by injection e with e; omega)).trans h.ab, h1, h2⟩
theorem prod1 {a b : Int} (h1 : 0 ≤ a ∧ a ≤ 3) (h2 : 0 ≤ b ∧ b ≤ 4) : (2 * a + 1) * (2 * b + 1) ≤ 63 ∧ 0 ≤ (2 * a + 1) * (2 * b + 1) := by
  have h := Int.mul_le_mul (show 2 * a + 1 ≤ 7 by omega) (show 2 * b + 1 ≤ 9 by omega) (by omega) (by omega)
  have h' := Int.mul_nonneg (show 0 ≤ 2 * a + 1 by omega) (show 0 ≤ 2 * b + 1 by omega)
  omega
theorem prod2 {a b : Int} (h1 : 0 ≤ a ∧ a ≤ 3) (h2 : 0 ≤ b ∧ b ≤ 4) : (2 * a + 1) * (2 * b + 1) * (2 * b + 1) ≤ 567 ∧ 0 ≤ (2 * a + 1) * (2 * b + 1) * (2 * b + 1) := by
  obtain ⟨p1, p2⟩ := prod1 h1 h2
  have h := Int.mul_le_mul p1 (show 2 * b + 1 ≤ 9 by omega) (by omega) (by omega)
  have h' := Int.mul_nonneg p2 (show 0 ≤ 2 * b + 1 by omega)
  omega
theorem movesC_int {c : Cl} (hc : c.ok) : ((movesC c).length : Int) = (2 * c.turns + 1) * (2 * c.shift + 1) * (2 * c.shift + 1) := by
  have h1 := hc.turns
  have h2 := hc.shift
  rw [movesC_len hc, Int.natCast_mul, Int.natCast_mul, Int.toNat_of_nonneg (by omega), Int.toNat_of_nonneg (by omega), Int.mul_assoc]
theorem sm_move {c : Cl} (hc : c.ok) {v : Mv} (h : isMove c v = true) : smV v := by
  have := move_in hc h
  unfold smV
  omega
set_option maxRecDepth 100000 in
set_option maxHeartbeats 16000000 in
theorem proved_any (c : Cl) (hc : c.ok) (lp lq : List Mi) (hp : ∀ m ∈ lp, m.ok) (hq : ∀ m ∈ lq, m.ok) (hnp : lp.length ≤ 100) (hnq : lq.length ≤ 100) (Ap Aq : Option Addr) (cp cq : Nat) (att : List At) (left : List Rs) (sc bd : Int) (A1 A2 : Option Addr) (c1 c2 : Nat)
    (hna : att.length ≤ 2000) (hnl : left.length ≤ 2000) (hwf : ∀ x ∈ att, x.wf) (w : World) (hP : Pts w Ap lp) (hQ : Pts w Aq lq) (hA : Ats w A1 att) (hL : Rss w A2 left) :
    Calls Try.prog 62 #[.slice Ap lp.length cp, .slice Aq lq.length cq, c.val, .agg #[.int .i64 sc, .int .i64 bd, .slice A1 att.length c1, .slice A2 left.length c2]] w fun e w' => e = .returned (.bool (provB c (bndK c lp lq) (trK c lp lq) ⟨att, left⟩ sc bd)) ∧ Ext w w' := by
  have CT := Lib.hid (fun (v : Mv) (h : isMove c v = true) (W : World) (hE : Ext w W) => show Calls Try.prog 56 #[.slice Ap lp.length cp, .slice Aq lq.length cq, c.val, v.val] W fun e w' => e = .returned (.agg (trK c lp lq v).cells) ∧ Ext W w' from try_any c hc lp lq v hp hq (move_in hc h).1 (move_in hc h).2.1 (move_in hc h).2.2 hnp hnq Ap Aq cp cq W (hP.grow hE) (hQ.grow hE))
  have CM := Lib.hid (fun (v : Mv) (W : World) => move_any c v hc W)
  have CB := Lib.hid (fun (k : Bk) (h : isBlk c k = true) (W : World) (hE : Ext w W) => bound_any c hc lp lq k h hp hq hnp hnq Ap Aq cp cq W (hP.grow hE) (hQ.grow hE))
  have CK := Lib.hid (fun (k : Bk) (W : World) => block_any c k hc W)
  have HMv := Lib.hid (fun v => trK_mv c lp lq v)
  have HSm := Lib.hid (fun (v : Mv) (h : isMove c v = true) => sm_move hc h)
  have HOk := Lib.hid hc
  have HWf := Lib.hid hwf
  have HAt := Lib.hid hA
  have HLe := Lib.hid hL
  obtain ⟨bnd, hbnd⟩ : ∃ bnd, bnd = bndK c lp lq := ⟨_, rfl⟩
  obtain ⟨tr, htr⟩ : ∃ tr, tr = trK c lp lq := ⟨_, rfl⟩
  rw [← hbnd] at CB
  rw [← htr] at CT HMv
  rw [← hbnd, ← htr]
  have HPv := Lib.hid (provB_iff (c := c) (bnd := bnd) (tr := tr) (s := ⟨att, left⟩) (sc := sc) (bd := bd))
  have HNA : Hid (∀ x ∈ att, okA c tr x = false → provB c bnd tr ⟨att, left⟩ sc bd = false) := Lib.hid fun x hx h => by
    rw [Bool.eq_false_iff]
    intro h2
    have := (provB_iff.1 h2).1 x hx
    rw [h] at this
    cases this
  have HNL : Hid (∀ x ∈ left, okR c bnd x = false → provB c bnd tr ⟨att, left⟩ sc bd = false) := Lib.hid fun x hx h => by
    rw [Bool.eq_false_iff]
    intro h2
    have := (provB_iff.1 h2).2.1 x hx
    rw [h] at this
    cases this
  generalize provB c bnd tr ⟨att, left⟩ sc bd = res at *
  obtain ⟨cs, hcs⟩ : ∃ cs : Array Value, cs = #[.int .i64 sc, .int .i64 bd, .slice A1 att.length c1, .slice A2 left.length c2] := ⟨_, rfl⟩
  have HCS := Lib.hid hcs
  clear hcs
  have hT3 := hc.turns
  have hS4 := hc.shift
  clear hbnd htr hc hp hq hnp hnq hP hQ hA hL hwf
  have hmm := @run_makeMap Try.prog
  go_enter Try.func62, Try.ntmps62
  go_wp2_with fail
  have HB0 : Hid (PvI w w.heap.size (w.heap.size + 1 + 1) c cs (attL att 0) (.map []) (((w.alloc (.cells #[.int .i64 c.turns, .int .i64 c.shift, .int .i64 c.elastic, .int .i64 c.reach, .int .i64 c.spread] 38)).alloc (.cells #[.int .i64 sc, .int .i64 bd, .slice A1 att.length c1, .slice A2 left.length c2] 58)).alloc (.map #[] 0))) := Lib.hid
    ⟨by have := World.ownsMap_made (H := Unit) ((w.alloc (.cells #[.int .i64 c.turns, .int .i64 c.shift, .int .i64 c.elastic, .int .i64 c.reach, .int .i64 c.spread] 38)).alloc (.cells #[.int .i64 sc, .int .i64 bd, .slice A1 att.length c1, .slice A2 left.length c2] 58)) Try.prog 26 (plainElem Try.prog 3); simpa [attL] using this, MapL.nil, (((Ext.refl w).alloc _).alloc _).alloc _, ((Blk.new w 38 _).alloc _).alloc _, by rw [HCS.out]; exact (Blk.new' _ _ _ _ (by simp)).alloc _, Nat.le_refl _, by omega⟩
  generalize ((w.alloc (.cells #[.int .i64 c.turns, .int .i64 c.shift, .int .i64 c.elastic, .int .i64 c.reach, .int .i64 c.spread] 38)).alloc (.cells #[.int .i64 sc, .int .i64 bd, .slice A1 att.length c1, .slice A2 left.length c2] 58)).alloc (.map #[] 0) = V at *
  have a2 : V.cell? ⟨w.heap.size + 1, 2, none⟩ = some (.slice A1 att.length c1) := by have := HB0.out.ab.cell 2; rw [HCS.out] at this; exact this
  go_wp2_with fail
  clear a2
  go_loopw [24] (fun t wr => ∃ (i : Nat) (D : DataW Unit), t = .int .i64 i ∧ i ≤ att.length ∧ (∀ j x, j < i → att[j]? = some x → okA c tr x = true) ∧ PvI w w.heap.size (w.heap.size + 1 + 1) c cs (attL att i) D wr) (fun t _ => att.length - (intOf t).toNat)
  case atStart => exact ⟨0, _, rfl, Nat.zero_le _, fun j x hj => absurd hj (Nat.not_lt_zero _), HB0.out⟩
  case round =>
    clear HB0
    obtain ⟨i, D, rfl, hi, hok, hB⟩ := hrel
    have HB := Lib.hid hB
    have HOA := Lib.hid hok
    clear hB hok
    by_cases hlt : i < att.length
    · have hii : (i : Int) < att.length := by omega
      obtain ⟨x, hx⟩ : ∃ x, att[i]? = some x := ⟨_, List.getElem?_eq_getElem hlt⟩
      have HXm := Lib.hid (List.mem_of_getElem? hx)
      rcases HAt.out with hn | ⟨g, off, rfl, hg2, hcl⟩
      · rw [hn] at hlt; simp at hlt
      have og : Nonempty (Old g wr) := ⟨Nat.lt_of_lt_of_le hg2 HB.out.ext.size⟩
      have hcl2 : ∀ j u, x.cellsL[j]? = some u → wr.cell? ⟨g, off + i * 8 + j, none⟩ = some u := fun j u hu => by rw [HB.out.ext.cell (by exact hg2)]; exact hcl i x hx j u hu
      have x0 : wr.cell? ⟨g, off + i * 8, none⟩ = some (.int .i64 x.mv.turn) := hcl2 0 _ rfl
      have x1 := hcl2 1 _ rfl
      have x2 := hcl2 2 _ rfl
      have x3 := hcl2 3 _ rfl
      have x4 := hcl2 4 _ rfl
      have x5 := hcl2 5 _ rfl
      have x6 := hcl2 6 _ rfl
      have x7 := hcl2 7 _ rfl
      have HAS := Lib.hid (attL_succ hx)
      have HXi := Lib.hid hx
      clear hcl hcl2 hx
      go_wp2_with fail
      have HB1 := Lib.hid (HB.out.grow ((Ext.refl wr).alloc (.cells #[.int .i64 x.mv.turn, .int .i64 x.mv.dx, .int .i64 x.mv.dy, .int .i64 x.bd.a, .int .i64 x.bd.b, .int .i64 x.bd.c, .int .i64 x.bd.d, .int .i64 x.score] 46)))
      have HX := Lib.hid (Blk.new wr 46 #[.int .i64 x.mv.turn, .int .i64 x.mv.dx, .int .i64 x.mv.dy, .int .i64 x.bd.a, .int .i64 x.bd.b, .int .i64 x.bd.c, .int .i64 x.bd.d, .int .i64 x.score])
      have hXB : w.heap.size + 1 + 1 < wr.heap.size := HB.out.own.lt
      generalize wr.alloc (.cells #[.int .i64 x.mv.turn, .int .i64 x.mv.dx, .int .i64 x.mv.dy, .int .i64 x.bd.a, .int .i64 x.bd.b, .int .i64 x.bd.c, .int .i64 x.bd.d, .int .i64 x.score] 46) = W1 at *
      generalize wr.heap.size = X at *
      clear x0 x1 x2 x3 x4 x5 x6 x7 og HB
      have oC := Old.mk HB1.out.cb.lt
      have oX := Old.mk HX.out.lt
      have d0 : W1.cell? ⟨w.heap.size, 0, none⟩ = some (.int .i64 c.turns) := HB1.out.cb.cell 0
      have d1 : W1.cell? ⟨w.heap.size, 1, none⟩ = some (.int .i64 c.shift) := HB1.out.cb.cell 1
      have d2 : W1.cell? ⟨w.heap.size, 2, none⟩ = some (.int .i64 c.elastic) := HB1.out.cb.cell 2
      have d3 : W1.cell? ⟨w.heap.size, 3, none⟩ = some (.int .i64 c.reach) := HB1.out.cb.cell 3
      have d4 : W1.cell? ⟨w.heap.size, 4, none⟩ = some (.int .i64 c.spread) := HB1.out.cb.cell 4
      have x0 : W1.cell? ⟨X, 0, none⟩ = some (.int .i64 x.mv.turn) := HX.out.cell 0
      have x1 : W1.cell? ⟨X, 1, none⟩ = some (.int .i64 x.mv.dx) := HX.out.cell 1
      have x2 : W1.cell? ⟨X, 2, none⟩ = some (.int .i64 x.mv.dy) := HX.out.cell 2
      have x3 : W1.cell? ⟨X, 3, none⟩ = some (.int .i64 x.bd.a) := HX.out.cell 3
      have x4 : W1.cell? ⟨X, 4, none⟩ = some (.int .i64 x.bd.b) := HX.out.cell 4
      have x5 : W1.cell? ⟨X, 5, none⟩ = some (.int .i64 x.bd.c) := HX.out.cell 5
      have x6 : W1.cell? ⟨X, 6, none⟩ = some (.int .i64 x.bd.d) := HX.out.cell 6
      have x7 : W1.cell? ⟨X, 7, none⟩ = some (.int .i64 x.score) := HX.out.cell 7
      go_cut [42] from 28 to 41 (fun s42 wx => s42 = .bool (!okA c tr x) ∧ ∃ z, wx = ext W1 z)
      case first =>
        have HO := Lib.hid (show okA c tr x = (isMove c x.mv && decide (x = tr x.mv)) from rfl)
        cases hm : isMove c x.mv
        · have CM1 := Lib.hid (fun z => show Calls Try.prog 47 #[c.val, x.mv.val] (ext W1 z) fun e w' => e = .returned (.bool false) ∧ Ext (ext W1 z) w' from hm ▸ CM.out x.mv (ext W1 z))
          have HO2 := Lib.hid (show okA c tr x = false by rw [HO.out, hm]; rfl)
          refine wp_region_ext (by kernel_rfl) (by kernel_rfl) ?_
          repeat (go_big_quiet_step ((go_at_call 47; exact Calls.quiet_ext (CM1.out _))))
          refine wpQuiet_nil ?_
          rintro _ ⟨z2, rfl⟩
          go_wp2_with fail
          go_meet
          exact ⟨by rw [HO2.out]; rfl, z2, rfl⟩
        · obtain ⟨u, hu⟩ : ∃ u, u = tr x.mv := ⟨_, rfl⟩
          have hum : u.mv = x.mv := by rw [hu, HMv.out]
          have CM1 := Lib.hid (fun z => show Calls Try.prog 47 #[c.val, x.mv.val] (ext W1 z) fun e w' => e = .returned (.bool true) ∧ Ext (ext W1 z) w' from hm ▸ CM.out x.mv (ext W1 z))
          have CT1 := Lib.hid (fun z => show Calls Try.prog 56 #[.slice Ap lp.length cp, .slice Aq lq.length cq, c.val, x.mv.val] (ext W1 z) fun e w' => e = .returned (.agg #[.int .i64 x.mv.turn, .int .i64 x.mv.dx, .int .i64 x.mv.dy, .int .i64 u.bd.a, .int .i64 u.bd.b, .int .i64 u.bd.c, .int .i64 u.bd.d, .int .i64 u.score]) ∧ Ext (ext W1 z) w' from by
            have := CT.out x.mv hm (ext W1 z) (HB1.out.ext.ext z)
            rw [← hu] at this
            unfold At.cells at this
            rw [hum] at this
            exact this)
          have HO2 := Lib.hid (show okA c tr x = (decide (x.bd = u.bd) && decide (x.score = u.score)) by
            rw [HO.out, hm, ← hu, Bool.true_and, Bool.eq_iff_iff, decide_eq_true_eq, Bool.and_eq_true, decide_eq_true_eq, decide_eq_true_eq]
            exact ⟨fun e => by rw [← e]; exact ⟨rfl, rfl⟩, fun e => At.ext_ hum.symm e.1 e.2⟩)
          have hq28 : ∀ w, (Op.equalIn 9999 28 (.agg #[.int .i64 x.bd.a, .int .i64 x.bd.b, .int .i64 x.bd.c, .int .i64 x.bd.d]) (.agg #[.int .i64 u.bd.a, .int .i64 u.bd.b, .int .i64 u.bd.c, .int .i64 u.bd.d])).run Try.prog w = .ok (decide (x.bd = u.bd)) w := eq28 x.bd u.bd
          clear HO hu hum
          cases hb : decide (x.bd = u.bd)
          · rw [hb] at hq28 HO2
            refine wp_region_ext (by kernel_rfl) (by kernel_rfl) ?_
            repeat (go_big_quiet_step ((first | (go_at_call 47; exact Calls.quiet_ext (CM1.out _)) | (go_at_call 56; exact Calls.quiet_ext (CT1.out _)))))
            refine wpQuiet_nil ?_
            rintro _ ⟨z2, rfl⟩
            go_wp2_with fail
            go_meet
            exact ⟨by rw [HO2.out]; rfl, z2, rfl⟩
          · rw [hb] at hq28 HO2
            cases hs : decide (x.score = u.score)
            · have hs2 : (x.score == u.score) = false := hs
              rw [hs] at HO2
              clear hs hb
              refine wp_region_ext (by kernel_rfl) (by kernel_rfl) ?_
              repeat (go_big_quiet_step ((first | (go_at_call 47; exact Calls.quiet_ext (CM1.out _)) | (go_at_call 56; exact Calls.quiet_ext (CT1.out _)))))
              refine wpQuiet_nil ?_
              rintro _ ⟨z2, rfl⟩
              go_wp2_with fail
              go_meet
              exact ⟨by rw [HO2.out]; rfl, z2, rfl⟩
            · have hs2 : (x.score == u.score) = true := hs
              rw [hs] at HO2
              clear hs hb
              refine wp_region_ext (by kernel_rfl) (by kernel_rfl) ?_
              repeat (go_big_quiet_step ((first | (go_at_call 47; exact Calls.quiet_ext (CM1.out _)) | (go_at_call 56; exact Calls.quiet_ext (CT1.out _)))))
              refine wpQuiet_nil ?_
              rintro _ ⟨z2, rfl⟩
              go_wp2_with fail
              go_meet
              exact ⟨by rw [HO2.out]; rfl, z2, rfl⟩
      case rest =>
        obtain ⟨rfl, z, rfl⟩ := hcut
        have HB2 := Lib.hid (HB1.out.grow (Ext.ext_self W1 z))
        have HX1 := Lib.hid (HX.out.ext z)
        have HE := Lib.hid (HB1.out.ext.ext z)
        generalize ext W1 z = W2 at *
        clear oC oX d0 d1 d2 d3 d4 x0 x1 x2 x3 x4 x5 x6 x7 HB1 HX
        cases hk : okA c tr x
        · have HR := Lib.hid (HNA.out x HXm.out hk)
          go_wp2_with fail
          go_ret
          exact ⟨ret_of (by rw [HR.out]; rfl), HE.out⟩
        · have hmv : isMove c x.mv = true := by unfold okA at hk; simp only [Bool.and_eq_true] at hk; exact hk.1
          have hcn : (attL att i).count x.mv ≤ 2000 := Nat.le_trans (Nat.le_trans List.count_le_length (attL_len att i)) hna
          obtain ⟨o0, st, o1, o2, h0, hI, hO⟩ := HB2.out.inc (HSm.out x.mv hmv) (Nat.le_trans (attL_len att i) (by omega))
          have HO := Lib.hid hO
          have HX2 := Lib.hid (fun V2 (h : W2.drew.grownBy V2 (some (w.heap.size + 1 + 1))) => HB2.out.other HX1.out (by omega) h)
          generalize (attL att i).count x.mv = n0 at *
          have hwr : IntKind.i64.wrap ((n0 : Int) + 1) = (n0 : Int) + 1 := IntWalk.i64_in _ (by omega)
          have HK := Lib.hid hk
          clear hO hmv hk
          go_wp2_with fail
          refine wp_region_inc hI h0 3 5 7 [isV (.map (some (w.heap.size + 1 + 1))), isV (.pointer (some ⟨X, 0, none⟩)), isV x.mv.val, isV (.int .i64 (n0 : Nat)), isV (.int .i64 ((n0 : Nat) + 1)), isV (.tuple #[.int .i64 (n0 : Nat), goInt st]), isV (goInt st), isV undef] (by kernel_rfl) (by kernel_rfl) (by simp [isV]) (by decide) (by decide) (by decide) (by kernel_rfl) (by kernel_rfl) ?look ?ent ?sto rfl rfl rfl ?me ?op ?fin (by decide)
          case look =>
            intro o ho a V2 hfrm hdep
            injection ho with ho
            subst ho
            have e1 : a.tmps[43]?.getD undef = .map (some (w.heap.size + 1 + 1)) := slot_of (hdep ⟨0, .data⟩ (by simp) (by kernel_rfl))
            have e2 : a.tmps[45]?.getD undef = x.mv.val := slot_of (hdep ⟨2, .data⟩ (by simp) (by kernel_rfl))
            exact ⟨.tmp 43, .tmp 45, 46, rfl, rfl, by simp [Act.eval, e1], by simp [Act.eval, e2]⟩
          case ent =>
            intro o ho a V2 hfrm hdep
            injection ho with ho
            subst ho
            have e1 : a.tmps[43]?.getD undef = .map (some (w.heap.size + 1 + 1)) := slot_of (hdep ⟨0, .data⟩ (by simp) (by kernel_rfl))
            have e2 : a.tmps[45]?.getD undef = x.mv.val := slot_of (hdep ⟨2, .data⟩ (by simp) (by kernel_rfl))
            exact ⟨.tmp 43, .tmp 45, 48, rfl, rfl, by simp [Act.eval, e1], by simp [Act.eval, e2]⟩
          case sto =>
            intro o ho a V2 hfrm hdep
            injection ho with ho
            subst ho
            have e1 : a.tmps[43]?.getD undef = .map (some (w.heap.size + 1 + 1)) := slot_of (hdep ⟨0, .data⟩ (by simp) (by kernel_rfl))
            have e2 : a.tmps[49]?.getD undef = goInt st := slot_of (hdep ⟨6, .data⟩ (by simp) (by kernel_rfl))
            have e3 : a.tmps[47]?.getD undef = .int .i64 ((n0 : Nat) + 1) := slot_of (hdep ⟨4, .data⟩ (by simp) (by kernel_rfl))
            exact ⟨.tmp 43, .tmp 49, .tmp 47, rfl, rfl, by simp [Act.eval, e1], by simp [Act.eval, e2], by simp [Act.eval, e3]⟩
          case me =>
            intro o ho
            injection ho with ho
            subst ho
            exact ⟨⟨5, .chain⟩, by simp, by kernel_rfl, rfl⟩
          case op =>
            intro i o ho hi1 hi2 hi3 a V2 hfrm hT hdep
            match i, ho with
            | 0, ho =>
              injection ho with ho
              subst ho
              have e1 : a.tmps[9]?.getD undef = .map (some (w.heap.size + 1 + 1)) := slot_of (hfrm 9 (frm_of 9 (by kernel_rfl)))
              exact rel_val (by simp [execOp, go_sem, e1]) rfl
            | 1, ho =>
              injection ho with ho
              subst ho
              have e1 : a.tmps[11]?.getD undef = .pointer (some ⟨X, 0, none⟩) := slot_of (hfrm 11 (frm_of 11 (by kernel_rfl)))
              exact rel_val (by simp [execOp, go_sem, e1]) rfl
            | 2, ho =>
              injection ho with ho
              subst ho
              have e1 : a.tmps[44]?.getD undef = .pointer (some ⟨X, 0, none⟩) := slot_of (hdep ⟨1, .data⟩ (by simp) (by kernel_rfl))
              have b0 : V2.cell? ⟨X, 0, none⟩ = some (.int .i64 x.mv.turn) := (HX2.out V2 hT).cell 0
              have b1 : V2.cell? ⟨X, 1, none⟩ = some (.int .i64 x.mv.dx) := (HX2.out V2 hT).cell 1
              have b2 : V2.cell? ⟨X, 2, none⟩ = some (.int .i64 x.mv.dy) := (HX2.out V2 hT).cell 2
              exact rel_val (by simp [execOp, go_sem, e1, b0, b1, b2]) rfl
            | 3, ho =>
              exact absurd rfl hi1
            | 4, ho =>
              injection ho with ho
              subst ho
              have e1 : a.tmps[46]?.getD undef = .int .i64 (n0 : Nat) := slot_of (hdep ⟨3, .data⟩ (by simp) (by kernel_rfl))
              exact rel_val (by simp [execOp, go_sem, e1, hwr]) rfl
            | 5, ho =>
              exact absurd rfl hi2
            | 6, ho =>
              injection ho with ho
              subst ho
              have e1 : a.tmps[48]?.getD undef = .tuple #[.int .i64 (n0 : Nat), goInt st] := slot_of (hdep ⟨5, .data⟩ (by simp) (by kernel_rfl))
              exact rel_val (by simp [execOp, go_sem, e1]) rfl
            | 7, ho =>
              exact absurd rfl hi3
            | k + 8, ho => exact absurd (List.getElem?_eq_some_iff.1 ho).1 (by simp)
          case fin =>
            intro vs V4 hT h2 hvs
            clear hvs
            obtain ⟨D', hB'⟩ := HO.out V4 hT h2
            have HB4 := Lib.hid hB'
            clear hB' hT h2 HO HX2 HX1 HB2 HE h0 hI hwr
            simp only [putAll, Act.put]
            go_wp2_with fail
            refine ⟨⟨i + 1, D', by go_num, by omega, fun j y hj hy => ?_, by rw [HAS.out]; exact HB4.out⟩, by simp [intOf]; omega⟩
            rcases Nat.lt_or_ge j i with h | h
            · exact HOA.out j y h hy
            · obtain rfl : j = i := by omega
              rw [HXi.out] at hy
              injection hy with hy
              rw [← hy]
              exact HK.out
    · obtain rfl : i = att.length := by omega
      have a3 : wr.cell? ⟨w.heap.size + 1, 3, none⟩ = some (.slice A2 left.length c2) := by have := HB.out.ab.cell 3; rw [HCS.out] at this; exact this
      have oA := Old.mk HB.out.ab.lt
      go_wp2_with fail
      clear a3 oA
      have HB0 := Lib.hid (show PvI w w.heap.size (w.heap.size + 1 + 1) c cs (lefL att left 0) D wr by rw [lefL_zero]; exact HB.out)
      have HL0 := Lib.hid (show (lefL att left 0).length ≤ 2000 by rw [lefL_zero]; exact Nat.le_trans (attL_len _ _) hna)
      clear HB
      go_loopw [54] (fun t wx => ∃ (j : Nat) (D : DataW Unit), t = .int .i64 j ∧ j ≤ left.length ∧ (∀ i r, i < j → left[i]? = some r → okR c bnd r = true) ∧ (lefL att left j).length ≤ 2000 + 81 * j ∧ PvI w w.heap.size (w.heap.size + 1 + 1) c cs (lefL att left j) D wx) (fun t _ => left.length - (intOf t).toNat)
      case atStart => exact ⟨0, _, rfl, Nat.zero_le _, fun j x hj => absurd hj (Nat.not_lt_zero _), HL0.out, HB0.out⟩
      case round =>
        clear HB0 HL0 D
        obtain ⟨j, D, rfl, hj, hok, hll, hB⟩ := hrel
        have HB := Lib.hid hB
        have HOL := Lib.hid hok
        have HLL := Lib.hid hll
        clear hB hok hll
        by_cases hlt : j < left.length
        · have hii : (j : Int) < left.length := by omega
          obtain ⟨r, hx⟩ : ∃ r, left[j]? = some r := ⟨_, List.getElem?_eq_getElem hlt⟩
          have HXm := Lib.hid (List.mem_of_getElem? hx)
          rcases HLe.out with hn | ⟨g, off, rfl, hg2, hcl⟩
          · rw [hn] at hlt; simp at hlt
          have og : Nonempty (Old g wr) := ⟨Nat.lt_of_lt_of_le hg2 HB.out.ext.size⟩
          have hcl2 : ∀ i u, r.cellsL[i]? = some u → wr.cell? ⟨g, off + j * 6 + i, none⟩ = some u := fun i u hu => by rw [HB.out.ext.cell (by exact hg2)]; exact hcl j r hx i u hu
          have x0 : wr.cell? ⟨g, off + j * 6, none⟩ = some (.int .i64 r.bk.turn) := hcl2 0 _ rfl
          have x1 := hcl2 1 _ rfl
          have x2 := hcl2 2 _ rfl
          have x3 := hcl2 3 _ rfl
          have x4 := hcl2 4 _ rfl
          have x5 := hcl2 5 _ rfl
          have HAS := Lib.hid (lefL_succ (att := att) hx)
          have HXi := Lib.hid hx
          clear hcl hcl2 hx
          go_wp2_with fail
          have HB1 := Lib.hid (HB.out.grow ((Ext.refl wr).alloc (.cells #[.int .i64 r.bk.turn, .int .i64 r.bk.x0, .int .i64 r.bk.y0, .int .i64 r.bk.x1, .int .i64 r.bk.y1, .int .i64 r.bound] 105)))
          have HX := Lib.hid (Blk.new wr 105 #[.int .i64 r.bk.turn, .int .i64 r.bk.x0, .int .i64 r.bk.y0, .int .i64 r.bk.x1, .int .i64 r.bk.y1, .int .i64 r.bound])
          have hXB : w.heap.size + 1 + 1 < wr.heap.size := HB.out.own.lt
          generalize wr.alloc (.cells #[.int .i64 r.bk.turn, .int .i64 r.bk.x0, .int .i64 r.bk.y0, .int .i64 r.bk.x1, .int .i64 r.bk.y1, .int .i64 r.bound] 105) = W1 at *
          generalize wr.heap.size = X at *
          clear x0 x1 x2 x3 x4 x5 og HB
          have oC := Old.mk HB1.out.cb.lt
          have oX := Old.mk HX.out.lt
          have d0 : W1.cell? ⟨w.heap.size, 0, none⟩ = some (.int .i64 c.turns) := HB1.out.cb.cell 0
          have d1 : W1.cell? ⟨w.heap.size, 1, none⟩ = some (.int .i64 c.shift) := HB1.out.cb.cell 1
          have d2 : W1.cell? ⟨w.heap.size, 2, none⟩ = some (.int .i64 c.elastic) := HB1.out.cb.cell 2
          have d3 : W1.cell? ⟨w.heap.size, 3, none⟩ = some (.int .i64 c.reach) := HB1.out.cb.cell 3
          have d4 : W1.cell? ⟨w.heap.size, 4, none⟩ = some (.int .i64 c.spread) := HB1.out.cb.cell 4
          have x0 : W1.cell? ⟨X, 0, none⟩ = some (.int .i64 r.bk.turn) := HX.out.cell 0
          have x1 : W1.cell? ⟨X, 1, none⟩ = some (.int .i64 r.bk.x0) := HX.out.cell 1
          have x2 : W1.cell? ⟨X, 2, none⟩ = some (.int .i64 r.bk.y0) := HX.out.cell 2
          have x3 : W1.cell? ⟨X, 3, none⟩ = some (.int .i64 r.bk.x1) := HX.out.cell 3
          have x4 : W1.cell? ⟨X, 4, none⟩ = some (.int .i64 r.bk.y1) := HX.out.cell 4
          have x5 : W1.cell? ⟨X, 5, none⟩ = some (.int .i64 r.bound) := HX.out.cell 5
          go_cut [73] from 58 to 72 (fun s73 wx => s73 = .bool (!okR c bnd r) ∧ ∃ z, wx = ext W1 z)
          case first =>
            have HO := Lib.hid (show okR c bnd r = (isBlk c r.bk && decide (r.bound = bnd r.bk)) from rfl)
            cases hm : isBlk c r.bk
            · have CK1 := Lib.hid (fun z => show Calls Try.prog 58 #[c.val, r.bk.val] (ext W1 z) fun e w' => e = .returned (.bool false) ∧ Ext (ext W1 z) w' from hm ▸ CK.out r.bk (ext W1 z))
              have HO2 := Lib.hid (show okR c bnd r = false by rw [HO.out, hm]; rfl)
              refine wp_region_ext (by kernel_rfl) (by kernel_rfl) ?_
              repeat (go_big_quiet_step ((go_at_call 58; exact Calls.quiet_ext (CK1.out _))))
              refine wpQuiet_nil ?_
              rintro _ ⟨z2, rfl⟩
              go_wp2_with fail
              go_meet
              exact ⟨by rw [HO2.out]; rfl, z2, rfl⟩
            · obtain ⟨u, hu⟩ : ∃ u, u = bnd r.bk := ⟨_, rfl⟩
              have CK1 := Lib.hid (fun z => show Calls Try.prog 58 #[c.val, r.bk.val] (ext W1 z) fun e w' => e = .returned (.bool true) ∧ Ext (ext W1 z) w' from hm ▸ CK.out r.bk (ext W1 z))
              have CB1 := Lib.hid (fun z => show Calls Try.prog 59 #[.slice Ap lp.length cp, .slice Aq lq.length cq, c.val, r.bk.val] (ext W1 z) fun e w' => e = .returned (.int .i64 u) ∧ Ext (ext W1 z) w' from by rw [hu]; exact CB.out r.bk hm (ext W1 z) (HB1.out.ext.ext z))
              have HO2 := Lib.hid (show okR c bnd r = decide (r.bound = u) by rw [HO.out, hm, ← hu, Bool.true_and])
              clear HO hu hm
              cases hs : decide (r.bound = u)
              · have hs2 : (r.bound != u) = true := by simpa using hs
                rw [hs] at HO2
                clear hs
                refine wp_region_ext (by kernel_rfl) (by kernel_rfl) ?_
                repeat (go_big_quiet_step ((first | (go_at_call 58; exact Calls.quiet_ext (CK1.out _)) | (go_at_call 59; exact Calls.quiet_ext (CB1.out _)))))
                refine wpQuiet_nil ?_
                rintro _ ⟨z2, rfl⟩
                go_wp2_with fail
                go_meet
                exact ⟨by rw [HO2.out]; rfl, z2, rfl⟩
              · have hs2 : (r.bound != u) = false := by simpa using hs
                rw [hs] at HO2
                clear hs
                refine wp_region_ext (by kernel_rfl) (by kernel_rfl) ?_
                repeat (go_big_quiet_step ((first | (go_at_call 58; exact Calls.quiet_ext (CK1.out _)) | (go_at_call 59; exact Calls.quiet_ext (CB1.out _)))))
                refine wpQuiet_nil ?_
                rintro _ ⟨z2, rfl⟩
                go_wp2_with fail
                go_meet
                exact ⟨by rw [HO2.out]; rfl, z2, rfl⟩
          case rest =>
            obtain ⟨rfl, z, rfl⟩ := hcut
            have HB2 := Lib.hid (HB1.out.grow (Ext.ext_self W1 z))
            have HX1 := Lib.hid (HX.out.ext z)
            have HE := Lib.hid (HB1.out.ext.ext z)
            generalize ext W1 z = W2 at *
            clear oC oX d0 d1 d2 d3 d4 x0 x1 x2 x3 x4 x5 HB1 HX
            cases hk : okR c bnd r
            · have HR := Lib.hid (HNL.out r HXm.out hk)
              go_wp2_with fail
              go_ret
              exact ⟨ret_of (by rw [HR.out]; rfl), HE.out⟩
            · have hbk : isBlk c r.bk = true := by unfold okR at hk; simp only [Bool.and_eq_true] at hk; exact hk.1
              obtain ⟨t1, t2, t3⟩ := blk_small HOk.out hbk
              have HK := Lib.hid hk
              clear hbk hk
              have oX := Old.mk HX1.out.lt
              have x0 : W2.cell? ⟨X, 0, none⟩ = some (.int .i64 r.bk.turn) := HX1.out.cell 0
              have x1 : W2.cell? ⟨X, 1, none⟩ = some (.int .i64 r.bk.x0) := HX1.out.cell 1
              have x2 : W2.cell? ⟨X, 2, none⟩ = some (.int .i64 r.bk.y0) := HX1.out.cell 2
              have x3 : W2.cell? ⟨X, 3, none⟩ = some (.int .i64 r.bk.x1) := HX1.out.cell 3
              have x4 : W2.cell? ⟨X, 4, none⟩ = some (.int .i64 r.bk.y1) := HX1.out.cell 4
              have x5 : W2.cell? ⟨X, 5, none⟩ = some (.int .i64 r.bound) := HX1.out.cell 5
              go_wp2_with fail
              clear x0 x1 x2 x3 x4 x5 oX
              go_loopw [14] (fun t wx => ∃ (my : Nat) (D : DataW Unit), t = .int .i64 (r.bk.y0 + my) ∧ (my : Int) ≤ r.bk.y1 - r.bk.y0 + 1 ∧ PvI w w.heap.size (w.heap.size + 1 + 1) c cs (lefL att left j ++ rowsB r.bk my) D wx ∧ Blk wx X 105 #[.int .i64 r.bk.turn, .int .i64 r.bk.x0, .int .i64 r.bk.y0, .int .i64 r.bk.x1, .int .i64 r.bk.y1, .int .i64 r.bound]) (fun t _ => (r.bk.y1 + 1 - intOf t).toNat)
              case atStart => exact ⟨0, D, by simp, by omega, by simpa [rowsB, runI] using HB2.out, HX1.out⟩
              case round =>
                clear HB2 HX1 HE
                obtain ⟨my, D2, rfl, hmy, hB, hX⟩ := hrel
                have HB3 := Lib.hid hB
                have HX3 := Lib.hid hX
                have oX := Old.mk hX.lt
                clear hB hX
                have x0 : wr.cell? ⟨X, 0, none⟩ = some (.int .i64 r.bk.turn) := HX3.out.cell 0
                have x1 : wr.cell? ⟨X, 1, none⟩ = some (.int .i64 r.bk.x0) := HX3.out.cell 1
                have x2 : wr.cell? ⟨X, 2, none⟩ = some (.int .i64 r.bk.y0) := HX3.out.cell 2
                have x3 : wr.cell? ⟨X, 3, none⟩ = some (.int .i64 r.bk.x1) := HX3.out.cell 3
                have x4 : wr.cell? ⟨X, 4, none⟩ = some (.int .i64 r.bk.y1) := HX3.out.cell 4
                have x5 : wr.cell? ⟨X, 5, none⟩ = some (.int .i64 r.bound) := HX3.out.cell 5
                by_cases hym : r.bk.y0 + my ≤ r.bk.y1
                · go_wp2_with fail
                  clear x0 x1 x2 x3 x4 x5 oX
                  go_loopw [15] (fun t wx => ∃ (nx : Nat) (D : DataW Unit), t = .int .i64 (r.bk.x0 + nx) ∧ (nx : Int) ≤ r.bk.x1 - r.bk.x0 + 1 ∧ PvI w w.heap.size (w.heap.size + 1 + 1) c cs (lefL att left j ++ rowsB r.bk my ++ rowB r.bk (r.bk.y0 + my) nx) D wx ∧ Blk wx X 105 #[.int .i64 r.bk.turn, .int .i64 r.bk.x0, .int .i64 r.bk.y0, .int .i64 r.bk.x1, .int .i64 r.bk.y1, .int .i64 r.bound]) (fun t _ => (r.bk.x1 + 1 - intOf t).toNat)
                  case atStart => exact ⟨0, D2, by simp, by omega, by simpa [rowB, runI] using HB3.out, HX3.out⟩
                  case round =>
                    clear HB3 HX3
                    obtain ⟨nx, D3, rfl, hnx, hB, hX⟩ := hrel
                    have HB4 := Lib.hid hB
                    have HX4 := Lib.hid hX
                    have oX := Old.mk hX.lt
                    clear hB hX
                    have x0 : wr.cell? ⟨X, 0, none⟩ = some (.int .i64 r.bk.turn) := HX4.out.cell 0
                    have x1 : wr.cell? ⟨X, 1, none⟩ = some (.int .i64 r.bk.x0) := HX4.out.cell 1
                    have x2 : wr.cell? ⟨X, 2, none⟩ = some (.int .i64 r.bk.y0) := HX4.out.cell 2
                    have x3 : wr.cell? ⟨X, 3, none⟩ = some (.int .i64 r.bk.x1) := HX4.out.cell 3
                    have x4 : wr.cell? ⟨X, 4, none⟩ = some (.int .i64 r.bk.y1) := HX4.out.cell 4
                    have x5 : wr.cell? ⟨X, 5, none⟩ = some (.int .i64 r.bound) := HX4.out.cell 5
                    by_cases hxm : r.bk.x0 + nx ≤ r.bk.x1
                    · have hlen : (lefL att left j ++ rowsB r.bk my ++ rowB r.bk (r.bk.y0 + my) nx).length ≤ 1000000 := by
                        have e1 := HLL.out
                        have e2 := rowsB_small (k := r.bk) (n := my) ⟨t2.1, t2.2.2⟩ (by omega)
                        have e3 := rowB_len r.bk (r.bk.y0 + my) nx
                        rw [List.length_append, List.length_append]
                        omega
                      have hcn : (lefL att left j ++ rowsB r.bk my ++ rowB r.bk (r.bk.y0 + my) nx).count (⟨r.bk.turn, r.bk.x0 + nx, r.bk.y0 + my⟩ : Mv) ≤ 1000000 := Nat.le_trans List.count_le_length hlen
                      go_wp2_with fail
                      obtain ⟨o0, st, o1, o2, h0, hI, hO⟩ := HB4.out.inc (v := ⟨r.bk.turn, r.bk.x0 + nx, r.bk.y0 + my⟩) ⟨by dsimp only; omega, by dsimp only; omega, by dsimp only; omega⟩ hlen
                      have HO := Lib.hid hO
                      have HX2 := Lib.hid (fun V2 (h : wr.drew.grownBy V2 (some (w.heap.size + 1 + 1))) => HB4.out.other HX4.out (by omega) h)
                      generalize (lefL att left j ++ rowsB r.bk my ++ rowB r.bk (r.bk.y0 + my) nx).count (⟨r.bk.turn, r.bk.x0 + nx, r.bk.y0 + my⟩ : Mv) = n0 at *
                      have hwr : IntKind.i64.wrap ((n0 : Int) + 1) = (n0 : Int) + 1 := IntWalk.i64_in _ (by omega)
                      clear hO
                      refine wp_region_inc hI h0 7 9 11 [isV (.map (some (w.heap.size + 1 + 1))), isV (.pointer (some ⟨X, 0, none⟩)), isV (.pointer (some ⟨X, 0, none⟩)), isV (.int .i64 r.bk.turn), isV (.int .i64 (r.bk.x0 + nx)), isV (.int .i64 (r.bk.y0 + my)), isV (.agg #[.int .i64 r.bk.turn, .int .i64 (r.bk.x0 + nx), .int .i64 (r.bk.y0 + my)]), isV (.int .i64 (n0 : Nat)), isV (.int .i64 ((n0 : Nat) + 1)), isV (.tuple #[.int .i64 (n0 : Nat), goInt st]), isV (goInt st), isV undef] (by kernel_rfl) (by kernel_rfl) (by simp [isV]) (by decide) (by decide) (by decide) (by kernel_rfl) (by kernel_rfl) ?look ?ent ?sto rfl rfl rfl ?me ?op ?fin (by decide)
                      case look =>
                        intro o ho a V2 hfrm hdep
                        injection ho with ho
                        subst ho
                        have e1 : a.tmps[94]?.getD undef = .map (some (w.heap.size + 1 + 1)) := slot_of (hdep ⟨0, .data⟩ (by simp) (by kernel_rfl))
                        have e2 : a.tmps[100]?.getD undef = .agg #[.int .i64 r.bk.turn, .int .i64 (r.bk.x0 + nx), .int .i64 (r.bk.y0 + my)] := slot_of (hdep ⟨6, .data⟩ (by simp) (by kernel_rfl))
                        exact ⟨.tmp 94, .tmp 100, 101, rfl, rfl, by simp [Act.eval, e1], by simp [Act.eval, e2]⟩
                      case ent =>
                        intro o ho a V2 hfrm hdep
                        injection ho with ho
                        subst ho
                        have e1 : a.tmps[94]?.getD undef = .map (some (w.heap.size + 1 + 1)) := slot_of (hdep ⟨0, .data⟩ (by simp) (by kernel_rfl))
                        have e2 : a.tmps[100]?.getD undef = .agg #[.int .i64 r.bk.turn, .int .i64 (r.bk.x0 + nx), .int .i64 (r.bk.y0 + my)] := slot_of (hdep ⟨6, .data⟩ (by simp) (by kernel_rfl))
                        exact ⟨.tmp 94, .tmp 100, 103, rfl, rfl, by simp [Act.eval, e1], by simp [Act.eval, e2]⟩
                      case sto =>
                        intro o ho a V2 hfrm hdep
                        injection ho with ho
                        subst ho
                        have e1 : a.tmps[94]?.getD undef = .map (some (w.heap.size + 1 + 1)) := slot_of (hdep ⟨0, .data⟩ (by simp) (by kernel_rfl))
                        have e2 : a.tmps[104]?.getD undef = goInt st := slot_of (hdep ⟨10, .data⟩ (by simp) (by kernel_rfl))
                        have e3 : a.tmps[102]?.getD undef = .int .i64 ((n0 : Nat) + 1) := slot_of (hdep ⟨8, .data⟩ (by simp) (by kernel_rfl))
                        exact ⟨.tmp 94, .tmp 104, .tmp 102, rfl, rfl, by simp [Act.eval, e1], by simp [Act.eval, e2], by simp [Act.eval, e3]⟩
                      case me =>
                        intro o ho
                        injection ho with ho
                        subst ho
                        exact ⟨⟨9, .chain⟩, by simp, by kernel_rfl, rfl⟩
                      case op =>
                        intro i o ho hi1 hi2 hi3 a V2 hfrm hT hdep
                        match i, ho with
                        | 0, ho =>
                          injection ho with ho
                          subst ho
                          have e1 : a.tmps[9]?.getD undef = .map (some (w.heap.size + 1 + 1)) := slot_of (hfrm 9 (frm_of 9 (by kernel_rfl)))
                          exact rel_val (by simp [execOp, go_sem, e1]) rfl
                        | 1, ho =>
                          injection ho with ho
                          subst ho
                          have e1 : a.tmps[13]?.getD undef = .pointer (some ⟨X, 0, none⟩) := slot_of (hfrm 13 (frm_of 13 (by kernel_rfl)))
                          exact rel_val (by simp [execOp, go_sem, e1]) rfl
                        | 2, ho =>
                          injection ho with ho
                          subst ho
                          have e1 : a.tmps[95]?.getD undef = .pointer (some ⟨X, 0, none⟩) := slot_of (hdep ⟨1, .data⟩ (by simp) (by kernel_rfl))
                          exact rel_val (by simp [execOp, go_sem, e1]) rfl
                        | 3, ho =>
                          injection ho with ho
                          subst ho
                          have e1 : a.tmps[96]?.getD undef = .pointer (some ⟨X, 0, none⟩) := slot_of (hdep ⟨2, .data⟩ (by simp) (by kernel_rfl))
                          have b0 : V2.cell? ⟨X, 0, none⟩ = some (.int .i64 r.bk.turn) := (HX2.out V2 hT).cell 0
                          exact rel_val (by simp [execOp, go_sem, e1, b0]) rfl
                        | 4, ho =>
                          injection ho with ho
                          subst ho
                          have e1 : a.tmps[15]?.getD undef = .int .i64 (r.bk.x0 + nx) := slot_of (hfrm 15 (frm_of 15 (by kernel_rfl)))
                          exact rel_val (by simp [execOp, go_sem, e1]) rfl
                        | 5, ho =>
                          injection ho with ho
                          subst ho
                          have e1 : a.tmps[14]?.getD undef = .int .i64 (r.bk.y0 + my) := slot_of (hfrm 14 (frm_of 14 (by kernel_rfl)))
                          exact rel_val (by simp [execOp, go_sem, e1]) rfl
                        | 6, ho =>
                          injection ho with ho
                          subst ho
                          have e1 : a.tmps[97]?.getD undef = .int .i64 r.bk.turn := slot_of (hdep ⟨3, .data⟩ (by simp) (by kernel_rfl))
                          have e2 : a.tmps[98]?.getD undef = .int .i64 (r.bk.x0 + nx) := slot_of (hdep ⟨4, .data⟩ (by simp) (by kernel_rfl))
                          have e3 : a.tmps[99]?.getD undef = .int .i64 (r.bk.y0 + my) := slot_of (hdep ⟨5, .data⟩ (by simp) (by kernel_rfl))
                          exact rel_val (by simp [execOp, go_sem, e1, e2, e3]) rfl
                        | 7, ho =>
                          exact absurd rfl hi1
                        | 8, ho =>
                          injection ho with ho
                          subst ho
                          have e1 : a.tmps[101]?.getD undef = .int .i64 (n0 : Nat) := slot_of (hdep ⟨7, .data⟩ (by simp) (by kernel_rfl))
                          exact rel_val (by simp [execOp, go_sem, e1, hwr]) rfl
                        | 9, ho =>
                          exact absurd rfl hi2
                        | 10, ho =>
                          injection ho with ho
                          subst ho
                          have e1 : a.tmps[103]?.getD undef = .tuple #[.int .i64 (n0 : Nat), goInt st] := slot_of (hdep ⟨9, .data⟩ (by simp) (by kernel_rfl))
                          exact rel_val (by simp [execOp, go_sem, e1]) rfl
                        | 11, ho =>
                          exact absurd rfl hi3
                        | k + 12, ho => exact absurd (List.getElem?_eq_some_iff.1 ho).1 (by simp)
                      case fin =>
                        intro vs V4 hT h2 hvs
                        clear hvs
                        obtain ⟨D', hB'⟩ := HO.out V4 hT h2
                        have HB5 := Lib.hid hB'
                        have HX5 := Lib.hid (HX2.out V4 hT)
                        clear hB' hT h2 HO HX2 HX4 HB4 h0 hI hwr x0 x1 x2 x3 x4 x5 oX
                        simp only [putAll, Act.put]
                        go_wp2_with fail
                        refine ⟨?_, by simp [intOf]; omega⟩
                        repeat apply Exists.intro
                        exact ⟨⟨nx + 1, D', by go_num, by omega, by rw [rowB_succ, ← List.append_assoc]; exact HB5.out, HX5.out⟩, rfl⟩
                    · obtain rfl : nx = (r.bk.x1 - r.bk.x0 + 1).toNat := by omega
                      go_wp2_with fail
                      go_roundw
                      case rel => exact ⟨my + 1, D3, by go_num, by omega, by rw [rowsB_succ, ← List.append_assoc]; exact HB4.out, HX4.out⟩
                      case measure => simp [intOf]; omega
                · obtain rfl : my = (r.bk.y1 - r.bk.y0 + 1).toNat := by omega
                  go_wp2_with fail
                  have hmb : lefL att left j ++ rowsB r.bk (r.bk.y1 - r.bk.y0 + 1).toNat = lefL att left (j + 1) := HAS.out.symm
                  refine ⟨⟨j + 1, D2, by go_num, by omega, fun i y hi hy => ?_, ?_, by rw [← hmb]; exact HB3.out⟩, by simp [intOf]; omega⟩
                  · rcases Nat.lt_or_ge i j with h | h
                    · exact HOL.out i y h hy
                    · obtain rfl : i = j := by omega
                      rw [HXi.out] at hy
                      injection hy with hy
                      rw [← hy]
                      exact HK.out
                  · have e1 := HLL.out
                    have e2 := rowsB_small (k := r.bk) (n := (r.bk.y1 - r.bk.y0 + 1).toNat) ⟨t2.1, t2.2.2⟩ (by omega)
                    rw [← hmb, List.length_append]
                    omega
        · obtain rfl : j = left.length := by omega
          have HB5 := Lib.hid (show PvI w w.heap.size (w.heap.size + 1 + 1) c cs (covL att left) D wr by rw [← lefL_all]; exact HB.out)
          have HCm := Lib.hid (cov_moves HOA.out HOL.out)
          have HNC : Hid (∀ v ∈ covL att left, (covL att left).count v ≠ 1 → res = false) := Lib.hid fun v hv h => by
            rw [Bool.eq_false_iff]
            intro h2
            have := (HPv.out.1 h2).2.2.1 v (HCm.out v hv)
            rw [← count_covL] at this
            exact h this
          have HYes : Hid (∀ ks : List Mv, ks.Nodup → (∀ v, v ∈ ks ↔ v ∈ covL att left) → (∀ v ∈ covL att left, (covL att left).count v = 1) → (res = true ↔ ks.length = (movesC c).length ∧ sc = scoreS ⟨att, left⟩ ∧ bd = boundS ⟨att, left⟩)) := Lib.hid fun ks k1 k2 h1 => by
            rw [HPv.out]
            have e := once_iff HCm.out k1 k2
            constructor
            · rintro ⟨-, -, q3, q4⟩
              exact ⟨(e.1 fun v hv => by rw [← q3 v hv, ← count_covL]).2, q4⟩
            · rintro ⟨q1, q2⟩
              exact ⟨ok_all HOA.out, ok_all HOL.out, fun v hv => by rw [← count_covL]; exact e.2 ⟨h1, q1⟩ v hv, q2⟩
          clear HB HOA HOL HLL
          generalize covL att left = l at *
          go_wp2_with (at_range; refine wpList_range_own _ rfl (.tmp 106) 129 rfl 26 3 (Maps.Keyed.of_law law26) Try.underlying129 (plainElem Try.prog 3) (w.heap.size + 1 + 1) l.length D rfl HB5.out.own ?_; intro w0 hrg0 hg0 hs0)
          go_frame
          have HB6 := Lib.hid (HB5.out.iter hrg0.owns (R := wr.heap.size) ⟨hg0.os, hg0.tape, hg0.output, hg0.size, fun x hx _ => hg0.block x hx (by simp)⟩ (by have := HB5.out.own.lt; omega))
          have HRg := Lib.hid hrg0
          have hRB : w.heap.size + 1 + 1 < wr.heap.size := HB5.out.own.lt
          clear hrg0 hg0 hs0 HB5
          generalize wr.heap.size = R at *
          go_loopw [108] (fun _ wx => ∃ (lf : Lit → Bool) (cnt : Nat), wx.ranges Try.prog 26 (plainElem (H := Unit) Try.prog 3) (w.heap.size + 1 + 1) R l.length D lf cnt ∧ (∀ v ∈ l, lf (klM v) = false → l.count v = 1) ∧ PvI w w.heap.size (w.heap.size + 1 + 1) c cs l D wx) (fun _ wx => wx.rangeLeft (w.heap.size + 1 + 1) R)
          case atStart =>
            refine ⟨_, _, HRg.out, fun v hv h => ?_, HB6.out⟩
            have := (HB6.out.map.has (klM v)).2 ⟨v, hv, rfl⟩
            rw [h] at this
            cases this
          case round =>
            clear HB6 HRg
            obtain ⟨lf, cnt, hrg, h1, hB⟩ := hrel
            have HRg := Lib.hid hrg
            have H1 := Lib.hid h1
            have HB7 := Lib.hid hB
            clear hrg h1 hB
            go_wp2_with (at_next; refine wpList_next_ranges _ rfl (.tmp 107) rfl 26 (Maps.Keyed.of_law law26) (plainElem Try.prog 3) (fun v : Value => v) (Value.int .i64) (fun key kl _ => ⟨key, rfl⟩) (fun v y hv => by obtain ⟨n, rfl, _⟩ := plainElem_int_inv Try.underlying3 hv; exact ⟨n, rfl⟩) (w.heap.size + 1 + 1) R l.length D lf cnt rfl HRg.out ?_ ?_)
            · intro hc0 hl0
              have HAll := Lib.hid (fun v (hv : v ∈ l) => H1.out v hv (hl0 (klM v)))
              have oC := Old.mk HB7.out.cb.lt
              have oA := Old.mk HB7.out.ab.lt
              have d0 : wr.cell? ⟨w.heap.size, 0, none⟩ = some (.int .i64 c.turns) := HB7.out.cb.cell 0
              have d1 : wr.cell? ⟨w.heap.size, 1, none⟩ = some (.int .i64 c.shift) := HB7.out.cb.cell 1
              have hab := HB7.out.ab
              rw [HCS.out] at hab
              have HAb := Lib.hid hab
              have a0 : wr.cell? ⟨w.heap.size + 1, 0, none⟩ = some (.int .i64 sc) := hab.cell 0
              have a1 : wr.cell? ⟨w.heap.size + 1, 1, none⟩ = some (.int .i64 bd) := hab.cell 1
              have a2 : wr.cell? ⟨w.heap.size + 1, 2, none⟩ = some (.slice A1 att.length c1) := hab.cell 2
              have a3 : wr.cell? ⟨w.heap.size + 1, 3, none⟩ = some (.slice A2 left.length c2) := hab.cell 3
              clear hc0 hl0 H1 HRg hab
              go_wp2_with fail
              refine (sum2_any wr.heap.size att left sc bd A1 A2 c1 c2 w (wr.alloc (.cells #[.int .i64 sc, .int .i64 bd, .slice A1 att.length c1, .slice A2 left.length c2] 58)) (Blk.new _ _ _) (HB7.out.ext.alloc _) HB7.out.ext.size HAt.out HLe.out (by omega) (by omega)).mono ?_
              rintro _ W7 ⟨⟨u, rfl⟩, hS, hT2⟩
              have hlo := HB7.out.ext.size
              have hBlt := HB7.out.own.lt
              have hsz7 : (wr.alloc (.cells #[.int .i64 sc, .int .i64 bd, .slice A1 att.length c1, .slice A2 left.length c2] 58)).heap.size = wr.heap.size + 1 := by simp
              have HO7 := Lib.hid (own_same (HB7.out.own.alloc (.cells #[.int .i64 sc, .int .i64 bd, .slice A1 att.length c1, .slice A2 left.length c2] 58)) (hT2.block (w.heap.size + 1 + 1) (by omega) (by omega) (by omega)))
              have HE7 := Lib.hid (Two2.ext_ ((HB7.out.ext).alloc (.cells #[.int .i64 sc, .int .i64 bd, .slice A1 att.length c1, .slice A2 left.length c2] 58)) hT2 hlo hlo)
              have k0 : W7.cell? ⟨w.heap.size, 0, none⟩ = some (.int .i64 c.turns) := ((HB7.out.cb.alloc (.cells #[.int .i64 sc, .int .i64 bd, .slice A1 att.length c1, .slice A2 left.length c2] 58)).turn hT2 (by omega) (by omega)).cell 0
              have kb := (HAb.out.alloc (.cells #[.int .i64 sc, .int .i64 bd, .slice A1 att.length c1, .slice A2 left.length c2] 58)).turn hT2 (by omega) (by omega)
              have b0 : W7.cell? ⟨w.heap.size + 1, 0, none⟩ = some (.int .i64 sc) := kb.cell 0
              have b1 : W7.cell? ⟨w.heap.size + 1, 1, none⟩ = some (.int .i64 bd) := kb.cell 1
              have s0 : W7.cell? ⟨wr.heap.size, 0, none⟩ = some (.int .i64 (scoreS ⟨att, left⟩)) := hS.cell 0
              have s1 : W7.cell? ⟨wr.heap.size, 1, none⟩ = some (.int .i64 (boundS ⟨att, left⟩)) := hS.cell 1
              obtain ⟨ks, k1, k2, k3⟩ := HB7.out.map.size
              have HY := Lib.hid (HYes.out ks k1 k2 HAll.out)
              have HK3 := Lib.hid k3
              have HP2 := Lib.hid (movesC_int HOk.out)
              have HP1 := Lib.hid (show (2 * c.turns + 1) * (2 * c.shift + 1) ≤ 63 ∧ 0 ≤ (2 * c.turns + 1) * (2 * c.shift + 1) from prod1 hT3 hS4)
              have HP3 := Lib.hid (show (2 * c.turns + 1) * (2 * c.shift + 1) * (2 * c.shift + 1) ≤ 567 ∧ 0 ≤ (2 * c.turns + 1) * (2 * c.shift + 1) * (2 * c.shift + 1) from prod2 hT3 hS4)
              have w1 : wrap64 ((2 * c.turns + 1) * (2 * c.shift + 1)) = (2 * c.turns + 1) * (2 * c.shift + 1) := IntWalk.wrap64_in _ (by have := HP1.out; omega)
              have w2 : wrap64 ((2 * c.turns + 1) * (2 * c.shift + 1) * (2 * c.shift + 1)) = (2 * c.turns + 1) * (2 * c.shift + 1) * (2 * c.shift + 1) := IntWalk.wrap64_in _ (by have := HP3.out; omega)
              clear hS hT2 kb HAb k1 k2 k3 HB7 HAll d0 d1 a0 a1 a2 a3 oC oA
              generalize scoreS ⟨att, left⟩ = scv at *
              generalize boundS ⟨att, left⟩ = bdv at *
              by_cases hz : (Maps.size D : Int) = (2 * c.turns + 1) * (2 * c.shift + 1) * (2 * c.shift + 1)
              · have hzb : ((Maps.size D : Int) == (2 * c.turns + 1) * (2 * c.shift + 1) * (2 * c.shift + 1)) = true := by simpa using hz
                by_cases hs : sc = scv
                · have hsb : (sc == scv) = true := by simpa using hs
                  by_cases hd : bd = bdv
                  · have hdb : (bd == bdv) = true := by simpa using hd
                    have HR : Hid (res = true) := Lib.hid (HY.out.2 ⟨by have := HP2.out; have := HK3.out; omega, hs, hd⟩)
                    clear hz hs hd
                    go_wp2_with (at_len; refine wpList_len_own _ rfl (.tmp 120) 129 rfl 26 3 Try.underlying129 (plainElem Try.prog 3) (w.heap.size + 1 + 1) l.length D rfl HO7.out ?_)
                    go_ret
                    exact ⟨ret_of (by rw [HR.out]; rfl), HE7.out⟩
                  · have hdb : (bd == bdv) = false := by simpa using hd
                    have HR : Hid (res = false) := Lib.hid (by rw [Bool.eq_false_iff]; intro h; exact hd (HY.out.1 h).2.2)
                    clear hz hs hd
                    go_wp2_with (at_len; refine wpList_len_own _ rfl (.tmp 120) 129 rfl 26 3 Try.underlying129 (plainElem Try.prog 3) (w.heap.size + 1 + 1) l.length D rfl HO7.out ?_)
                    go_ret
                    exact ⟨ret_of (by rw [HR.out]; rfl), HE7.out⟩
                · have hsb : (sc == scv) = false := by simpa using hs
                  have HR : Hid (res = false) := Lib.hid (by rw [Bool.eq_false_iff]; intro h; exact hs (HY.out.1 h).2.1)
                  clear hz hs
                  go_wp2_with (at_len; refine wpList_len_own _ rfl (.tmp 120) 129 rfl 26 3 Try.underlying129 (plainElem Try.prog 3) (w.heap.size + 1 + 1) l.length D rfl HO7.out ?_)
                  go_ret
                  exact ⟨ret_of (by rw [HR.out]; rfl), HE7.out⟩
              · have hzb : ((Maps.size D : Int) == (2 * c.turns + 1) * (2 * c.shift + 1) * (2 * c.shift + 1)) = false := by simpa using hz
                have HR : Hid (res = false) := Lib.hid (by rw [Bool.eq_false_iff]; intro h; have := (HY.out.1 h).1; have := HP2.out; have := HK3.out; exact hz (by omega))
                clear hz
                go_wp2_with (at_len; refine wpList_len_own _ rfl (.tmp 120) 129 rfl 26 3 Try.underlying129 (plainElem Try.prog 3) (w.heap.size + 1 + 1) l.length D rfl HO7.out ?_)
                go_ret
                exact ⟨ret_of (by rw [HR.out]; rfl), HE7.out⟩
            · intro key n kl ya yb w1 cnt1 hkey hlk hv hat hrg1 hlt1 hg1 hs1 hen
              obtain ⟨n', e1, e2, -⟩ := plainElem_int_inv Try.underlying3 hv
              injection e1 with _ e1
              subst e1
              injection e2 with e2 _
              subst e2
              obtain ⟨v, hvl, rfl⟩ := (HB7.out.map.has kl).1 (Maps.has_true_of_atKey hat)
              have hnv : n = (l.count v : Nat) := by
                have := hat (.lit (.int .i64 0))
                rw [HB7.out.map.at_ v (HB7.out.map.sm v hvl)] at this
                injection this with this
                injection this with _ this
                exact this.symm
              have HB8 := Lib.hid (HB7.out.iter hrg1.owns hg1 (by omega))
              have HRg1 := Lib.hid hrg1
              have HLe1 := Lib.hid hrg1.left_eq
              have HLe0 := Lib.hid HRg.out.left_eq
              have HNv := Lib.hid hnv
              have hlt2 := hlt1
              clear hkey hlk hv hat hrg1 hg1 hs1 hnv
              cases hn1 : (n != 1)
              · have HC1 : Hid (l.count v = 1) := Lib.hid (by rw [HNv.out] at hn1; simp at hn1; omega)
                have HSmv := Lib.hid (HB7.out.map.sm)
                go_wp2_with fail
                refine ⟨⟨_, cnt1, HRg1.out, fun u hu h => ?_, HB8.out⟩, by rw [HLe1.out, HLe0.out]; exact hlt2⟩
                cases hf : lf (klM u)
                · exact H1.out u hu hf
                · rw [hf, Bool.true_and] at h
                  have hs : (klM u).sameKey (klM v) = true := by simpa using h
                  obtain rfl := klM_inj (HSmv.out u hu) (HSmv.out v hvl) (WideAt.sameKey_eq hs)
                  exact HC1.out
              · have HR := Lib.hid (HNC.out v hvl (fun h => by rw [HNv.out, h] at hn1; simp at hn1))
                go_wp2_with fail
                go_ret
                exact ⟨ret_of (by rw [HR.out]; rfl), HB8.out.ext⟩
end Go.Proofs.Ythejomcibobieaa
