/- The reference's search (69, 33). -/
import Derived.Test.YthejomcibobieaaSrchA
import Derived.Test.YthejomcibobieaaWith
import Derived.Test.YthejomcibobieaaOneLaw
import Derived.Deep.RegionHeld3
namespace Go.Proofs.Ythejomcibobieaa
open Go.RowKit

theorem le_ext' {n : Nat} {w : World} (h : n ≤ w.heap.size) (z : World) : n ≤ (ext w z).heap.size := Nat.le_trans h (Ext.ext_self w z).size
theorem le_alloc' {n : Nat} {w : World} (h : n ≤ w.heap.size) (o : Obj) : n ≤ (w.alloc o).heap.size := Nat.le_trans h ((Ext.refl w).alloc o).size
theorem le_drew' {n : Nat} {w : World} (h : n ≤ w.heap.size) : n ≤ w.drew.heap.size := h
theorem cell_heap {w w' : World} {g : Nat} (h : w'.heap[g]? = w.heap[g]?) (j : Nat) : w'.cell? ⟨g, j, none⟩ = w.cell? ⟨g, j, none⟩ := by
  simp [World.cell?, h]
theorem own_none {g : Nat} {C : Prop} (h : (Value.slice none 0 0).ownBlock = some g) : C := by cases h
theorem keep_cell {W1 W2 : World} {vX v : Value} {g j : Nat} {u : Value} (hk : ∀ b, b < W1.heap.size → vX.ownBlock ≠ some b → W2.heap[b]? = W1.heap[b]? ∧ v.ownBlock ≠ some b) (hs : g < W1.heap.size) (hne : vX.ownBlock ≠ some g) (hc : W1.cell? ⟨g, j, none⟩ = some u) : W2.cell? ⟨g, j, none⟩ = some u := (cell_heap (hk g hs hne).1 j).trans hc
theorem frozen_heap {w w' : World} {g : Nat} (h : w'.heap[g]? = w.heap[g]?) (j : Nat) : w'.frozen? ⟨g, j, none⟩ = w.frozen? ⟨g, j, none⟩ := by
  simp [World.frozen?, h]
theorem topR_high {m : Int} {l : List Rs} {x : Rs} (_hne : l ≠ []) (hx : l[high l]? = some x) : topR m l = max m x.bound := by
  have hge : ∀ y ∈ l, y.bound ≤ x.bound := fun y hy => by
    have := high_ge hy
    unfold boundAt at this
    rw [hx] at this
    exact this
  have h1 := topR_ge (m := m) (List.mem_of_getElem? hx)
  have h2 := topR_ge0 m l
  have h3 : topR m l ≤ max m x.bound := topR_le (by omega) fun y hy => by have := hge y hy; omega
  omega
theorem stop_not {s : St} {x : Rs} (hx : s.left[high s.left]? = some x) (hne : s.left ≠ []) (h : s.att = [] ∨ ¬ x.bound ≤ topA s.att) : stopS s = false := by
  unfold stopS
  have e1 : s.left.isEmpty = false := by cases hl : s.left <;> simp_all
  rw [e1, Bool.false_or]
  rcases h with h | h
  · rw [h]; rfl
  · have h2 := topR_high (m := scoreS s) hne hx
    have : decide (boundS s = scoreS s) = false := by
      simp only [decide_eq_false_iff_not]
      intro e
      unfold boundS at e
      rw [h2] at e
      unfold scoreS at e
      omega
    rw [this, Bool.and_false]
theorem stop_yes {s : St} {x : Rs} (hx : s.left[high s.left]? = some x) (hne : s.left ≠ []) (h1 : s.att ≠ []) (h : x.bound ≤ topA s.att) : stopS s = true := by
  unfold stopS
  have e1 : s.att.isEmpty = false := by cases hl : s.att <;> simp_all
  have h2 := topR_high (m := scoreS s) hne hx
  have : decide (boundS s = scoreS s) = true := by
    simp only [decide_eq_true_eq]
    unfold boundS
    rw [h2]
    unfold scoreS
    omega
  rw [this, e1]
  simp
theorem AlW.set0 {B gA : Nat} {s : St} {sc bd : Int} {vA vL : Value} {W : World} (h : AlW B gA s sc bd vA vL W) (u : Int) : AlW B gA s u bd vA vL (W.setCell ⟨gA, 0, none⟩ (.int .i64 u)) :=
  ⟨h.blk.set_ 0 _, own_at h.att fun g e => heap_far _ _ _ (by have := (h.att.lt g e).1; have := h.ga; show g ≠ gA; omega), own_at h.left fun g e => heap_far _ _ _ (by have := (h.left.lt g e).1; have := h.ga; show g ≠ gA; omega), h.ga, h.ne⟩
theorem AlW.set1 {B gA : Nat} {s : St} {sc bd : Int} {vA vL : Value} {W : World} (h : AlW B gA s sc bd vA vL W) (u : Int) : AlW B gA s sc u vA vL (W.setCell ⟨gA, 1, none⟩ (.int .i64 u)) :=
  ⟨h.blk.set_ 1 _, own_at h.att fun g e => heap_far _ _ _ (by have := (h.att.lt g e).1; have := h.ga; show g ≠ gA; omega), own_at h.left fun g e => heap_far _ _ _ (by have := (h.left.lt g e).1; have := h.ga; show g ≠ gA; omega), h.ga, h.ne⟩
theorem AlW.far {B gA : Nat} {s : St} {sc bd : Int} {vA vL : Value} {W : World} (h : AlW B gA s sc bd vA vL W) {p : Addr} (hp : p.block < gA) (u : Value) : AlW B gA s sc bd vA vL (W.setCell p u) :=
  ⟨h.blk.far (by omega) u, own_at h.att fun g e => heap_far _ _ _ (by have := (h.att.lt g e).1; have := h.ga; omega), own_at h.left fun g e => heap_far _ _ _ (by have := (h.left.lt g e).1; have := h.ga; omega), h.ga, h.ne⟩
theorem AlW.dr {B gA : Nat} {s : St} {sc bd : Int} {vA vL : Value} {W : World} (h : AlW B gA s sc bd vA vL W) : AlW B gA s sc bd vA vL W.drew := h.grow (Ext.refl W).drew
theorem own_cap {w : World} {B : Nat} {e : TypeId} {sz n c : Nat} {A : Option Addr} {xs : List Value} (h : w.ownsRow B e sz (.slice A n c) n xs) : n ≤ c := by
  rcases h.2 with ⟨h1, h2⟩ | ⟨g, cap, cur, hv, hg, hB, hcap, r⟩
  · omega
  · injection hv with _ _ hc
    omega
theorem mv_of_one' {c : Cl} {k : Bk} (h : isBlk c k = true) : isMove c (mvK k) = true := by
  rw [isBlk_iff] at h
  rw [isMove_iff]
  unfold mvK
  dsimp only
  omega
section
variable {α : Type} {sz : Nat} {f : α → List Value}
theorem sl_take {w : World} {g off : Nat} {l : List α} (hf : ∀ x, (f x).length = sz) (a : Nat) (ha : a ≤ l.length) (hb : g < w.heap.size) (hc : ∀ (k : Nat) (x : α), l[k]? = some x → ∀ j u, (f x)[j]? = some u → w.cell? ⟨g, off + k * sz + j, none⟩ = some u) :
    Slc w sz (some ⟨g, off, none⟩) a (flatG f (l.take a)) := by
  have h : Sl sz f w (some ⟨g, off, none⟩) (l.take a) := .inr ⟨g, off, rfl, hb, fun k m hm => hc k m (by
    rw [List.getElem?_take] at hm
    split at hm
    · exact hm
    · cases hm)⟩
  have := h.slc hf
  rwa [List.length_take, Nat.min_eq_left ha] at this
theorem sl_drop {w : World} {g off : Nat} {l : List α} (hf : ∀ x, (f x).length = sz) (a : Nat) (hb : g < w.heap.size) (hc : ∀ (k : Nat) (x : α), l[k]? = some x → ∀ j u, (f x)[j]? = some u → w.cell? ⟨g, off + k * sz + j, none⟩ = some u) :
    Slc w sz (some ⟨g, off + a * sz, none⟩) (l.length - a) (flatG f (l.drop a)) := by
  have h : Sl sz f w (some ⟨g, off + a * sz, none⟩) (l.drop a) := .inr ⟨g, off + a * sz, rfl, hb, fun k m hm j u hu => by
    rw [List.getElem?_drop] at hm
    have := hc (a + k) m hm j u hu
    rw [Nat.add_mul, ← Nat.add_assoc] at this
    exact this⟩
  have := h.slc hf
  rwa [List.length_drop] at this
end
/-- what a search of the reference returns -/
def RetA (s : St) (w : World) (e : Ending) (w' : World) : Prop := ∃ A1 c1 A2 c2, e = .returned (.agg #[.int .i64 (scoreS s), .int .i64 (boundS s), .slice A1 s.att.length c1, .slice A2 s.left.length c2]) ∧ Ats w' A1 s.att ∧ Rss w' A2 s.left ∧ Ext w w'
set_option maxRecDepth 100000 in
set_option maxHeartbeats 32000000 in
theorem searched_any (c : Cl) (hc : c.ok) (lp lq : List Mi) (N : Nat) (hN : N ≤ 2000) (hp : ∀ m ∈ lp, m.ok) (hq : ∀ m ∈ lq, m.ok) (hnp : lp.length ≤ 100) (hnq : lq.length ≤ 100) (Ap Aq : Option Addr) (cp cq : Nat) (w : World) (hP : Pts w Ap lp) (hQ : Pts w Aq lq) :
    Calls Try.prog 69 #[.slice Ap lp.length cp, .slice Aq lq.length cq, c.val, .int .i64 N] w (RetA (runS (bndK c lp lq) (trK c lp lq) N (startS (bndK c lp lq) c)) w) := by
  have CW := Lib.hid (fun (k : Bk) (h : isBlk c k = true) (W : World) (hE : Ext w W) => with_any c hc lp lq k h hp hq hnp hnq Ap Aq cp cq W (hP.grow hE) (hQ.grow hE))
  have CT := Lib.hid (fun (v : Mv) (h : isMove c v = true) (W : World) (hE : Ext w W) => show Calls Try.prog 57 #[.slice Ap lp.length cp, .slice Aq lq.length cq, c.val, v.val] W fun e w' => e = .returned (.agg (trK c lp lq v).cells) ∧ Ext W w' from tried_any c hc lp lq v hp hq (move_in hc h).1 (move_in hc h).2.1 (move_in hc h).2.2 hnp hnq Ap Aq cp cq W (hP.grow hE) (hQ.grow hE))
  have HPr := Lib.hid (prom hc lp lq hp)
  have HI := Lib.hid (inv_start (bnd := bndK c lp lq) (tr := trK c lp lq) hc)
  have HM := Lib.hid (meas_start (bnd := bndK c lp lq) hc)
  obtain ⟨T, hT⟩ : ∃ T : Nat, c.turns = T := ⟨c.turns.toNat, by have := hc.turns; omega⟩
  have hT3 : T ≤ 3 := by have := hc.turns; omega
  have hsh := hc.shift
  have CTu := Lib.hid (fun w => turns_any c T hT3 hT w)
  have hS0 : startS (bndK c lp lq) c = ⟨[], (turnsL T).map fun t => withB (bndK c lp lq) (wholeK c t)⟩ := by unfold startS; rw [hT, Int.toNat_natCast]
  rw [hS0] at HI HM ⊢
  have HWk := Lib.hid (show ∀ t ∈ turnsL T, isBlk c (wholeK c t) = true from fun t h => whole_ok hc (by rw [hT, Int.toNat_natCast]; exact h))
  have hll := turnsL_len T
  obtain ⟨L, hL⟩ : ∃ L, turnsL T = L := ⟨_, rfl⟩
  rw [hL] at CTu HWk hll HI HM ⊢
  have wS : IntKind.i64.wrap (-c.shift) = -c.shift := IntWalk.i64_in _ (by omega)
  have hl7 : L.length ≤ 7 := by omega
  have hl1 : 0 < L.length := by omega
  clear hS0 hT hc hp hq hP hQ hnp hnq hL hll
  generalize bndK c lp lq = bnd at *
  generalize trK c lp lq = tr at *
  obtain ⟨Fin, hFin⟩ : ∃ Fin, Fin = runS bnd tr N ⟨[], L.map fun t => withB bnd (wholeK c t)⟩ := ⟨_, rfl⟩
  rw [← hFin]
  have HFin := Lib.hid hFin
  clear hFin
  go_enter Try.func69, Try.ntmps69
  go_wp2_with fail
  refine calls_slice (CTu.out _) fun A n z hown => ?_
  obtain ⟨gt, cap, hv, hgb, hgl⟩ := hown.form (by omega)
  injection hv with hA _ hcap
  subst hA hcap
  have HTL := Lib.hid (fun j uu hu => by
    have := hown.cells (g := gt) rfl j uu hu
    rwa [addr_add, Nat.zero_add] at this : ∀ j uu, (intsL L)[j]? = some uu → (ext (((w.alloc (.cells #[.int .i64 c.turns, .int .i64 c.shift, .int .i64 c.elastic, .int .i64 c.reach, .int .i64 c.spread] 38)).alloc (.cells #[.int .i64 0, .int .i64 0, .slice none 0 0, .slice none 0 0] 58)).alloc (.cells #[.int .i64 0, .int .i64 0, .slice none 0 0, .slice none 0 0] 58)) z).cell? ⟨gt, j, none⟩ = some uu)
  have HGL := Lib.hid hgl
  have hgt1 : w.heap.size + 1 + 1 + 1 ≤ gt := by simpa using hgb
  have HC := Lib.hid ((((Blk.new w 38 #[.int .i64 c.turns, .int .i64 c.shift, .int .i64 c.elastic, .int .i64 c.reach, .int .i64 c.spread]).alloc (.cells #[.int .i64 0, .int .i64 0, .slice none 0 0, .slice none 0 0] 58)).alloc (.cells #[.int .i64 0, .int .i64 0, .slice none 0 0, .slice none 0 0] 58)).ext z)
  have HZ := Lib.hid (((Blk.new' (w.alloc (.cells #[.int .i64 c.turns, .int .i64 c.shift, .int .i64 c.elastic, .int .i64 c.reach, .int .i64 c.spread] 38)) 58 #[.int .i64 0, .int .i64 0, .slice none 0 0, .slice none 0 0] (w.heap.size + 1) (by simp)).alloc (.cells #[.int .i64 0, .int .i64 0, .slice none 0 0, .slice none 0 0] 58)).ext z)
  have HA0 := Lib.hid ((Blk.new' ((w.alloc (.cells #[.int .i64 c.turns, .int .i64 c.shift, .int .i64 c.elastic, .int .i64 c.reach, .int .i64 c.spread] 38)).alloc (.cells #[.int .i64 0, .int .i64 0, .slice none 0 0, .slice none 0 0] 58)) 58 #[.int .i64 0, .int .i64 0, .slice none 0 0, .slice none 0 0] (w.heap.size + 1 + 1) (by simp)).ext z)
  have HE := Lib.hid (((((Ext.refl w).alloc (.cells #[.int .i64 c.turns, .int .i64 c.shift, .int .i64 c.elastic, .int .i64 c.reach, .int .i64 c.spread] 38)).alloc (.cells #[.int .i64 0, .int .i64 0, .slice none 0 0, .slice none 0 0] 58)).alloc (.cells #[.int .i64 0, .int .i64 0, .slice none 0 0, .slice none 0 0] 58)).ext z)
  clear hown hgl hgb
  generalize ext (((w.alloc (.cells #[.int .i64 c.turns, .int .i64 c.shift, .int .i64 c.elastic, .int .i64 c.reach, .int .i64 c.spread] 38)).alloc (.cells #[.int .i64 0, .int .i64 0, .slice none 0 0, .slice none 0 0] 58)).alloc (.cells #[.int .i64 0, .int .i64 0, .slice none 0 0, .slice none 0 0] 58)) z = V at *
  obtain ⟨gA, hgA⟩ : ∃ gA, gA = w.heap.size + 1 + 1 := ⟨_, rfl⟩
  rw [← hgA] at HA0 hgt1
  have HS0 : Hid (SvI w V gA ⟨[], []⟩ (.slice none 0 0) (.slice none 0 0) V) := Lib.hid (SvI.mk (AlW.mk HA0.out (own_nil _ _ _ _) (own_nil _ _ _ _) (by omega) (fun g e => own_none e)) (fun _ _ _ => rfl) (Nat.le_refl _) HE.out (fun g e => own_none e) (fun g e => own_none e) (by omega) (by have := HGL.out; omega))
  have hn1 : w.heap.size ≠ gA := by omega
  have hn2 : gA ≠ w.heap.size := by omega
  have hn3 : gt ≠ gA := by omega
  have hn4 : gA ≠ gt := by omega
  have hn5 : w.heap.size + 1 ≠ gA := by omega
  have hn6 : gA ≠ w.heap.size + 1 := by omega
  have hgw : w.heap.size ≤ gA := by omega
  have hgA2 : w.heap.size + 1 + 1 = gA := hgA.symm
  clear HA0 HE hgt1 hgA
  simp only [hgA2]
  go_wp2_with fail
  go_loopw [11] (fun t wr => ∃ (k : Nat) (vL : Value), k ≤ L.length ∧ t = .int .i64 k ∧ SvI w V gA ⟨[], (L.take k).map fun t => withB bnd (wholeK c t)⟩ (.slice none 0 0) vL wr) (fun t _ => L.length - (intOf t).toNat)
  case atStart => exact ⟨0, _, Nat.zero_le _, rfl, HS0.out⟩
  case round =>
    clear HS0
    obtain ⟨k, vL, hk, rfl, hS⟩ := hrel
    have HS := Lib.hid hS
    have d0 : wr.cell? ⟨w.heap.size, 0, none⟩ = some (.int .i64 c.turns) := (hS.blk HC.out hn1).cell 0
    have d1 : wr.cell? ⟨w.heap.size, 1, none⟩ = some (.int .i64 c.shift) := (hS.blk HC.out hn1).cell 1
    have d2 : wr.cell? ⟨w.heap.size, 2, none⟩ = some (.int .i64 c.elastic) := (hS.blk HC.out hn1).cell 2
    have d3 : wr.cell? ⟨w.heap.size, 3, none⟩ = some (.int .i64 c.reach) := (hS.blk HC.out hn1).cell 3
    have d4 : wr.cell? ⟨w.heap.size, 4, none⟩ = some (.int .i64 c.spread) := (hS.blk HC.out hn1).cell 4
    have a3 : wr.cell? ⟨gA, 3, none⟩ = some vL := hS.al.blk.cell 3
    have fA := hS.al.blk.frozen
    have oC := Old.mk (hS.blk HC.out hn1).lt
    have oA := Old.mk hS.al.blk.lt
    have oT : Nonempty (Old gt wr) := ⟨Nat.lt_of_lt_of_le HGL.out hS.size⟩
    by_cases hlt : k < L.length
    · have hki : (k : Int) < L.length := by omega
      obtain ⟨t, ht⟩ : ∃ t, L[k]? = some t := ⟨_, List.getElem?_eq_getElem hlt⟩
      have t0 : wr.cell? ⟨gt, k, none⟩ = some (.int .i64 t) := (cell_heap (hS.far gt HGL.out hn3) k).trans (HTL.out k _ (by unfold intsL; rw [List.getElem?_map, ht]; rfl))
      have HBk := Lib.hid (HWk.out t (List.mem_of_getElem? ht))
      have HTK := Lib.hid (show (L.take (k + 1)).map (fun t => withB bnd (wholeK c t)) = (L.take k).map (fun t => withB bnd (wholeK c t)) ++ [withB bnd (wholeK c t)] by
        rw [List.take_succ_eq_append_getElem hlt]
        rw [List.getElem?_eq_getElem hlt] at ht
        injection ht with ht
        rw [ht, List.map_append]; rfl)
      have HLL := Lib.hid (show ((L.take k).map (fun t => withB bnd (wholeK c t))).length = k by simp; omega)
      have HOw := Lib.hid (own_mono hS.al.left (show w.heap.size ≤ gA + 1 by omega))
      have hkk : k + 1 ≤ 65536 := by omega
      obtain ⟨b, hb⟩ : ∃ b, b = bnd (wholeK c t) := ⟨_, rfl⟩
      have CWt := Lib.hid (show ∀ W, Ext w W → Calls Try.prog 81 #[.slice Ap lp.length cp, .slice Aq lq.length cq, c.val, .agg #[.int .i64 t, .int .i64 (-c.shift), .int .i64 (-c.shift), .int .i64 c.shift, .int .i64 c.shift]] W fun e w' => e = .returned (.agg #[.int .i64 t, .int .i64 (-c.shift), .int .i64 (-c.shift), .int .i64 c.shift, .int .i64 c.shift, .int .i64 b]) ∧ Ext W w' from fun W hE => by rw [hb]; exact CW.out (wholeK c t) HBk.out W hE)
      have HBB := Lib.hid (show (withB bnd (wholeK c t)).cellsL = [.int .i64 t, .int .i64 (-c.shift), .int .i64 (-c.shift), .int .i64 c.shift, .int .i64 c.shift, .int .i64 b] by rw [hb]; rfl)
      have HEw := Lib.hid hS.ext
      have HNL := Lib.hid (show ∀ g, g < V.heap.size → vL.ownBlock ≠ some g from fun g hg e => by have := hS.hL g e; omega)
      have HSZ := Lib.hid (show ∀ g, g < V.heap.size → g < wr.heap.size from fun g hg => Nat.lt_of_lt_of_le hg hS.size)
      have hVA := hS.hV
      have v1 : w.heap.size < V.heap.size := by have := hS.hw; omega
      have v2 : gA < V.heap.size := by omega
      clear hS ht hb
      go_wp2_with fail
      have HOk := Lib.hid (apL_ok HS.out (m := 1) (news := [.int .i64 t, .int .i64 (-c.shift), .int .i64 (-c.shift), .int .i64 c.shift, .int .i64 c.shift, .int .i64 b]) (by simp [Value.oneCell']) (by omega) (by show List.length ((L.take k).map fun t => withB bnd (wholeK c t)) + 1 ≤ 65536; rw [HLL.out]; omega) rfl)
      have HKeep : Hid (∀ w', (apL gA (.slice none 0 0) vL ((L.take k).map fun t => withB bnd (wholeK c t)) 1 [.int .i64 t, .int .i64 (-c.shift), .int .i64 (-c.shift), .int .i64 c.shift, .int .i64 c.shift, .int .i64 b] wr).T wr.drew w' → KeepX gA vL wr w') := Lib.hid fun w' h => (KeepX.of_ext (Ext.refl wr).drew).trans h.keep
      have HCb : Hid (∀ w', (apL gA (.slice none 0 0) vL ((L.take k).map fun t => withB bnd (wholeK c t)) 1 [.int .i64 t, .int .i64 (-c.shift), .int .i64 (-c.shift), .int .i64 c.shift, .int .i64 c.shift, .int .i64 b] wr).T wr.drew w' → Blk w' w.heap.size 38 #[.int .i64 c.turns, .int .i64 c.shift, .int .i64 c.elastic, .int .i64 c.reach, .int .i64 c.spread]) := Lib.hid fun w' h => HS.out.keepb HS.out.hL (HKeep.out w' h) HC.out hn1
      have HTb : Hid (∀ w', (apL gA (.slice none 0 0) vL ((L.take k).map fun t => withB bnd (wholeK c t)) 1 [.int .i64 t, .int .i64 (-c.shift), .int .i64 (-c.shift), .int .i64 c.shift, .int .i64 c.shift, .int .i64 b] wr).T wr.drew w' → w'.cell? ⟨gt, k, none⟩ = some (.int .i64 t)) := Lib.hid fun w' h => (cell_heap ((HKeep.out w' h).block gt (HSZ.out gt HGL.out) hn3 (HNL.out gt HGL.out)) k).trans t0
      have HOld : Hid (∀ w', (apL gA (.slice none 0 0) vL ((L.take k).map fun t => withB bnd (wholeK c t)) 1 [.int .i64 t, .int .i64 (-c.shift), .int .i64 (-c.shift), .int .i64 c.shift, .int .i64 c.shift, .int .i64 b] wr).T wr.drew w' → Ext w w') := Lib.hid fun w' h => HS.out.old HS.out.hL (HKeep.out w' h)
      have hkn : ((k : Nat) : Int).toNat = k := by omega
      refine wp_region_app (apL gA (.slice none 0 0) vL ((L.take k).map fun t => withB bnd (wholeK c t)) 1 [.int .i64 t, .int .i64 (-c.shift), .int .i64 (-c.shift), .int .i64 c.shift, .int .i64 c.shift, .int .i64 b] wr) HOk.out (Nat.le_refl _) 22 24 [isV (.pointer (some ⟨gA, 3, none⟩)), isV (vL), isV (.slice Ap lp.length cp), isV (.slice Aq lq.length cq), isV (c.val), isV (.slice (some ⟨gt, 0, none⟩) L.length n), isV (.int .i64 (k : Nat)), isV (.pointer (some ⟨gt, k, none⟩)), isV (.int .i64 t), isV (.pointer (some ⟨w.heap.size, 1, none⟩)), isV (.int .i64 c.shift), isV (.int .i64 (-c.shift)), isV (.pointer (some ⟨w.heap.size, 1, none⟩)), isV (.int .i64 c.shift), isV (.int .i64 (-c.shift)), isV (.pointer (some ⟨w.heap.size, 1, none⟩)), isV (.int .i64 c.shift), isV (.pointer (some ⟨w.heap.size, 1, none⟩)), isV (.int .i64 c.shift), isV (.agg #[.int .i64 t, .int .i64 (-c.shift), .int .i64 (-c.shift), .int .i64 c.shift, .int .i64 c.shift]), isV (.agg #[.int .i64 t, .int .i64 (-c.shift), .int .i64 (-c.shift), .int .i64 c.shift, .int .i64 c.shift, .int .i64 b]), App.New (apL gA (.slice none 0 0) vL ((L.take k).map fun t => withB bnd (wholeK c t)) 1 [.int .i64 t, .int .i64 (-c.shift), .int .i64 (-c.shift), .int .i64 c.shift, .int .i64 c.shift, .int .i64 b] wr), isV undef, isV (.pointer (some ⟨gA, 3, none⟩)), isV undef] (by kernel_rfl) (by kernel_rfl) (by simp [App.stab_val, App.stab_new]) (by decide) (by kernel_rfl) HS.out.al.left HS.out.al.blk ?op ?app ?st ?fin (by decide) (by decide) ?me
      case op =>
        intro i o ho hi1 hi2 a V2 _ hfrm hT hNs hdep
        match i, ho with
        | 0, ho =>
          injection ho with ho
          subst ho
          have e1 : a.tmps[9]?.getD undef = .pointer (some ⟨gA, 0, none⟩) := slot_of (hfrm 9 (frm_of 9 (by kernel_rfl)))
          exact rel_val (by simp [execOp, go_sem, e1]) rfl
        | 1, ho =>
          injection ho with ho
          subst ho
          have e1 : a.tmps[25]?.getD undef = .pointer (some ⟨gA, 3, none⟩) := slot_of (hdep ⟨0, .data⟩ (by simp) (by kernel_rfl) (by decide) (by decide))
          have c0 := (hNs (by kernel_rfl)).cell 3
          replace c0 : V2.cell? ⟨gA, 3, none⟩ = some vL := c0
          exact rel_val (by simp [execOp, go_sem, e1, c0]) rfl
        | 2, ho =>
          injection ho with ho
          subst ho
          have e1 : a.tmps[0]?.getD undef = .slice Ap lp.length cp := slot_of (hfrm 0 (frm_of 0 (by kernel_rfl)))
          exact rel_val (by simp [execOp, go_sem, e1]) rfl
        | 3, ho =>
          injection ho with ho
          subst ho
          have e1 : a.tmps[1]?.getD undef = .slice Aq lq.length cq := slot_of (hfrm 1 (frm_of 1 (by kernel_rfl)))
          exact rel_val (by simp [execOp, go_sem, e1]) rfl
        | 4, ho =>
          injection ho with ho
          subst ho
          have e1 : a.tmps[6]?.getD undef = .pointer (some ⟨w.heap.size, 0, none⟩) := slot_of (hfrm 6 (frm_of 6 (by kernel_rfl)))
          have c0 := (HCb.out _ hT).cell 0
          replace c0 : V2.cell? ⟨w.heap.size, 0, none⟩ = some (.int .i64 c.turns) := c0
          have c1 := (HCb.out _ hT).cell 1
          replace c1 : V2.cell? ⟨w.heap.size, 1, none⟩ = some (.int .i64 c.shift) := c1
          have c2 := (HCb.out _ hT).cell 2
          replace c2 : V2.cell? ⟨w.heap.size, 2, none⟩ = some (.int .i64 c.elastic) := c2
          have c3 := (HCb.out _ hT).cell 3
          replace c3 : V2.cell? ⟨w.heap.size, 3, none⟩ = some (.int .i64 c.reach) := c3
          have c4 := (HCb.out _ hT).cell 4
          replace c4 : V2.cell? ⟨w.heap.size, 4, none⟩ = some (.int .i64 c.spread) := c4
          exact rel_val (by simp [execOp, go_sem, e1, c0, c1, c2, c3, c4]) rfl
        | 5, ho =>
          injection ho with ho
          subst ho
          have e1 : a.tmps[10]?.getD undef = .slice (some ⟨gt, 0, none⟩) L.length n := slot_of (hfrm 10 (frm_of 10 (by kernel_rfl)))
          exact rel_val (by simp [execOp, go_sem, e1]) rfl
        | 6, ho =>
          injection ho with ho
          subst ho
          have e1 : a.tmps[11]?.getD undef = .int .i64 (k : Nat) := slot_of (hfrm 11 (frm_of 11 (by kernel_rfl)))
          exact rel_val (by simp [execOp, go_sem, e1]) rfl
        | 7, ho =>
          injection ho with ho
          subst ho
          have e1 : a.tmps[30]?.getD undef = .slice (some ⟨gt, 0, none⟩) L.length n := slot_of (hdep ⟨5, .data⟩ (by simp) (by kernel_rfl) (by decide) (by decide))
          have e2 : a.tmps[31]?.getD undef = .int .i64 (k : Nat) := slot_of (hdep ⟨6, .data⟩ (by simp) (by kernel_rfl) (by decide) (by decide))
          exact rel_val (by simp [execOp, go_sem, e1, e2, hki, hkn]) rfl
        | 8, ho =>
          injection ho with ho
          subst ho
          have e1 : a.tmps[32]?.getD undef = .pointer (some ⟨gt, k, none⟩) := slot_of (hdep ⟨7, .data⟩ (by simp) (by kernel_rfl) (by decide) (by decide))
          have c0 := HTb.out _ hT
          exact rel_val (by simp [execOp, go_sem, e1, c0]) rfl
        | 9, ho =>
          injection ho with ho
          subst ho
          have e1 : a.tmps[6]?.getD undef = .pointer (some ⟨w.heap.size, 0, none⟩) := slot_of (hfrm 6 (frm_of 6 (by kernel_rfl)))
          exact rel_val (by simp [execOp, go_sem, e1]) rfl
        | 10, ho =>
          injection ho with ho
          subst ho
          have e1 : a.tmps[34]?.getD undef = .pointer (some ⟨w.heap.size, 1, none⟩) := slot_of (hdep ⟨9, .data⟩ (by simp) (by kernel_rfl) (by decide) (by decide))
          have c1 := (HCb.out _ hT).cell 1
          replace c1 : V2.cell? ⟨w.heap.size, 1, none⟩ = some (.int .i64 c.shift) := c1
          exact rel_val (by simp [execOp, go_sem, e1, c1]) rfl
        | 11, ho =>
          injection ho with ho
          subst ho
          have e1 : a.tmps[35]?.getD undef = .int .i64 c.shift := slot_of (hdep ⟨10, .data⟩ (by simp) (by kernel_rfl) (by decide) (by decide))
          exact rel_val (by simp [execOp, go_sem, e1, wS]) rfl
        | 12, ho =>
          injection ho with ho
          subst ho
          have e1 : a.tmps[6]?.getD undef = .pointer (some ⟨w.heap.size, 0, none⟩) := slot_of (hfrm 6 (frm_of 6 (by kernel_rfl)))
          exact rel_val (by simp [execOp, go_sem, e1]) rfl
        | 13, ho =>
          injection ho with ho
          subst ho
          have e1 : a.tmps[37]?.getD undef = .pointer (some ⟨w.heap.size, 1, none⟩) := slot_of (hdep ⟨12, .data⟩ (by simp) (by kernel_rfl) (by decide) (by decide))
          have c1 := (HCb.out _ hT).cell 1
          replace c1 : V2.cell? ⟨w.heap.size, 1, none⟩ = some (.int .i64 c.shift) := c1
          exact rel_val (by simp [execOp, go_sem, e1, c1]) rfl
        | 14, ho =>
          injection ho with ho
          subst ho
          have e1 : a.tmps[38]?.getD undef = .int .i64 c.shift := slot_of (hdep ⟨13, .data⟩ (by simp) (by kernel_rfl) (by decide) (by decide))
          exact rel_val (by simp [execOp, go_sem, e1, wS]) rfl
        | 15, ho =>
          injection ho with ho
          subst ho
          have e1 : a.tmps[6]?.getD undef = .pointer (some ⟨w.heap.size, 0, none⟩) := slot_of (hfrm 6 (frm_of 6 (by kernel_rfl)))
          exact rel_val (by simp [execOp, go_sem, e1]) rfl
        | 16, ho =>
          injection ho with ho
          subst ho
          have e1 : a.tmps[40]?.getD undef = .pointer (some ⟨w.heap.size, 1, none⟩) := slot_of (hdep ⟨15, .data⟩ (by simp) (by kernel_rfl) (by decide) (by decide))
          have c1 := (HCb.out _ hT).cell 1
          replace c1 : V2.cell? ⟨w.heap.size, 1, none⟩ = some (.int .i64 c.shift) := c1
          exact rel_val (by simp [execOp, go_sem, e1, c1]) rfl
        | 17, ho =>
          injection ho with ho
          subst ho
          have e1 : a.tmps[6]?.getD undef = .pointer (some ⟨w.heap.size, 0, none⟩) := slot_of (hfrm 6 (frm_of 6 (by kernel_rfl)))
          exact rel_val (by simp [execOp, go_sem, e1]) rfl
        | 18, ho =>
          injection ho with ho
          subst ho
          have e1 : a.tmps[42]?.getD undef = .pointer (some ⟨w.heap.size, 1, none⟩) := slot_of (hdep ⟨17, .data⟩ (by simp) (by kernel_rfl) (by decide) (by decide))
          have c1 := (HCb.out _ hT).cell 1
          replace c1 : V2.cell? ⟨w.heap.size, 1, none⟩ = some (.int .i64 c.shift) := c1
          exact rel_val (by simp [execOp, go_sem, e1, c1]) rfl
        | 19, ho =>
          injection ho with ho
          subst ho
          have e1 : a.tmps[33]?.getD undef = .int .i64 t := slot_of (hdep ⟨8, .data⟩ (by simp) (by kernel_rfl) (by decide) (by decide))
          have e2 : a.tmps[36]?.getD undef = .int .i64 (-c.shift) := slot_of (hdep ⟨11, .data⟩ (by simp) (by kernel_rfl) (by decide) (by decide))
          have e3 : a.tmps[39]?.getD undef = .int .i64 (-c.shift) := slot_of (hdep ⟨14, .data⟩ (by simp) (by kernel_rfl) (by decide) (by decide))
          have e4 : a.tmps[41]?.getD undef = .int .i64 c.shift := slot_of (hdep ⟨16, .data⟩ (by simp) (by kernel_rfl) (by decide) (by decide))
          have e5 : a.tmps[43]?.getD undef = .int .i64 c.shift := slot_of (hdep ⟨18, .data⟩ (by simp) (by kernel_rfl) (by decide) (by decide))
          exact rel_val (by simp [execOp, go_sem, e1, e2, e3, e4, e5]) rfl
        | 20, ho =>
          injection ho with ho
          subst ho
          have e1 : a.tmps[27]?.getD undef = .slice Ap lp.length cp := slot_of (hdep ⟨2, .data⟩ (by simp) (by kernel_rfl) (by decide) (by decide))
          have e2 : a.tmps[28]?.getD undef = .slice Aq lq.length cq := slot_of (hdep ⟨3, .data⟩ (by simp) (by kernel_rfl) (by decide) (by decide))
          have e3 : a.tmps[29]?.getD undef = c.val := slot_of (hdep ⟨4, .data⟩ (by simp) (by kernel_rfl) (by decide) (by decide))
          have e4 : a.tmps[44]?.getD undef = .agg #[.int .i64 t, .int .i64 (-c.shift), .int .i64 (-c.shift), .int .i64 c.shift, .int .i64 c.shift] := slot_of (hdep ⟨19, .data⟩ (by simp) (by kernel_rfl) (by decide) (by decide))
          exact rel_call 81 [.tmp 27, .tmp 28, .tmp 29, .tmp 44] #[22, 22, 38, 40] rfl (by kernel_rfl) [.slice Ap lp.length cp, .slice Aq lq.length cq, c.val, .agg #[.int .i64 t, .int .i64 (-c.shift), .int .i64 (-c.shift), .int .i64 c.shift, .int .i64 c.shift]] (by simp [Act.eval, e1, e2, e3, e4]) (ret_val (CWt.out _ (HOld.out _ hT)))
        | 21, ho =>
          injection ho with ho
          subst ho
          have e1 : a.tmps[45]?.getD undef = .agg #[.int .i64 t, .int .i64 (-c.shift), .int .i64 (-c.shift), .int .i64 c.shift, .int .i64 c.shift, .int .i64 b] := slot_of (hdep ⟨20, .data⟩ (by simp) (by kernel_rfl) (by decide) (by decide))
          have hsz := hT.size
          simp [Oper.wp, execOp, go_sem, e1]
          exact ⟨_, rfl, ⟨_, rfl, hsz, Blk.new _ _ _⟩, (Ext.refl _).alloc _⟩
        | 22, ho =>
          exact absurd rfl hi1
        | 23, ho =>
          injection ho with ho
          subst ho
          have e1 : a.tmps[9]?.getD undef = .pointer (some ⟨gA, 0, none⟩) := slot_of (hfrm 9 (frm_of 9 (by kernel_rfl)))
          exact rel_val (by simp [execOp, go_sem, e1]) rfl
        | 24, ho =>
          exact absurd rfl hi2
        | k + 25, ho => exact absurd (List.getElem?_eq_some_iff.1 ho).1 (by simp)
      case app =>
        intro o ho a V2 hdep
        injection ho with ho
        subst ho
        have e1 : a.tmps[26]?.getD undef = vL := slot_of (hdep ⟨1, .data⟩ (by simp) (by kernel_rfl) (by decide) (by decide))
        obtain ⟨g, hg1, hg2, hg3⟩ := hdep ⟨21, .data⟩ (by simp) (by kernel_rfl) (by decide) (by decide)
        exact ⟨.tmp 26, .tmp 46, 56, 47, 48, rfl, rfl, infoRs, by decide, by simpa [Act.eval, apL] using e1, g, hg1, hg2, hg3⟩
      case st =>
        intro o ho a V2 hfrm hdep A cc hv hNs
        injection ho with ho
        subst ho
        have e1 : a.tmps[48]?.getD undef = .pointer (some ⟨gA, 3, none⟩) := slot_of (hdep ⟨23, .data⟩ (by simp) (by kernel_rfl) (by decide) (by decide))
        have e2 := slot_of hv
        have r0 : V2.cell? ⟨gA, 3, none⟩ = some (vL) := hNs.cell 3
        have hf := hNs.frozen
        simp only [apL] at hf
        refine ⟨rfl, ?_⟩
        simp [execOp, e1, e2, go_sem, r0, hf, apL]
      case me =>
        intro o ho
        injection ho with ho
        subst ho
        exact ⟨⟨22, .data⟩, by simp, by kernel_rfl, rfl⟩
      case fin =>
        intro vs V4 hT hSt hvs
        obtain ⟨v', ⟨⟨A, cc, rfl⟩, hown', hnew⟩, hblk⟩ := hSt
        have h2 := HS.out.appL (l := [withB bnd (wholeK c t)]) (HKeep.out _ hT) hblk (by rw [flatG_snoc, HBB.out]; exact hown') (by simp [apL]) hnew
        have HS2 := Lib.hid h2
        clear hvs hT h2 hown' hnew hblk HKeep HCb HTb HOld HOk
        simp only [putAll, Act.put]
        go_wp2_with fail
        exact ⟨⟨k + 1, _, by omega, by go_num, by rw [HTK.out]; exact HS2.out⟩, by simp [intOf]; omega⟩
    · obtain rfl : k = L.length := by omega
      rw [List.take_length] at HS
      have HS0 := HS
      have hzA : w.heap.size + 1 < gA := by omega
      have hzw : w.heap.size ≤ w.heap.size + 1 := by omega
      clear d0 d1 d2 d3 d4 a3 fA oC oA oT hS HS
      go_wp2_with fail
      go_loopw [12] (fun t wr => ∃ (k : Nat) (s : St) (vA vL : Value), t = .int .i64 k ∧ k ≤ N ∧ Fin = runS bnd tr (N - k) s ∧ Inv c bnd tr s ∧ meas s.left ≤ 1127 ∧ s.att.length ≤ k ∧ SvI w V gA s vA vL wr) (fun t _ => N - (intOf t).toNat)
      case atStart => exact ⟨0, _, _, _, rfl, Nat.zero_le _, HFin.out, HI.out, HM.out, Nat.le_refl _, HS0.out⟩
      case round =>
        clear HS0 HI HM HFin HTL HGL HWk CTu hl7 hl1 hT3
        obtain ⟨k, s, vA, vL, rfl, hk, hrun, hinv, hme, hal, hS⟩ := hrel
        have hll : s.left.length ≤ 1127 := Nat.le_trans (meas_len fun r hr => (hinv.left r hr).1) hme
        obtain ⟨A1, c1, rfl⟩ := own_slice hS.al.att
        obtain ⟨A2, c2, rfl⟩ := own_slice hS.al.left
        have HS := Lib.hid hS
        have HRun := Lib.hid hrun
        have HInv := Lib.hid hinv
        have HMe := Lib.hid hme
        have d0 : wr.cell? ⟨w.heap.size, 0, none⟩ = some (.int .i64 c.turns) := (hS.blk HC.out hn1).cell 0
        have d1 : wr.cell? ⟨w.heap.size, 1, none⟩ = some (.int .i64 c.shift) := (hS.blk HC.out hn1).cell 1
        have d2 : wr.cell? ⟨w.heap.size, 2, none⟩ = some (.int .i64 c.elastic) := (hS.blk HC.out hn1).cell 2
        have d3 : wr.cell? ⟨w.heap.size, 3, none⟩ = some (.int .i64 c.reach) := (hS.blk HC.out hn1).cell 3
        have d4 : wr.cell? ⟨w.heap.size, 4, none⟩ = some (.int .i64 c.spread) := (hS.blk HC.out hn1).cell 4
        have a0 : wr.cell? ⟨gA, 0, none⟩ = some (.int .i64 0) := (hS.al.blk).cell 0
        have a1 : wr.cell? ⟨gA, 1, none⟩ = some (.int .i64 0) := (hS.al.blk).cell 1
        have a2 : wr.cell? ⟨gA, 2, none⟩ = some (.slice A1 s.att.length c1) := (hS.al.blk).cell 2
        have a3 : wr.cell? ⟨gA, 3, none⟩ = some (.slice A2 s.left.length c2) := (hS.al.blk).cell 3
        have y0 : wr.cell? ⟨w.heap.size + 1, 0, none⟩ = some (.int .i64 0) := (hS.blk HZ.out hn5).cell 0
        have y1 : wr.cell? ⟨w.heap.size + 1, 1, none⟩ = some (.int .i64 0) := (hS.blk HZ.out hn5).cell 1
        have y2 : wr.cell? ⟨w.heap.size + 1, 2, none⟩ = some (.slice none 0 0) := (hS.blk HZ.out hn5).cell 2
        have y3 : wr.cell? ⟨w.heap.size + 1, 3, none⟩ = some (.slice none 0 0) := (hS.blk HZ.out hn5).cell 3
        have fA := hS.al.blk.frozen
        have fZ := (hS.blk HZ.out hn5).frozen
        have oC := Old.mk (hS.blk HC.out hn1).lt
        have oA := Old.mk hS.al.blk.lt
        have oZ := Old.mk (hS.blk HZ.out hn5).lt
        clear hS hrun hinv hme
        have hat : s.att.length ≤ 2000 := by omega
        by_cases hkN : k < N
        · have g1 : decide ((k : Int) < (N : Int)) = true := by simpa using hkN
          have g1' : decide (k < N) = true := by simpa using hkN
          by_cases hne : s.left = []
          · have hl0 : s.left.length = 0 := by rw [hne]; rfl
            have g2 : decide ((0 : Int) < ((s.left.length : Nat) : Int)) = false := by rw [hl0]; rfl
            have HF := Lib.hid (HRun.out.trans (run_stop (show stopS s = true by unfold stopS; rw [hne]; rfl) (N - k)))
            have HT := HS
            clear hl0
            go_wp2_with fail
            refine Calls.ext (top_any A1 c1 s.att _ (Ats.own HT.out.al.att) (by omega)) fun zt => ?_
            have hsc : scoreS s = topA s.att := rfl
            obtain ⟨sc, hsc2⟩ : ∃ sc, sc = topA s.att := ⟨_, rfl⟩
            rw [← hsc2] at hsc ⊢
            have HT1 := Lib.hid ((HT.out.grow (Ext.ext_self wr zt)))
            clear hsc2
            by_cases hne2 : s.left = []
            · have hl0 : s.left.length = 0 := by rw [hne2]; rfl
              have g5 : decide ((0 : Int) < ((s.left.length : Nat) : Int)) = false := by rw [hl0]; rfl
              have g6 : decide (0 < s.left.length) = false := by rw [hl0]; rfl
              have hbd : boundS s = sc := by unfold boundS; rw [hsc, hne2]; rfl
              have HAf := Lib.hid (((((HT1.out.al.set0 sc).set1 sc).far (p := ⟨w.heap.size + 1, 0, none⟩) hzA (.int .i64 sc)).far (p := ⟨w.heap.size + 1, 1, none⟩) hzA (.int .i64 sc)).far (p := ⟨w.heap.size + 1, 2, none⟩) hzA (.slice A1 s.att.length c1)|>.far (p := ⟨w.heap.size + 1, 3, none⟩) hzA (.slice A2 0 c2))
              have HZf := Lib.hid ((((((HT1.out.blk HZ.out hn5).far (p := ⟨gA, 0, none⟩) hn5 (.int .i64 sc)).far (p := ⟨gA, 1, none⟩) hn5 (.int .i64 sc)).set_ 0 (.int .i64 sc)).set_ 1 (.int .i64 sc)).set_ 2 (.slice A1 s.att.length c1)|>.set_ 3 (.slice A2 0 c2))
              have HEf := Lib.hid (((((((HT1.out.ext.setCell (p := ⟨gA, 0, none⟩) hgw (.int .i64 sc)).setCell (p := ⟨gA, 1, none⟩) hgw (.int .i64 sc)).setCell (p := ⟨w.heap.size + 1, 0, none⟩) hzw (.int .i64 sc)).setCell (p := ⟨w.heap.size + 1, 1, none⟩) hzw (.int .i64 sc)).setCell (p := ⟨w.heap.size + 1, 2, none⟩) hzw (.slice A1 s.att.length c1)).setCell (p := ⟨w.heap.size + 1, 3, none⟩) hzw (.slice A2 0 c2)))
              go_wp2_with fail
              generalize (((((((ext wr zt).setCell ⟨gA, 0, none⟩ (.int .i64 sc)).setCell ⟨gA, 1, none⟩ (.int .i64 sc)).setCell ⟨w.heap.size + 1, 0, none⟩ (.int .i64 sc)).setCell ⟨w.heap.size + 1, 1, none⟩ (.int .i64 sc)).setCell ⟨w.heap.size + 1, 2, none⟩ (.slice A1 s.att.length c1)).setCell ⟨w.heap.size + 1, 3, none⟩ (.slice A2 0 c2)) = Wf at *
              have q0 : Wf.cell? ⟨w.heap.size + 1, 0, none⟩ = some (.int .i64 sc) := HZf.out.cell 0
              have q1 : Wf.cell? ⟨w.heap.size + 1, 1, none⟩ = some (.int .i64 sc) := HZf.out.cell 1
              have q2 : Wf.cell? ⟨w.heap.size + 1, 2, none⟩ = some (.slice A1 s.att.length c1) := HZf.out.cell 2
              have q3 : Wf.cell? ⟨w.heap.size + 1, 3, none⟩ = some (.slice A2 0 c2) := HZf.out.cell 3
              refine bodyPost_ret (v := .agg #[.int .i64 sc, .int .i64 sc, .slice A1 s.att.length c1, .slice A2 0 c2]) (by simp [results, Try.results69, go_sem, q0, q1, q2, q3]) rfl ?_
              rw [HF.out]
              refine ⟨A1, c1, A2, c2, ?_, Ats.own HAf.out.att, Rss.own HAf.out.left, HEf.out⟩
              rw [hsc, hbd, hl0]
            · exact absurd hne hne2
          · have hlp := high_lt hne
            have g2 : decide ((0 : Int) < ((s.left.length : Nat) : Int)) = true := by simp; omega
            have g2' : decide (0 < s.left.length) = true := by simp; omega
            go_wp2_with fail
            refine Calls.ext (high_any A2 c2 s.left _ (Rss.own HS.out.al.left) (by omega)) fun z1 => ?_
            obtain ⟨h, hh⟩ : ∃ h, high s.left = h := ⟨_, rfl⟩
            have hxs : ∃ x, s.left[high s.left]? = some x := ⟨_, List.getElem?_eq_getElem hlp⟩
            obtain ⟨x, hx⟩ := hxs
            have HStY := Lib.hid (fun a1 a2 => stop_yes (s := s) hx hne a1 a2)
            have HStN := Lib.hid (fun a1 => stop_not (s := s) hx hne a1)
            have HI2 := Lib.hid (inv_step HPr.out HInv.out hne)
            have HStep := Lib.hid (show stepS bnd tr s = if oneK x.bk then ⟨s.att ++ [tr (mvK x.bk)], s.left.eraseIdx h⟩ else ⟨s.att, s.left.eraseIdx h ++ [withB bnd (loK x.bk), withB bnd (hiK x.bk)]⟩ by unfold stepS; rw [hx, ← hh])
            rw [hh] at hlp hx ⊢
            have HBk := Lib.hid ((HInv.out.left x (List.mem_of_getElem? hx)).1)
            have HSa := Lib.hid (HS.out.grow (Ext.ext_self wr z1))
            rcases Rss.own HSa.out.al.left with hnn | ⟨g, off, hA2, hg, hcl⟩
            · exact absurd hnn hne
            subst hA2
            have HCL := Lib.hid hcl
            clear d0 d1 d2 d3 d4 a0 a1 a2 a3 y0 y1 y2 y3 fA fZ oC oA oZ hcl hh
            generalize ext wr z1 = wa at *
            have d0 : wa.cell? ⟨w.heap.size, 0, none⟩ = some (.int .i64 c.turns) := (HSa.out.blk HC.out hn1).cell 0
            have d1 : wa.cell? ⟨w.heap.size, 1, none⟩ = some (.int .i64 c.shift) := (HSa.out.blk HC.out hn1).cell 1
            have d2 : wa.cell? ⟨w.heap.size, 2, none⟩ = some (.int .i64 c.elastic) := (HSa.out.blk HC.out hn1).cell 2
            have d3 : wa.cell? ⟨w.heap.size, 3, none⟩ = some (.int .i64 c.reach) := (HSa.out.blk HC.out hn1).cell 3
            have d4 : wa.cell? ⟨w.heap.size, 4, none⟩ = some (.int .i64 c.spread) := (HSa.out.blk HC.out hn1).cell 4
            have a0 : wa.cell? ⟨gA, 0, none⟩ = some (.int .i64 0) := (HSa.out.al.blk).cell 0
            have a1 : wa.cell? ⟨gA, 1, none⟩ = some (.int .i64 0) := (HSa.out.al.blk).cell 1
            have a2 : wa.cell? ⟨gA, 2, none⟩ = some (.slice A1 s.att.length c1) := (HSa.out.al.blk).cell 2
            have a3 : wa.cell? ⟨gA, 3, none⟩ = some (.slice (some ⟨g, off, none⟩) s.left.length c2) := (HSa.out.al.blk).cell 3
            have y0 : wa.cell? ⟨w.heap.size + 1, 0, none⟩ = some (.int .i64 0) := (HSa.out.blk HZ.out hn5).cell 0
            have y1 : wa.cell? ⟨w.heap.size + 1, 1, none⟩ = some (.int .i64 0) := (HSa.out.blk HZ.out hn5).cell 1
            have y2 : wa.cell? ⟨w.heap.size + 1, 2, none⟩ = some (.slice none 0 0) := (HSa.out.blk HZ.out hn5).cell 2
            have y3 : wa.cell? ⟨w.heap.size + 1, 3, none⟩ = some (.slice none 0 0) := (HSa.out.blk HZ.out hn5).cell 3
            have fA := HSa.out.al.blk.frozen
            have fZ := (HSa.out.blk HZ.out hn5).frozen
            have oC := Old.mk (HSa.out.blk HC.out hn1).lt
            have oA := Old.mk HSa.out.al.blk.lt
            have oZ := Old.mk (HSa.out.blk HZ.out hn5).lt
            have og := Old.mk hg
            have x0 : wa.cell? ⟨g, off + h * 6, none⟩ = some (.int .i64 x.bk.turn) := HCL.out h x hx 0 _ rfl
            have x1 : wa.cell? ⟨g, off + h * 6 + 1, none⟩ = some (.int .i64 x.bk.x0) := HCL.out h x hx 1 _ rfl
            have x2 : wa.cell? ⟨g, off + h * 6 + 2, none⟩ = some (.int .i64 x.bk.y0) := HCL.out h x hx 2 _ rfl
            have x3 : wa.cell? ⟨g, off + h * 6 + 3, none⟩ = some (.int .i64 x.bk.x1) := HCL.out h x hx 3 _ rfl
            have x4 : wa.cell? ⟨g, off + h * 6 + 4, none⟩ = some (.int .i64 x.bk.y1) := HCL.out h x hx 4 _ rfl
            have x5 : wa.cell? ⟨g, off + h * 6 + 5, none⟩ = some (.int .i64 x.bound) := HCL.out h x hx 5 _ rfl
            have hhi : (h : Int) < ((s.left.length : Nat) : Int) := by omega
            go_wp2_with fail
            have HSb := Lib.hid (HSa.out.grow ((Ext.refl wa).alloc (.cells #[.int .i64 x.bk.turn, .int .i64 x.bk.x0, .int .i64 x.bk.y0, .int .i64 x.bk.x1, .int .i64 x.bk.y1, .int .i64 x.bound] 105)))
            have HX := Lib.hid (Blk.new wa 105 #[.int .i64 x.bk.turn, .int .i64 x.bk.x0, .int .i64 x.bk.y0, .int .i64 x.bk.x1, .int .i64 x.bk.y1, .int .i64 x.bound])
            have HCb := Lib.hid (show ∀ (k : Nat) (y : Rs), s.left[k]? = some y → ∀ j u, y.cellsL[j]? = some u → (wa.alloc (.cells #[.int .i64 x.bk.turn, .int .i64 x.bk.x0, .int .i64 x.bk.y0, .int .i64 x.bk.x1, .int .i64 x.bk.y1, .int .i64 x.bound] 105)).cell? ⟨g, off + k * 6 + j, none⟩ = some u from fun k y hy j u hu => (((Ext.refl wa).alloc (.cells #[.int .i64 x.bk.turn, .int .i64 x.bk.x0, .int .i64 x.bk.y0, .int .i64 x.bk.x1, .int .i64 x.bk.y1, .int .i64 x.bound] 105)).cell (by exact hg)).trans (HCL.out k y hy j u hu))
            have hgb : g < (wa.alloc (.cells #[.int .i64 x.bk.turn, .int .i64 x.bk.x0, .int .i64 x.bk.y0, .int .i64 x.bk.x1, .int .i64 x.bk.y1, .int .i64 x.bound] 105)).heap.size := Nat.lt_of_lt_of_le hg ((Ext.refl wa).alloc (.cells #[.int .i64 x.bk.turn, .int .i64 x.bk.x0, .int .i64 x.bk.y0, .int .i64 x.bk.x1, .int .i64 x.bk.y1, .int .i64 x.bound] 105)).size
            clear d0 d1 d2 d3 d4 a0 a1 a2 a3 y0 y1 y2 y3 fA fZ oC oA oZ x0 x1 x2 x3 x4 x5 og HCL hg
            have hgxA : wa.heap.size ≠ gA := by have := HSa.out.al.blk.lt; omega
            have hgxV : ∀ b, (Value.slice A1 s.att.length c1).ownBlock = some b → b ≠ wa.heap.size := fun b e => by have := (HSa.out.al.att.lt b e).2; omega
            generalize wa.alloc (.cells #[.int .i64 x.bk.turn, .int .i64 x.bk.x0, .int .i64 x.bk.y0, .int .i64 x.bk.x1, .int .i64 x.bk.y1, .int .i64 x.bound] 105) = wb at *
            generalize wa.heap.size = gx at *
            have d0 : wb.cell? ⟨w.heap.size, 0, none⟩ = some (.int .i64 c.turns) := (HSb.out.blk HC.out hn1).cell 0
            have d1 : wb.cell? ⟨w.heap.size, 1, none⟩ = some (.int .i64 c.shift) := (HSb.out.blk HC.out hn1).cell 1
            have d2 : wb.cell? ⟨w.heap.size, 2, none⟩ = some (.int .i64 c.elastic) := (HSb.out.blk HC.out hn1).cell 2
            have d3 : wb.cell? ⟨w.heap.size, 3, none⟩ = some (.int .i64 c.reach) := (HSb.out.blk HC.out hn1).cell 3
            have d4 : wb.cell? ⟨w.heap.size, 4, none⟩ = some (.int .i64 c.spread) := (HSb.out.blk HC.out hn1).cell 4
            have a0 : wb.cell? ⟨gA, 0, none⟩ = some (.int .i64 0) := (HSb.out.al.blk).cell 0
            have a1 : wb.cell? ⟨gA, 1, none⟩ = some (.int .i64 0) := (HSb.out.al.blk).cell 1
            have a2 : wb.cell? ⟨gA, 2, none⟩ = some (.slice A1 s.att.length c1) := (HSb.out.al.blk).cell 2
            have a3 : wb.cell? ⟨gA, 3, none⟩ = some (.slice (some ⟨g, off, none⟩) s.left.length c2) := (HSb.out.al.blk).cell 3
            have y0 : wb.cell? ⟨w.heap.size + 1, 0, none⟩ = some (.int .i64 0) := (HSb.out.blk HZ.out hn5).cell 0
            have y1 : wb.cell? ⟨w.heap.size + 1, 1, none⟩ = some (.int .i64 0) := (HSb.out.blk HZ.out hn5).cell 1
            have y2 : wb.cell? ⟨w.heap.size + 1, 2, none⟩ = some (.slice none 0 0) := (HSb.out.blk HZ.out hn5).cell 2
            have y3 : wb.cell? ⟨w.heap.size + 1, 3, none⟩ = some (.slice none 0 0) := (HSb.out.blk HZ.out hn5).cell 3
            have fA := HSb.out.al.blk.frozen
            have fZ := (HSb.out.blk HZ.out hn5).frozen
            have oC := Old.mk (HSb.out.blk HC.out hn1).lt
            have oA := Old.mk HSb.out.al.blk.lt
            have oZ := Old.mk (HSb.out.blk HZ.out hn5).lt
            have x5 : wb.cell? ⟨gx, 5, none⟩ = some (.int .i64 x.bound) := HX.out.cell 5
            have oX := Old.mk HX.out.lt
            go_cut [79] from 68 to 78 (fun s79 wx => s79 = .bool (stopS s) ∧ ∃ z, wx = ext wb z)
            case first =>
              by_cases hatt : s.att = []
              · have e1 : decide ((0 : Int) < ((s.att.length : Nat) : Int)) = false := by rw [hatt]; rfl
                have e1' : decide (0 < s.att.length) = false := by rw [hatt]; rfl
                have HSt := Lib.hid (HStN.out (.inl hatt))
                clear hatt
                refine wp_region_ext (by kernel_rfl) (by kernel_rfl) ?_
                repeat (go_big_quiet_step (fail))
                refine wpQuiet_nil ?_
                rintro _ ⟨z2, rfl⟩
                go_wp2_with fail
                go_meet
                exact ⟨by rw [HSt.out], z2, rfl⟩
              · have hpa : 0 < s.att.length := by
                  rcases Nat.eq_zero_or_pos s.att.length with h | h
                  · exact absurd (List.eq_nil_of_length_eq_zero h) hatt
                  · exact h
                have e1 : decide ((0 : Int) < ((s.att.length : Nat) : Int)) = true := by first | (simp; done) | (simp; omega)
                have e1' : decide (0 < s.att.length) = true := by first | (simp; done) | (simp; omega)
                have CT1 := Lib.hid (fun z => top_any A1 c1 s.att (ext wb z) (Ats.grow (Ats.own HSb.out.al.att) (Ext.ext_self wb z)) (by omega))
                obtain ⟨tp, htp⟩ : ∃ tp, tp = topA s.att := ⟨_, rfl⟩
                rw [← htp] at CT1 HStY HStN
                by_cases hle : x.bound ≤ tp
                · have e2 : decide (x.bound ≤ tp) = true := by simpa using hle
                  have HSt := Lib.hid (HStY.out hatt hle)
                  clear hatt hle htp
                  refine wp_region_ext (by kernel_rfl) (by kernel_rfl) ?_
                  repeat (go_big_quiet_step ((go_at_call 78; exact Calls.quiet_ext (CT1.out _))))
                  refine wpQuiet_nil ?_
                  rintro _ ⟨z2, rfl⟩
                  go_wp2_with fail
                  go_meet
                  exact ⟨by rw [HSt.out], z2, rfl⟩
                · have e2 : decide (x.bound ≤ tp) = false := by first | (simp; done) | (simp; omega)
                  have HSt := Lib.hid (HStN.out (.inr (by omega)))
                  clear hatt hle htp
                  refine wp_region_ext (by kernel_rfl) (by kernel_rfl) ?_
                  repeat (go_big_quiet_step ((go_at_call 78; exact Calls.quiet_ext (CT1.out _))))
                  refine wpQuiet_nil ?_
                  rintro _ ⟨z2, rfl⟩
                  go_wp2_with fail
                  go_meet
                  exact ⟨by rw [HSt.out], z2, rfl⟩
            case rest =>
              obtain ⟨rfl, z, rfl⟩ := hcut
              have HSc := Lib.hid (HSb.out.grow (Ext.ext_self wb z))
              have HXc := Lib.hid (HX.out.ext z)
              have HCc := Lib.hid (show ∀ (k : Nat) (y : Rs), s.left[k]? = some y → ∀ j u, y.cellsL[j]? = some u → (ext wb z).cell? ⟨g, off + k * 6 + j, none⟩ = some u from fun k y hy j u hu => ((Ext.ext_self wb z).cell (by exact hgb)).trans (HCb.out k y hy j u hu))
              have hgc : g < (ext wb z).heap.size := Nat.lt_of_lt_of_le hgb (Ext.ext_self wb z).size
              clear d0 d1 d2 d3 d4 a0 a1 a2 a3 y0 y1 y2 y3 fA fZ oC oA oZ x5 oX HSa HSb HX HCb hgb HStY HStN
              generalize ext wb z = wc at *
              have d0 : wc.cell? ⟨w.heap.size, 0, none⟩ = some (.int .i64 c.turns) := (HSc.out.blk HC.out hn1).cell 0
              have d1 : wc.cell? ⟨w.heap.size, 1, none⟩ = some (.int .i64 c.shift) := (HSc.out.blk HC.out hn1).cell 1
              have d2 : wc.cell? ⟨w.heap.size, 2, none⟩ = some (.int .i64 c.elastic) := (HSc.out.blk HC.out hn1).cell 2
              have d3 : wc.cell? ⟨w.heap.size, 3, none⟩ = some (.int .i64 c.reach) := (HSc.out.blk HC.out hn1).cell 3
              have d4 : wc.cell? ⟨w.heap.size, 4, none⟩ = some (.int .i64 c.spread) := (HSc.out.blk HC.out hn1).cell 4
              have a0 : wc.cell? ⟨gA, 0, none⟩ = some (.int .i64 0) := (HSc.out.al.blk).cell 0
              have a1 : wc.cell? ⟨gA, 1, none⟩ = some (.int .i64 0) := (HSc.out.al.blk).cell 1
              have a2 : wc.cell? ⟨gA, 2, none⟩ = some (.slice A1 s.att.length c1) := (HSc.out.al.blk).cell 2
              have a3 : wc.cell? ⟨gA, 3, none⟩ = some (.slice (some ⟨g, off, none⟩) s.left.length c2) := (HSc.out.al.blk).cell 3
              have y0 : wc.cell? ⟨w.heap.size + 1, 0, none⟩ = some (.int .i64 0) := (HSc.out.blk HZ.out hn5).cell 0
              have y1 : wc.cell? ⟨w.heap.size + 1, 1, none⟩ = some (.int .i64 0) := (HSc.out.blk HZ.out hn5).cell 1
              have y2 : wc.cell? ⟨w.heap.size + 1, 2, none⟩ = some (.slice none 0 0) := (HSc.out.blk HZ.out hn5).cell 2
              have y3 : wc.cell? ⟨w.heap.size + 1, 3, none⟩ = some (.slice none 0 0) := (HSc.out.blk HZ.out hn5).cell 3
              have fA := HSc.out.al.blk.frozen
              have fZ := (HSc.out.blk HZ.out hn5).frozen
              have oC := Old.mk (HSc.out.blk HC.out hn1).lt
              have oA := Old.mk HSc.out.al.blk.lt
              have oZ := Old.mk (HSc.out.blk HZ.out hn5).lt
              cases hst : stopS s
              · have HR2 := Lib.hid (show Fin = runS bnd tr (N - (k + 1)) (stepS bnd tr s) by
                  rw [HRun.out, show N - k = N - (k + 1) + 1 by omega]
                  show (if stopS s then s else _) = _
                  rw [hst]
                  rfl)
                clear hst
                have HT := Lib.hid (sl_take rs_len h (by omega) hgc HCc.out)
                have HD := Lib.hid (sl_drop rs_len (h + 1) hgc HCc.out)
                have HXo := Lib.hid (flatG_one rs_one (s.left.take h))
                have HYo := Lib.hid (flatG_one rs_one (s.left.drop (h + 1)))
                have herase : s.left.eraseIdx h = s.left.take h ++ s.left.drop (h + 1) := List.eraseIdx_eq_take_drop_succ ..
                have HER := Lib.hid herase
                have hel : (s.left.eraseIdx h).length = h + (s.left.length - (h + 1)) := by rw [List.length_eraseIdx, if_pos hlp]; omega
                have HEL := Lib.hid hel
                have hc2 : s.left.length ≤ c2 := own_cap HSc.out.al.left
                clear herase hel HCc
                have wh : IntKind.i64.wrap ((h : Int) + 1) = (h : Int) + 1 := IntWalk.i64_in _ (by omega)
                have hna : ((h : Int) + 1).toNat = h + 1 := by omega
                have hq1 : (h : Int) ≤ (c2 : Int) := by omega
                have hq2 : (h : Int) + 1 ≤ ((s.left.length : Nat) : Int) := by omega
                have hq3 : (0 : Int) ≤ (h : Int) + 1 := by omega
                have hq4 : ((s.left.length : Nat) : Int) ≤ (c2 : Int) := by omega
                have hq5 : (((s.left.length : Nat) : Int) - ((h : Int) + 1)).toNat = s.left.length - (h + 1) := by omega
                go_wp2_with fail
                go_cut [92] from 80 to 91 (fun _ wx => ∃ (A4 : Option Addr) (c4 : Nat), SvI w V gA ⟨s.att, s.left.eraseIdx h⟩ (.slice A1 s.att.length c1) (.slice A4 (s.left.eraseIdx h).length c4) wx ∧ Blk wx gx 105 #[.int .i64 x.bk.turn, .int .i64 x.bk.x0, .int .i64 x.bk.y0, .int .i64 x.bk.x1, .int .i64 x.bk.y1, .int .i64 x.bound])
                case rest =>
                  obtain ⟨A4, c4, hS3, hX3⟩ := hcut
                  have HS3 := Lib.hid hS3
                  have HX3 := Lib.hid hX3
                  clear hS3 hX3 d0 d1 d2 d3 d4 a0 a1 a2 a3 y0 y1 y2 y3 fA fZ oC oA oZ HT HD HXo HYo HER HEL HSc HXc hq1 hq2 hq3 hq4 hq5 wh hna hc2 hgc
                  have h3l : (s.left.eraseIdx h).length ≤ 1127 := by rw [List.length_eraseIdx, if_pos hlp]; omega
                  have d0 : wc.cell? ⟨w.heap.size, 0, none⟩ = some (.int .i64 c.turns) := (HS3.out.blk HC.out hn1).cell 0
                  have d1 : wc.cell? ⟨w.heap.size, 1, none⟩ = some (.int .i64 c.shift) := (HS3.out.blk HC.out hn1).cell 1
                  have d2 : wc.cell? ⟨w.heap.size, 2, none⟩ = some (.int .i64 c.elastic) := (HS3.out.blk HC.out hn1).cell 2
                  have d3 : wc.cell? ⟨w.heap.size, 3, none⟩ = some (.int .i64 c.reach) := (HS3.out.blk HC.out hn1).cell 3
                  have d4 : wc.cell? ⟨w.heap.size, 4, none⟩ = some (.int .i64 c.spread) := (HS3.out.blk HC.out hn1).cell 4
                  have a0 : wc.cell? ⟨gA, 0, none⟩ = some (.int .i64 0) := (HS3.out.al.blk).cell 0
                  have a1 : wc.cell? ⟨gA, 1, none⟩ = some (.int .i64 0) := (HS3.out.al.blk).cell 1
                  have a2 : wc.cell? ⟨gA, 2, none⟩ = some (.slice A1 s.att.length c1) := (HS3.out.al.blk).cell 2
                  have a3 : wc.cell? ⟨gA, 3, none⟩ = some (.slice A4 (s.left.eraseIdx h).length c4) := (HS3.out.al.blk).cell 3
                  have y0 : wc.cell? ⟨w.heap.size + 1, 0, none⟩ = some (.int .i64 0) := (HS3.out.blk HZ.out hn5).cell 0
                  have y1 : wc.cell? ⟨w.heap.size + 1, 1, none⟩ = some (.int .i64 0) := (HS3.out.blk HZ.out hn5).cell 1
                  have y2 : wc.cell? ⟨w.heap.size + 1, 2, none⟩ = some (.slice none 0 0) := (HS3.out.blk HZ.out hn5).cell 2
                  have y3 : wc.cell? ⟨w.heap.size + 1, 3, none⟩ = some (.slice none 0 0) := (HS3.out.blk HZ.out hn5).cell 3
                  have fA := HS3.out.al.blk.frozen
                  have fZ := (HS3.out.blk HZ.out hn5).frozen
                  have oC := Old.mk (HS3.out.blk HC.out hn1).lt
                  have oA := Old.mk HS3.out.al.blk.lt
                  have oZ := Old.mk (HS3.out.blk HZ.out hn5).lt
                  have x0 : wc.cell? ⟨gx, 0, none⟩ = some (.int .i64 x.bk.turn) := (HX3.out).cell 0
                  have x1 : wc.cell? ⟨gx, 1, none⟩ = some (.int .i64 x.bk.x0) := (HX3.out).cell 1
                  have x2 : wc.cell? ⟨gx, 2, none⟩ = some (.int .i64 x.bk.y0) := (HX3.out).cell 2
                  have x3 : wc.cell? ⟨gx, 3, none⟩ = some (.int .i64 x.bk.x1) := (HX3.out).cell 3
                  have x4 : wc.cell? ⟨gx, 4, none⟩ = some (.int .i64 x.bk.y1) := (HX3.out).cell 4
                  have x5 : wc.cell? ⟨gx, 5, none⟩ = some (.int .i64 x.bound) := (HX3.out).cell 5
                  have oX := Old.mk HX3.out.lt
                  have hbk := isBlk_iff.1 HBk.out
                  have hN1 := HS3.out.ext
                  clear hN1
                  cases h1 : oneK x.bk
                  · have hb : (x.bk.x0 == x.bk.x1) = false ∨ (x.bk.x0 == x.bk.x1) = true ∧ (x.bk.y0 == x.bk.y1) = false := by
                      unfold oneK at h1
                      by_cases e : x.bk.x0 = x.bk.x1
                      · right
                        rw [decide_eq_true e, Bool.true_and] at h1
                        exact ⟨by simpa using e, by simpa using h1⟩
                      · exact .inl (by simpa using e)
                    rcases hb with b1 | ⟨b1, b2⟩
                    all_goals
                      have hs1 := HStep.out
                      rw [h1] at hs1
                      have HSt2 := Lib.hid (show stepS bnd tr s = ⟨s.att, s.left.eraseIdx h ++ [withB bnd (loK x.bk), withB bnd (hiK x.bk)]⟩ from hs1)
                      have HLo := Lib.hid (lo_ok HBk.out h1).1
                      have HHi := Lib.hid (hi_ok HBk.out h1).1
                      go_wp2_with fail
                      refine Calls.ext (halves_any x.bk (by omega) (by omega) (by omega) (by omega) _) fun z5 => ?_
                      obtain ⟨lo, hlo⟩ : ∃ lo, lo = loK x.bk := ⟨_, rfl⟩
                      obtain ⟨hi, hhk⟩ : ∃ hi, hi = hiK x.bk := ⟨_, rfl⟩
                      rw [← hlo, ← hhk]
                      have HLO := Lib.hid hlo
                      have HHK := Lib.hid hhk
                      clear hlo hhk
                      clear HStep
                      go_wp2_with fail
                      have HSd := Lib.hid (HS3.out.grow (((Ext.ext_self wc z5).alloc (.cells #[.int .i64 lo.turn, .int .i64 lo.x0, .int .i64 lo.y0, .int .i64 lo.x1, .int .i64 lo.y1] 40)).alloc (.cells #[.int .i64 hi.turn, .int .i64 hi.x0, .int .i64 hi.y0, .int .i64 hi.x1, .int .i64 hi.y1] 40)))
                      have HLb := Lib.hid ((Blk.new (ext wc z5) 40 #[.int .i64 lo.turn, .int .i64 lo.x0, .int .i64 lo.y0, .int .i64 lo.x1, .int .i64 lo.y1]).alloc (.cells #[.int .i64 hi.turn, .int .i64 hi.x0, .int .i64 hi.y0, .int .i64 hi.x1, .int .i64 hi.y1] 40))
                      have HHb := Lib.hid (Blk.new' ((ext wc z5).alloc (.cells #[.int .i64 lo.turn, .int .i64 lo.x0, .int .i64 lo.y0, .int .i64 lo.x1, .int .i64 lo.y1] 40)) 40 #[.int .i64 hi.turn, .int .i64 hi.x0, .int .i64 hi.y0, .int .i64 hi.x1, .int .i64 hi.y1] ((ext wc z5).heap.size + 1) (by simp))
                      have hzc : wc.heap.size ≤ (ext wc z5).heap.size := (Ext.ext_self wc z5).size
                      have hglA : (ext wc z5).heap.size ≠ gA := by have := HS3.out.al.blk.lt; omega
                      have hghA : (ext wc z5).heap.size + 1 ≠ gA := by have := HS3.out.al.blk.lt; omega
                      have hglV : ∀ b, (Value.slice A4 (s.left.eraseIdx h).length c4).ownBlock = some b → b ≠ (ext wc z5).heap.size := fun b e => by have := (HS3.out.al.left.lt b e).2; omega
                      have hghV : ∀ b, (Value.slice A4 (s.left.eraseIdx h).length c4).ownBlock = some b → b ≠ (ext wc z5).heap.size + 1 := fun b e => by have := (HS3.out.al.left.lt b e).2; omega
                      clear d0 d1 d2 d3 d4 a0 a1 a2 a3 y0 y1 y2 y3 fA fZ oC oA oZ x0 x1 x2 x3 x4 x5 oX hzc
                      generalize ((ext wc z5).alloc (.cells #[.int .i64 lo.turn, .int .i64 lo.x0, .int .i64 lo.y0, .int .i64 lo.x1, .int .i64 lo.y1] 40)).alloc (.cells #[.int .i64 hi.turn, .int .i64 hi.x0, .int .i64 hi.y0, .int .i64 hi.x1, .int .i64 hi.y1] 40) = wd at *
                      generalize (ext wc z5).heap.size = gl at *
                      obtain ⟨bl, hbl⟩ : ∃ b, b = bnd lo := ⟨_, rfl⟩
                      obtain ⟨bh, hbh⟩ : ∃ b, b = bnd hi := ⟨_, rfl⟩
                      have CWl := Lib.hid (show ∀ W, Ext w W → Calls Try.prog 81 #[.slice Ap lp.length cp, .slice Aq lq.length cq, c.val, .agg #[.int .i64 lo.turn, .int .i64 lo.x0, .int .i64 lo.y0, .int .i64 lo.x1, .int .i64 lo.y1]] W fun e w' => e = .returned (.agg #[.int .i64 lo.turn, .int .i64 lo.x0, .int .i64 lo.y0, .int .i64 lo.x1, .int .i64 lo.y1, .int .i64 bl]) ∧ Ext W w' from fun W hE => by rw [hbl]; exact CW.out lo (by rw [HLO.out]; exact HLo.out) W hE)
                      have CWh := Lib.hid (show ∀ W, Ext w W → Calls Try.prog 81 #[.slice Ap lp.length cp, .slice Aq lq.length cq, c.val, .agg #[.int .i64 hi.turn, .int .i64 hi.x0, .int .i64 hi.y0, .int .i64 hi.x1, .int .i64 hi.y1]] W fun e w' => e = .returned (.agg #[.int .i64 hi.turn, .int .i64 hi.x0, .int .i64 hi.y0, .int .i64 hi.x1, .int .i64 hi.y1, .int .i64 bh]) ∧ Ext W w' from fun W hE => by rw [hbh]; exact CW.out hi (by rw [HHK.out]; exact HHi.out) W hE)
                      have HBB := Lib.hid (show (withB bnd lo).cellsL ++ (withB bnd hi).cellsL = [.int .i64 lo.turn, .int .i64 lo.x0, .int .i64 lo.y0, .int .i64 lo.x1, .int .i64 lo.y1, .int .i64 bl, .int .i64 hi.turn, .int .i64 hi.x0, .int .i64 hi.y0, .int .i64 hi.x1, .int .i64 hi.y1, .int .i64 bh] by rw [hbl, hbh]; rfl)
                      have HOk := Lib.hid (apL_ok (m := 2) HSd.out (news := [.int .i64 lo.turn, .int .i64 lo.x0, .int .i64 lo.y0, .int .i64 lo.x1, .int .i64 lo.y1, .int .i64 bl, .int .i64 hi.turn, .int .i64 hi.x0, .int .i64 hi.y0, .int .i64 hi.x1, .int .i64 hi.y1, .int .i64 bh]) (by simp [Value.oneCell']) (by omega) (by show (s.left.eraseIdx h).length + 2 ≤ 65536; omega) rfl)
                      have HKeep : Hid (∀ w', (apL gA (.slice A1 s.att.length c1) (.slice A4 (s.left.eraseIdx h).length c4) (s.left.eraseIdx h) 2 [.int .i64 lo.turn, .int .i64 lo.x0, .int .i64 lo.y0, .int .i64 lo.x1, .int .i64 lo.y1, .int .i64 bl, .int .i64 hi.turn, .int .i64 hi.x0, .int .i64 hi.y0, .int .i64 hi.x1, .int .i64 hi.y1, .int .i64 bh] wd).T wd.drew w' → KeepX gA (.slice A4 (s.left.eraseIdx h).length c4) wd w') := Lib.hid fun w' h => (KeepX.of_ext (Ext.refl wd).drew).trans h.keep
                      have HCb : Hid (∀ w', (apL gA (.slice A1 s.att.length c1) (.slice A4 (s.left.eraseIdx h).length c4) (s.left.eraseIdx h) 2 [.int .i64 lo.turn, .int .i64 lo.x0, .int .i64 lo.y0, .int .i64 lo.x1, .int .i64 lo.y1, .int .i64 bl, .int .i64 hi.turn, .int .i64 hi.x0, .int .i64 hi.y0, .int .i64 hi.x1, .int .i64 hi.y1, .int .i64 bh] wd).T wd.drew w' → Blk w' w.heap.size 38 #[.int .i64 c.turns, .int .i64 c.shift, .int .i64 c.elastic, .int .i64 c.reach, .int .i64 c.spread]) := Lib.hid fun w' h => HSd.out.keepb HSd.out.hL (HKeep.out w' h) HC.out hn1
                      have HLb2 : Hid (∀ w', (apL gA (.slice A1 s.att.length c1) (.slice A4 (s.left.eraseIdx h).length c4) (s.left.eraseIdx h) 2 [.int .i64 lo.turn, .int .i64 lo.x0, .int .i64 lo.y0, .int .i64 lo.x1, .int .i64 lo.y1, .int .i64 bl, .int .i64 hi.turn, .int .i64 hi.x0, .int .i64 hi.y0, .int .i64 hi.x1, .int .i64 hi.y1, .int .i64 bh] wd).T wd.drew w' → Blk w' gl 40 #[.int .i64 lo.turn, .int .i64 lo.x0, .int .i64 lo.y0, .int .i64 lo.x1, .int .i64 lo.y1]) := Lib.hid fun w' h => (HKeep.out w' h).blk HLb.out hglA (fun e => hglV _ e rfl)
                      have HHb2 : Hid (∀ w', (apL gA (.slice A1 s.att.length c1) (.slice A4 (s.left.eraseIdx h).length c4) (s.left.eraseIdx h) 2 [.int .i64 lo.turn, .int .i64 lo.x0, .int .i64 lo.y0, .int .i64 lo.x1, .int .i64 lo.y1, .int .i64 bl, .int .i64 hi.turn, .int .i64 hi.x0, .int .i64 hi.y0, .int .i64 hi.x1, .int .i64 hi.y1, .int .i64 bh] wd).T wd.drew w' → Blk w' (gl + 1) 40 #[.int .i64 hi.turn, .int .i64 hi.x0, .int .i64 hi.y0, .int .i64 hi.x1, .int .i64 hi.y1]) := Lib.hid fun w' h => (HKeep.out w' h).blk HHb.out hghA (fun e => hghV _ e rfl)
                      have HOld : Hid (∀ w', (apL gA (.slice A1 s.att.length c1) (.slice A4 (s.left.eraseIdx h).length c4) (s.left.eraseIdx h) 2 [.int .i64 lo.turn, .int .i64 lo.x0, .int .i64 lo.y0, .int .i64 lo.x1, .int .i64 lo.y1, .int .i64 bl, .int .i64 hi.turn, .int .i64 hi.x0, .int .i64 hi.y0, .int .i64 hi.x1, .int .i64 hi.y1, .int .i64 bh] wd).T wd.drew w' → Ext w w') := Lib.hid fun w' h => HSd.out.old HSd.out.hL (HKeep.out w' h)
                      have HSt3 := Lib.hid (show stepS bnd tr s = ⟨s.att, s.left.eraseIdx h ++ [withB bnd lo, withB bnd hi]⟩ from by rw [HLO.out, HHK.out]; exact HSt2.out)
                      clear hbl hbh h1 HLO HHK hs1 HSt2
                      refine wp_region_app (apL gA (.slice A1 s.att.length c1) (.slice A4 (s.left.eraseIdx h).length c4) (s.left.eraseIdx h) 2 [.int .i64 lo.turn, .int .i64 lo.x0, .int .i64 lo.y0, .int .i64 lo.x1, .int .i64 lo.y1, .int .i64 bl, .int .i64 hi.turn, .int .i64 hi.x0, .int .i64 hi.y0, .int .i64 hi.x1, .int .i64 hi.y1, .int .i64 bh] wd) HOk.out (Nat.le_refl _) 13 15 [isV (.pointer (some ⟨gA, 3, none⟩)), isV (.slice A4 (s.left.eraseIdx h).length c4), isV (.slice Ap lp.length cp), isV (.slice Aq lq.length cq), isV (c.val), isV (.agg #[.int .i64 lo.turn, .int .i64 lo.x0, .int .i64 lo.y0, .int .i64 lo.x1, .int .i64 lo.y1]), isV (.agg #[.int .i64 lo.turn, .int .i64 lo.x0, .int .i64 lo.y0, .int .i64 lo.x1, .int .i64 lo.y1, .int .i64 bl]), isV (.slice Ap lp.length cp), isV (.slice Aq lq.length cq), isV (c.val), isV (.agg #[.int .i64 hi.turn, .int .i64 hi.x0, .int .i64 hi.y0, .int .i64 hi.x1, .int .i64 hi.y1]), isV (.agg #[.int .i64 hi.turn, .int .i64 hi.x0, .int .i64 hi.y0, .int .i64 hi.x1, .int .i64 hi.y1, .int .i64 bh]), App.New (apL gA (.slice A1 s.att.length c1) (.slice A4 (s.left.eraseIdx h).length c4) (s.left.eraseIdx h) 2 [.int .i64 lo.turn, .int .i64 lo.x0, .int .i64 lo.y0, .int .i64 lo.x1, .int .i64 lo.y1, .int .i64 bl, .int .i64 hi.turn, .int .i64 hi.x0, .int .i64 hi.y0, .int .i64 hi.x1, .int .i64 hi.y1, .int .i64 bh] wd), isV undef, isV (.pointer (some ⟨gA, 3, none⟩)), isV undef] (by kernel_rfl) (by kernel_rfl) (by simp [App.stab_val, App.stab_new]) (by decide) (by kernel_rfl) HSd.out.al.left HSd.out.al.blk ?op ?app ?st ?fin (by decide) (by decide) ?me
                      case op =>
                        intro i o ho hi1 hi2 a V2 _ hfrm hT hNs hdep
                        match i, ho with
                        | 0, ho =>
                          injection ho with ho
                          subst ho
                          have e1 : a.tmps[9]?.getD undef = .pointer (some ⟨gA, 0, none⟩) := slot_of (hfrm 9 (frm_of 9 (by kernel_rfl)))
                          exact rel_val (by simp [execOp, go_sem, e1]) rfl
                        | 1, ho =>
                          injection ho with ho
                          subst ho
                          have e1 : a.tmps[134]?.getD undef = .pointer (some ⟨gA, 3, none⟩) := slot_of (hdep ⟨0, .data⟩ (by simp) (by kernel_rfl) (by decide) (by decide))
                          have c0 := (hNs (by kernel_rfl)).cell 3
                          replace c0 : V2.cell? ⟨gA, 3, none⟩ = some (.slice A4 (s.left.eraseIdx h).length c4) := c0
                          exact rel_val (by simp [execOp, go_sem, e1, c0]) rfl
                        | 2, ho =>
                          injection ho with ho
                          subst ho
                          have e1 : a.tmps[0]?.getD undef = .slice Ap lp.length cp := slot_of (hfrm 0 (frm_of 0 (by kernel_rfl)))
                          exact rel_val (by simp [execOp, go_sem, e1]) rfl
                        | 3, ho =>
                          injection ho with ho
                          subst ho
                          have e1 : a.tmps[1]?.getD undef = .slice Aq lq.length cq := slot_of (hfrm 1 (frm_of 1 (by kernel_rfl)))
                          exact rel_val (by simp [execOp, go_sem, e1]) rfl
                        | 4, ho =>
                          injection ho with ho
                          subst ho
                          have e1 : a.tmps[6]?.getD undef = .pointer (some ⟨w.heap.size, 0, none⟩) := slot_of (hfrm 6 (frm_of 6 (by kernel_rfl)))
                          have c0 := (HCb.out _ hT).cell 0
                          replace c0 : V2.cell? ⟨w.heap.size, 0, none⟩ = some (.int .i64 c.turns) := c0
                          have c1 := (HCb.out _ hT).cell 1
                          replace c1 : V2.cell? ⟨w.heap.size, 1, none⟩ = some (.int .i64 c.shift) := c1
                          have c2 := (HCb.out _ hT).cell 2
                          replace c2 : V2.cell? ⟨w.heap.size, 2, none⟩ = some (.int .i64 c.elastic) := c2
                          have c3 := (HCb.out _ hT).cell 3
                          replace c3 : V2.cell? ⟨w.heap.size, 3, none⟩ = some (.int .i64 c.reach) := c3
                          have c4 := (HCb.out _ hT).cell 4
                          replace c4 : V2.cell? ⟨w.heap.size, 4, none⟩ = some (.int .i64 c.spread) := c4
                          exact rel_val (by simp [execOp, go_sem, e1, c0, c1, c2, c3, c4]) rfl
                        | 5, ho =>
                          injection ho with ho
                          subst ho
                          have e1 : a.tmps[15]?.getD undef = .pointer (some ⟨gl, 0, none⟩) := slot_of (hfrm 15 (frm_of 15 (by kernel_rfl)))
                          have c0 := (HLb2.out _ hT).cell 0
                          replace c0 : V2.cell? ⟨gl, 0, none⟩ = some (.int .i64 lo.turn) := c0
                          have c1 := (HLb2.out _ hT).cell 1
                          replace c1 : V2.cell? ⟨gl, 1, none⟩ = some (.int .i64 lo.x0) := c1
                          have c2 := (HLb2.out _ hT).cell 2
                          replace c2 : V2.cell? ⟨gl, 2, none⟩ = some (.int .i64 lo.y0) := c2
                          have c3 := (HLb2.out _ hT).cell 3
                          replace c3 : V2.cell? ⟨gl, 3, none⟩ = some (.int .i64 lo.x1) := c3
                          have c4 := (HLb2.out _ hT).cell 4
                          replace c4 : V2.cell? ⟨gl, 4, none⟩ = some (.int .i64 lo.y1) := c4
                          exact rel_val (by simp [execOp, go_sem, e1, c0, c1, c2, c3, c4]) rfl
                        | 6, ho =>
                          injection ho with ho
                          subst ho
                          have e1 : a.tmps[136]?.getD undef = .slice Ap lp.length cp := slot_of (hdep ⟨2, .data⟩ (by simp) (by kernel_rfl) (by decide) (by decide))
                          have e2 : a.tmps[137]?.getD undef = .slice Aq lq.length cq := slot_of (hdep ⟨3, .data⟩ (by simp) (by kernel_rfl) (by decide) (by decide))
                          have e3 : a.tmps[138]?.getD undef = c.val := slot_of (hdep ⟨4, .data⟩ (by simp) (by kernel_rfl) (by decide) (by decide))
                          have e4 : a.tmps[139]?.getD undef = .agg #[.int .i64 lo.turn, .int .i64 lo.x0, .int .i64 lo.y0, .int .i64 lo.x1, .int .i64 lo.y1] := slot_of (hdep ⟨5, .data⟩ (by simp) (by kernel_rfl) (by decide) (by decide))
                          exact rel_call 81 [.tmp 136, .tmp 137, .tmp 138, .tmp 139] #[22, 22, 38, 40] rfl (by kernel_rfl) [.slice Ap lp.length cp, .slice Aq lq.length cq, c.val, .agg #[.int .i64 lo.turn, .int .i64 lo.x0, .int .i64 lo.y0, .int .i64 lo.x1, .int .i64 lo.y1]] (by simp [Act.eval, e1, e2, e3, e4]) (ret_val (CWl.out _ (HOld.out _ hT)))
                        | 7, ho =>
                          injection ho with ho
                          subst ho
                          have e1 : a.tmps[0]?.getD undef = .slice Ap lp.length cp := slot_of (hfrm 0 (frm_of 0 (by kernel_rfl)))
                          exact rel_val (by simp [execOp, go_sem, e1]) rfl
                        | 8, ho =>
                          injection ho with ho
                          subst ho
                          have e1 : a.tmps[1]?.getD undef = .slice Aq lq.length cq := slot_of (hfrm 1 (frm_of 1 (by kernel_rfl)))
                          exact rel_val (by simp [execOp, go_sem, e1]) rfl
                        | 9, ho =>
                          injection ho with ho
                          subst ho
                          have e1 : a.tmps[6]?.getD undef = .pointer (some ⟨w.heap.size, 0, none⟩) := slot_of (hfrm 6 (frm_of 6 (by kernel_rfl)))
                          have c0 := (HCb.out _ hT).cell 0
                          replace c0 : V2.cell? ⟨w.heap.size, 0, none⟩ = some (.int .i64 c.turns) := c0
                          have c1 := (HCb.out _ hT).cell 1
                          replace c1 : V2.cell? ⟨w.heap.size, 1, none⟩ = some (.int .i64 c.shift) := c1
                          have c2 := (HCb.out _ hT).cell 2
                          replace c2 : V2.cell? ⟨w.heap.size, 2, none⟩ = some (.int .i64 c.elastic) := c2
                          have c3 := (HCb.out _ hT).cell 3
                          replace c3 : V2.cell? ⟨w.heap.size, 3, none⟩ = some (.int .i64 c.reach) := c3
                          have c4 := (HCb.out _ hT).cell 4
                          replace c4 : V2.cell? ⟨w.heap.size, 4, none⟩ = some (.int .i64 c.spread) := c4
                          exact rel_val (by simp [execOp, go_sem, e1, c0, c1, c2, c3, c4]) rfl
                        | 10, ho =>
                          injection ho with ho
                          subst ho
                          have e1 : a.tmps[16]?.getD undef = .pointer (some ⟨gl + 1, 0, none⟩) := slot_of (hfrm 16 (frm_of 16 (by kernel_rfl)))
                          have c0 := (HHb2.out _ hT).cell 0
                          replace c0 : V2.cell? ⟨gl + 1, 0, none⟩ = some (.int .i64 hi.turn) := c0
                          have c1 := (HHb2.out _ hT).cell 1
                          replace c1 : V2.cell? ⟨gl + 1, 1, none⟩ = some (.int .i64 hi.x0) := c1
                          have c2 := (HHb2.out _ hT).cell 2
                          replace c2 : V2.cell? ⟨gl + 1, 2, none⟩ = some (.int .i64 hi.y0) := c2
                          have c3 := (HHb2.out _ hT).cell 3
                          replace c3 : V2.cell? ⟨gl + 1, 3, none⟩ = some (.int .i64 hi.x1) := c3
                          have c4 := (HHb2.out _ hT).cell 4
                          replace c4 : V2.cell? ⟨gl + 1, 4, none⟩ = some (.int .i64 hi.y1) := c4
                          exact rel_val (by simp [execOp, go_sem, e1, c0, c1, c2, c3, c4]) rfl
                        | 11, ho =>
                          injection ho with ho
                          subst ho
                          have e1 : a.tmps[141]?.getD undef = .slice Ap lp.length cp := slot_of (hdep ⟨7, .data⟩ (by simp) (by kernel_rfl) (by decide) (by decide))
                          have e2 : a.tmps[142]?.getD undef = .slice Aq lq.length cq := slot_of (hdep ⟨8, .data⟩ (by simp) (by kernel_rfl) (by decide) (by decide))
                          have e3 : a.tmps[143]?.getD undef = c.val := slot_of (hdep ⟨9, .data⟩ (by simp) (by kernel_rfl) (by decide) (by decide))
                          have e4 : a.tmps[144]?.getD undef = .agg #[.int .i64 hi.turn, .int .i64 hi.x0, .int .i64 hi.y0, .int .i64 hi.x1, .int .i64 hi.y1] := slot_of (hdep ⟨10, .data⟩ (by simp) (by kernel_rfl) (by decide) (by decide))
                          exact rel_call 81 [.tmp 141, .tmp 142, .tmp 143, .tmp 144] #[22, 22, 38, 40] rfl (by kernel_rfl) [.slice Ap lp.length cp, .slice Aq lq.length cq, c.val, .agg #[.int .i64 hi.turn, .int .i64 hi.x0, .int .i64 hi.y0, .int .i64 hi.x1, .int .i64 hi.y1]] (by simp [Act.eval, e1, e2, e3, e4]) (ret_val (CWh.out _ (HOld.out _ hT)))
                        | 12, ho =>
                          injection ho with ho
                          subst ho
                          have e1 : a.tmps[140]?.getD undef = .agg #[.int .i64 lo.turn, .int .i64 lo.x0, .int .i64 lo.y0, .int .i64 lo.x1, .int .i64 lo.y1, .int .i64 bl] := slot_of (hdep ⟨6, .data⟩ (by simp) (by kernel_rfl) (by decide) (by decide))
                          have e2 : a.tmps[145]?.getD undef = .agg #[.int .i64 hi.turn, .int .i64 hi.x0, .int .i64 hi.y0, .int .i64 hi.x1, .int .i64 hi.y1, .int .i64 bh] := slot_of (hdep ⟨11, .data⟩ (by simp) (by kernel_rfl) (by decide) (by decide))
                          have hsz := hT.size
                          simp [Oper.wp, execOp, go_sem, e1, e2]
                          exact ⟨_, rfl, ⟨_, rfl, hsz, Blk.new _ _ _⟩, (Ext.refl _).alloc _⟩
                        | 13, ho =>
                          exact absurd rfl hi1
                        | 14, ho =>
                          injection ho with ho
                          subst ho
                          have e1 : a.tmps[9]?.getD undef = .pointer (some ⟨gA, 0, none⟩) := slot_of (hfrm 9 (frm_of 9 (by kernel_rfl)))
                          exact rel_val (by simp [execOp, go_sem, e1]) rfl
                        | 15, ho =>
                          exact absurd rfl hi2
                        | k + 16, ho => exact absurd (List.getElem?_eq_some_iff.1 ho).1 (by simp)
                      case app =>
                        intro o ho a V2 hdep
                        injection ho with ho
                        subst ho
                        have e1 : a.tmps[135]?.getD undef = .slice A4 (s.left.eraseIdx h).length c4 := slot_of (hdep ⟨1, .data⟩ (by simp) (by kernel_rfl) (by decide) (by decide))
                        obtain ⟨g, hg1, hg2, hg3⟩ := hdep ⟨12, .data⟩ (by simp) (by kernel_rfl) (by decide) (by decide)
                        exact ⟨.tmp 135, .tmp 146, 56, 147, 48, rfl, rfl, infoRs, by decide, by simpa [Act.eval, apL] using e1, g, hg1, hg2, hg3⟩
                      case st =>
                        intro o ho a V2 hfrm hdep A cc hv hNs
                        injection ho with ho
                        subst ho
                        have e1 : a.tmps[148]?.getD undef = .pointer (some ⟨gA, 3, none⟩) := slot_of (hdep ⟨14, .data⟩ (by simp) (by kernel_rfl) (by decide) (by decide))
                        have e2 := slot_of hv
                        have r0 : V2.cell? ⟨gA, 3, none⟩ = some (.slice A4 (s.left.eraseIdx h).length c4) := hNs.cell 3
                        have hf := hNs.frozen
                        simp only [apL] at hf
                        refine ⟨rfl, ?_⟩
                        simp [execOp, e1, e2, go_sem, r0, hf, apL]
                      case me =>
                        intro o ho
                        injection ho with ho
                        subst ho
                        exact ⟨⟨13, .data⟩, by simp, by kernel_rfl, rfl⟩
                      case fin =>
                        intro vs V4 hT hSt hvs
                        obtain ⟨v', ⟨⟨A, cc, rfl⟩, hown', hnew⟩, hblk⟩ := hSt
                        have h2 := HSd.out.appL (l := [withB bnd lo, withB bnd hi]) (HKeep.out _ hT) hblk (by rw [flatG_two, HBB.out]; exact hown') (by simp [apL]) hnew
                        have HS4 := Lib.hid h2
                        clear hvs hT h2 hown' hnew hblk HKeep HCb HLb2 HHb2 HOld HOk
                        simp only [putAll, Act.put]
                        go_wp2_with fail
                        have e := HSt3.out
                        have hI := HI2.out
                        have hR := HR2.out
                        rw [e] at hI hR
                        exact ⟨⟨k + 1, _, _, _, by go_num, by omega, hR, hI.1, by have := HMe.out; have := hI.2; omega, by show s.att.length ≤ k + 1; omega, HS4.out⟩, by simp [intOf]; omega⟩
                  · have hb : (x.bk.x0 == x.bk.x1) = true ∧ (x.bk.y0 == x.bk.y1) = true := by
                      unfold oneK at h1
                      simp only [Bool.and_eq_true, decide_eq_true_eq] at h1
                      exact ⟨by simpa using h1.1, by simpa using h1.2⟩
                    obtain ⟨b1, b2⟩ := hb
                    go_wp2_with fail
                    obtain ⟨u, hu⟩ : ∃ u, u = tr (mvK x.bk) := ⟨_, rfl⟩
                    have CTm := Lib.hid (show ∀ W, Ext w W → Calls Try.prog 57 #[.slice Ap lp.length cp, .slice Aq lq.length cq, c.val, .agg #[.int .i64 x.bk.turn, .int .i64 x.bk.x0, .int .i64 x.bk.y0]] W fun e w' => e = .returned (.agg #[.int .i64 u.mv.turn, .int .i64 u.mv.dx, .int .i64 u.mv.dy, .int .i64 u.bd.a, .int .i64 u.bd.b, .int .i64 u.bd.c, .int .i64 u.bd.d, .int .i64 u.score]) ∧ Ext W w' from fun W hE => by
                      have := CT.out (mvK x.bk) (mv_of_one' HBk.out) W hE
                      rw [← hu] at this
                      exact this)
                    have HSt2 := Lib.hid (show stepS bnd tr s = ⟨s.att ++ [u], s.left.eraseIdx h⟩ from HStep.out.trans (by rw [h1, hu]; rfl))
                    have HOk := Lib.hid (apA_ok HS3.out (news := [.int .i64 u.mv.turn, .int .i64 u.mv.dx, .int .i64 u.mv.dy, .int .i64 u.bd.a, .int .i64 u.bd.b, .int .i64 u.bd.c, .int .i64 u.bd.d, .int .i64 u.score]) (by simp [Value.oneCell']) (by show s.att.length + 1 ≤ 65536; omega) rfl)
                    have HKeep : Hid (∀ w', (apA gA (.slice A1 s.att.length c1) (.slice A4 (s.left.eraseIdx h).length c4) s.att [.int .i64 u.mv.turn, .int .i64 u.mv.dx, .int .i64 u.mv.dy, .int .i64 u.bd.a, .int .i64 u.bd.b, .int .i64 u.bd.c, .int .i64 u.bd.d, .int .i64 u.score] wc).T wc.drew w' → KeepX gA (.slice A1 s.att.length c1) wc w') := Lib.hid fun w' h => (KeepX.of_ext (Ext.refl wc).drew).trans h.keep
                    have HCb : Hid (∀ w', (apA gA (.slice A1 s.att.length c1) (.slice A4 (s.left.eraseIdx h).length c4) s.att [.int .i64 u.mv.turn, .int .i64 u.mv.dx, .int .i64 u.mv.dy, .int .i64 u.bd.a, .int .i64 u.bd.b, .int .i64 u.bd.c, .int .i64 u.bd.d, .int .i64 u.score] wc).T wc.drew w' → Blk w' w.heap.size 38 #[.int .i64 c.turns, .int .i64 c.shift, .int .i64 c.elastic, .int .i64 c.reach, .int .i64 c.spread]) := Lib.hid fun w' h => HS3.out.keepb HS3.out.hA (HKeep.out w' h) HC.out hn1
                    have HGb : Hid (∀ w', (apA gA (.slice A1 s.att.length c1) (.slice A4 (s.left.eraseIdx h).length c4) s.att [.int .i64 u.mv.turn, .int .i64 u.mv.dx, .int .i64 u.mv.dy, .int .i64 u.bd.a, .int .i64 u.bd.b, .int .i64 u.bd.c, .int .i64 u.bd.d, .int .i64 u.score] wc).T wc.drew w' → Blk w' gx 105 #[.int .i64 x.bk.turn, .int .i64 x.bk.x0, .int .i64 x.bk.y0, .int .i64 x.bk.x1, .int .i64 x.bk.y1, .int .i64 x.bound]) := Lib.hid fun w' h => (HKeep.out w' h).blk HX3.out hgxA (fun e => hgxV _ e rfl)
                    have HOld : Hid (∀ w', (apA gA (.slice A1 s.att.length c1) (.slice A4 (s.left.eraseIdx h).length c4) s.att [.int .i64 u.mv.turn, .int .i64 u.mv.dx, .int .i64 u.mv.dy, .int .i64 u.bd.a, .int .i64 u.bd.b, .int .i64 u.bd.c, .int .i64 u.bd.d, .int .i64 u.score] wc).T wc.drew w' → Ext w w') := Lib.hid fun w' h => HS3.out.old HS3.out.hA (HKeep.out w' h)
                    clear HStep hu h1
                    refine wp_region_app (apA gA (.slice A1 s.att.length c1) (.slice A4 (s.left.eraseIdx h).length c4) s.att [.int .i64 u.mv.turn, .int .i64 u.mv.dx, .int .i64 u.mv.dy, .int .i64 u.bd.a, .int .i64 u.bd.b, .int .i64 u.bd.c, .int .i64 u.bd.d, .int .i64 u.score] wc) HOk.out (Nat.le_refl _) 17 19 [isV (.pointer (some ⟨gA, 2, none⟩)), isV (.slice A1 s.att.length c1), isV (.slice Ap lp.length cp), isV (.slice Aq lq.length cq), isV (c.val), isV (.pointer (some ⟨gx, 0, none⟩)), isV (.pointer (some ⟨gx, 0, none⟩)), isV (.int .i64 x.bk.turn), isV (.pointer (some ⟨gx, 0, none⟩)), isV (.pointer (some ⟨gx, 1, none⟩)), isV (.int .i64 x.bk.x0), isV (.pointer (some ⟨gx, 0, none⟩)), isV (.pointer (some ⟨gx, 2, none⟩)), isV (.int .i64 x.bk.y0), isV (.agg #[.int .i64 x.bk.turn, .int .i64 x.bk.x0, .int .i64 x.bk.y0]), isV (.agg #[.int .i64 u.mv.turn, .int .i64 u.mv.dx, .int .i64 u.mv.dy, .int .i64 u.bd.a, .int .i64 u.bd.b, .int .i64 u.bd.c, .int .i64 u.bd.d, .int .i64 u.score]), App.New (apA gA (.slice A1 s.att.length c1) (.slice A4 (s.left.eraseIdx h).length c4) s.att [.int .i64 u.mv.turn, .int .i64 u.mv.dx, .int .i64 u.mv.dy, .int .i64 u.bd.a, .int .i64 u.bd.b, .int .i64 u.bd.c, .int .i64 u.bd.d, .int .i64 u.score] wc), isV undef, isV (.pointer (some ⟨gA, 2, none⟩)), isV undef] (by kernel_rfl) (by kernel_rfl) (by simp [App.stab_val, App.stab_new]) (by decide) (by kernel_rfl) HS3.out.al.att HS3.out.al.blk ?op ?app ?st ?fin (by decide) (by decide) ?me
                    case op =>
                      intro i o ho hi1 hi2 a V2 _ hfrm hT hNs hdep
                      match i, ho with
                      | 0, ho =>
                        injection ho with ho
                        subst ho
                        have e1 : a.tmps[9]?.getD undef = .pointer (some ⟨gA, 0, none⟩) := slot_of (hfrm 9 (frm_of 9 (by kernel_rfl)))
                        exact rel_val (by simp [execOp, go_sem, e1]) rfl
                      | 1, ho =>
                        injection ho with ho
                        subst ho
                        have e1 : a.tmps[109]?.getD undef = .pointer (some ⟨gA, 2, none⟩) := slot_of (hdep ⟨0, .data⟩ (by simp) (by kernel_rfl) (by decide) (by decide))
                        have c0 := (hNs (by kernel_rfl)).cell 2
                        replace c0 : V2.cell? ⟨gA, 2, none⟩ = some (.slice A1 s.att.length c1) := c0
                        exact rel_val (by simp [execOp, go_sem, e1, c0]) rfl
                      | 2, ho =>
                        injection ho with ho
                        subst ho
                        have e1 : a.tmps[0]?.getD undef = .slice Ap lp.length cp := slot_of (hfrm 0 (frm_of 0 (by kernel_rfl)))
                        exact rel_val (by simp [execOp, go_sem, e1]) rfl
                      | 3, ho =>
                        injection ho with ho
                        subst ho
                        have e1 : a.tmps[1]?.getD undef = .slice Aq lq.length cq := slot_of (hfrm 1 (frm_of 1 (by kernel_rfl)))
                        exact rel_val (by simp [execOp, go_sem, e1]) rfl
                      | 4, ho =>
                        injection ho with ho
                        subst ho
                        have e1 : a.tmps[6]?.getD undef = .pointer (some ⟨w.heap.size, 0, none⟩) := slot_of (hfrm 6 (frm_of 6 (by kernel_rfl)))
                        have c0 := (HCb.out _ hT).cell 0
                        replace c0 : V2.cell? ⟨w.heap.size, 0, none⟩ = some (.int .i64 c.turns) := c0
                        have c1 := (HCb.out _ hT).cell 1
                        replace c1 : V2.cell? ⟨w.heap.size, 1, none⟩ = some (.int .i64 c.shift) := c1
                        have c2 := (HCb.out _ hT).cell 2
                        replace c2 : V2.cell? ⟨w.heap.size, 2, none⟩ = some (.int .i64 c.elastic) := c2
                        have c3 := (HCb.out _ hT).cell 3
                        replace c3 : V2.cell? ⟨w.heap.size, 3, none⟩ = some (.int .i64 c.reach) := c3
                        have c4 := (HCb.out _ hT).cell 4
                        replace c4 : V2.cell? ⟨w.heap.size, 4, none⟩ = some (.int .i64 c.spread) := c4
                        exact rel_val (by simp [execOp, go_sem, e1, c0, c1, c2, c3, c4]) rfl
                      | 5, ho =>
                        injection ho with ho
                        subst ho
                        have e1 : a.tmps[14]?.getD undef = .pointer (some ⟨gx, 0, none⟩) := slot_of (hfrm 14 (frm_of 14 (by kernel_rfl)))
                        exact rel_val (by simp [execOp, go_sem, e1]) rfl
                      | 6, ho =>
                        injection ho with ho
                        subst ho
                        have e1 : a.tmps[114]?.getD undef = .pointer (some ⟨gx, 0, none⟩) := slot_of (hdep ⟨5, .data⟩ (by simp) (by kernel_rfl) (by decide) (by decide))
                        exact rel_val (by simp [execOp, go_sem, e1]) rfl
                      | 7, ho =>
                        injection ho with ho
                        subst ho
                        have e1 : a.tmps[115]?.getD undef = .pointer (some ⟨gx, 0, none⟩) := slot_of (hdep ⟨6, .data⟩ (by simp) (by kernel_rfl) (by decide) (by decide))
                        have c0 := (HGb.out _ hT).cell 0
                        replace c0 : V2.cell? ⟨gx, 0, none⟩ = some (.int .i64 x.bk.turn) := c0
                        exact rel_val (by simp [execOp, go_sem, e1, c0]) rfl
                      | 8, ho =>
                        injection ho with ho
                        subst ho
                        have e1 : a.tmps[14]?.getD undef = .pointer (some ⟨gx, 0, none⟩) := slot_of (hfrm 14 (frm_of 14 (by kernel_rfl)))
                        exact rel_val (by simp [execOp, go_sem, e1]) rfl
                      | 9, ho =>
                        injection ho with ho
                        subst ho
                        have e1 : a.tmps[117]?.getD undef = .pointer (some ⟨gx, 0, none⟩) := slot_of (hdep ⟨8, .data⟩ (by simp) (by kernel_rfl) (by decide) (by decide))
                        exact rel_val (by simp [execOp, go_sem, e1]) rfl
                      | 10, ho =>
                        injection ho with ho
                        subst ho
                        have e1 : a.tmps[118]?.getD undef = .pointer (some ⟨gx, 1, none⟩) := slot_of (hdep ⟨9, .data⟩ (by simp) (by kernel_rfl) (by decide) (by decide))
                        have c1 := (HGb.out _ hT).cell 1
                        replace c1 : V2.cell? ⟨gx, 1, none⟩ = some (.int .i64 x.bk.x0) := c1
                        exact rel_val (by simp [execOp, go_sem, e1, c1]) rfl
                      | 11, ho =>
                        injection ho with ho
                        subst ho
                        have e1 : a.tmps[14]?.getD undef = .pointer (some ⟨gx, 0, none⟩) := slot_of (hfrm 14 (frm_of 14 (by kernel_rfl)))
                        exact rel_val (by simp [execOp, go_sem, e1]) rfl
                      | 12, ho =>
                        injection ho with ho
                        subst ho
                        have e1 : a.tmps[120]?.getD undef = .pointer (some ⟨gx, 0, none⟩) := slot_of (hdep ⟨11, .data⟩ (by simp) (by kernel_rfl) (by decide) (by decide))
                        exact rel_val (by simp [execOp, go_sem, e1]) rfl
                      | 13, ho =>
                        injection ho with ho
                        subst ho
                        have e1 : a.tmps[121]?.getD undef = .pointer (some ⟨gx, 2, none⟩) := slot_of (hdep ⟨12, .data⟩ (by simp) (by kernel_rfl) (by decide) (by decide))
                        have c2 := (HGb.out _ hT).cell 2
                        replace c2 : V2.cell? ⟨gx, 2, none⟩ = some (.int .i64 x.bk.y0) := c2
                        exact rel_val (by simp [execOp, go_sem, e1, c2]) rfl
                      | 14, ho =>
                        injection ho with ho
                        subst ho
                        have e1 : a.tmps[116]?.getD undef = .int .i64 x.bk.turn := slot_of (hdep ⟨7, .data⟩ (by simp) (by kernel_rfl) (by decide) (by decide))
                        have e2 : a.tmps[119]?.getD undef = .int .i64 x.bk.x0 := slot_of (hdep ⟨10, .data⟩ (by simp) (by kernel_rfl) (by decide) (by decide))
                        have e3 : a.tmps[122]?.getD undef = .int .i64 x.bk.y0 := slot_of (hdep ⟨13, .data⟩ (by simp) (by kernel_rfl) (by decide) (by decide))
                        exact rel_val (by simp [execOp, go_sem, e1, e2, e3]) rfl
                      | 15, ho =>
                        injection ho with ho
                        subst ho
                        have e1 : a.tmps[111]?.getD undef = .slice Ap lp.length cp := slot_of (hdep ⟨2, .data⟩ (by simp) (by kernel_rfl) (by decide) (by decide))
                        have e2 : a.tmps[112]?.getD undef = .slice Aq lq.length cq := slot_of (hdep ⟨3, .data⟩ (by simp) (by kernel_rfl) (by decide) (by decide))
                        have e3 : a.tmps[113]?.getD undef = c.val := slot_of (hdep ⟨4, .data⟩ (by simp) (by kernel_rfl) (by decide) (by decide))
                        have e4 : a.tmps[123]?.getD undef = .agg #[.int .i64 x.bk.turn, .int .i64 x.bk.x0, .int .i64 x.bk.y0] := slot_of (hdep ⟨14, .data⟩ (by simp) (by kernel_rfl) (by decide) (by decide))
                        exact rel_call 57 [.tmp 111, .tmp 112, .tmp 113, .tmp 123] #[22, 22, 38, 26] rfl (by kernel_rfl) [.slice Ap lp.length cp, .slice Aq lq.length cq, c.val, .agg #[.int .i64 x.bk.turn, .int .i64 x.bk.x0, .int .i64 x.bk.y0]] (by simp [Act.eval, e1, e2, e3, e4]) (ret_val (CTm.out _ (HOld.out _ hT)))
                      | 16, ho =>
                        injection ho with ho
                        subst ho
                        have e1 : a.tmps[124]?.getD undef = .agg #[.int .i64 u.mv.turn, .int .i64 u.mv.dx, .int .i64 u.mv.dy, .int .i64 u.bd.a, .int .i64 u.bd.b, .int .i64 u.bd.c, .int .i64 u.bd.d, .int .i64 u.score] := slot_of (hdep ⟨15, .data⟩ (by simp) (by kernel_rfl) (by decide) (by decide))
                        have hsz := hT.size
                        simp [Oper.wp, execOp, go_sem, e1]
                        exact ⟨_, rfl, ⟨_, rfl, hsz, Blk.new _ _ _⟩, (Ext.refl _).alloc _⟩
                      | 17, ho =>
                        exact absurd rfl hi1
                      | 18, ho =>
                        injection ho with ho
                        subst ho
                        have e1 : a.tmps[9]?.getD undef = .pointer (some ⟨gA, 0, none⟩) := slot_of (hfrm 9 (frm_of 9 (by kernel_rfl)))
                        exact rel_val (by simp [execOp, go_sem, e1]) rfl
                      | 19, ho =>
                        exact absurd rfl hi2
                      | k + 20, ho => exact absurd (List.getElem?_eq_some_iff.1 ho).1 (by simp)
                    case app =>
                      intro o ho a V2 hdep
                      injection ho with ho
                      subst ho
                      have e1 : a.tmps[110]?.getD undef = .slice A1 s.att.length c1 := slot_of (hdep ⟨1, .data⟩ (by simp) (by kernel_rfl) (by decide) (by decide))
                      obtain ⟨g, hg1, hg2, hg3⟩ := hdep ⟨16, .data⟩ (by simp) (by kernel_rfl) (by decide) (by decide)
                      exact ⟨.tmp 110, .tmp 125, 55, 126, 64, rfl, rfl, infoAt, by decide, by simpa [Act.eval, apA] using e1, g, hg1, hg2, hg3⟩
                    case st =>
                      intro o ho a V2 hfrm hdep A cc hv hNs
                      injection ho with ho
                      subst ho
                      have e1 : a.tmps[127]?.getD undef = .pointer (some ⟨gA, 2, none⟩) := slot_of (hdep ⟨18, .data⟩ (by simp) (by kernel_rfl) (by decide) (by decide))
                      have e2 := slot_of hv
                      have r0 : V2.cell? ⟨gA, 2, none⟩ = some (.slice A1 s.att.length c1) := hNs.cell 2
                      have hf := hNs.frozen
                      simp only [apA] at hf
                      refine ⟨rfl, ?_⟩
                      simp [execOp, e1, e2, go_sem, r0, hf, apA]
                    case me =>
                      intro o ho
                      injection ho with ho
                      subst ho
                      exact ⟨⟨17, .data⟩, by simp, by kernel_rfl, rfl⟩
                    case fin =>
                      intro vs V4 hT hSt hvs
                      obtain ⟨v', ⟨⟨A, cc, rfl⟩, hown', hnew⟩, hblk⟩ := hSt
                      have h2 := HS3.out.appA (l := [u]) (HKeep.out _ hT) hblk (by rw [flatG_snoc]; exact hown') (by simp [apA]) hnew
                      have HS4 := Lib.hid h2
                      clear hvs hT h2 hown' hnew hblk HKeep HCb HGb HOld HOk
                      simp only [putAll, Act.put]
                      go_wp2_with fail
                      have e := HSt2.out
                      have hI := HI2.out
                      have hR := HR2.out
                      rw [e] at hI hR
                      exact ⟨⟨k + 1, _, _, _, by go_num, by omega, hR, hI.1, by have := HMe.out; have := hI.2; omega, by show (s.att ++ [u]).length ≤ k + 1; simp only [List.length_append, List.length_cons, List.length_nil]; omega, HS4.out⟩, by simp [intOf]; omega⟩
                case first =>
                 by_cases hcd : c2 = h + 1
                 · subst hcd
                   have hz : s.left.length - (h + 1) = 0 := by omega
                   have hq6 : (h : Int) ≤ (h : Int) + 1 := by omega
                   have hq7 : ((s.left.length : Nat) : Int) ≤ (h : Int) + 1 := by omega
                   have hq8 : (((s.left.length : Nat) : Int) - ((h : Int) + 1)).toNat = 0 := by omega
                   clear hq1 hq4 hq5
                   go_region_law (first
                     | (refine step_append_new rfl infoRs (.tmp 80) (.tmp 84) rfl wc.heap.size (by repeat' (first | with_reducible exact Nat.le_refl _ | with_reducible exact Nat.le_add_right _ _ | with_reducible refine le_ext' ?_ _ | with_reducible refine le_alloc' ?_ _ | with_reducible refine le_drew' ?_)) _ rfl (own_empty 6 (by repeat' (first | with_reducible exact Nat.le_refl _ | with_reducible exact Nat.le_add_right _ _ | with_reducible refine le_ext' ?_ _ | with_reducible refine le_alloc' ?_ _ | with_reducible refine le_drew' ?_)) (by repeat' (first | with_reducible exact Blk.new' _ _ _ _ (by simp) | with_reducible refine Blk.ext ?_ _ | with_reducible refine Blk.drew ?_ | with_reducible refine Blk.alloc ?_ _))) (some ⟨g, off, none⟩) h _ (flatG Rs.cellsL (s.left.take h)) rfl (by exact HT.out.grow (by repeat' (first | with_reducible exact Ext.refl _ | with_reducible refine Ext.alloc ?_ _ | with_reducible refine Ext.ext ?_ _ | with_reducible refine Ext.drew ?_))) HXo.out (by omega) (by omega) ?_; intro A3 c3 z3 hown1)
                     | (refine step_append_ext rfl wc (by repeat' (first | with_reducible exact Ext.refl _ | with_reducible refine Ext.alloc ?_ _ | with_reducible refine Ext.ext ?_ _ | with_reducible refine Ext.drew ?_)) infoRs (.tmp 85) (.tmp 90) rfl (.slice A3 h c3) h (flatG Rs.cellsL (s.left.take h)) rfl hown1 (some ⟨g, off, none⟩) 0 _ [] rfl (Slc.none_ _ _ _) (by simp) (by omega) (by omega) ?_; intro A4 c4 z4 hown2))
                   all_goals
                     have h3 := HSc.out.setL (l := s.left.eraseIdx h) (Ext.ext_self wc z4) (by rw [HER.out, flatG_app, show s.left.drop (h + 1) = [] from List.drop_of_length_le (by omega)]; exact hown2) (by rw [HEL.out, hz])
                     have hX3 := (HXc.out.ext z4).far (p := ⟨gA, 3, none⟩) hgxA (.slice A4 (h + 0) c4)
                     go_wp2_with fail
                     go_meet
                     have hl2 : (s.left.eraseIdx h).length = h := by rw [HEL.out, hz]; rfl
                     exact ⟨A4, c4, by rw [hl2]; first | exact h3 | exact h3.grow (Ext.refl _).drew, by first | exact hX3 | exact hX3.drew⟩
                 · have hac : h + 1 ≤ c2 := by omega
                   go_region_law (first
                     | (refine step_append_new rfl infoRs (.tmp 80) (.tmp 84) rfl wc.heap.size (by repeat' (first | with_reducible exact Nat.le_refl _ | with_reducible exact Nat.le_add_right _ _ | with_reducible refine le_ext' ?_ _ | with_reducible refine le_alloc' ?_ _ | with_reducible refine le_drew' ?_)) _ rfl (own_empty 6 (by repeat' (first | with_reducible exact Nat.le_refl _ | with_reducible exact Nat.le_add_right _ _ | with_reducible refine le_ext' ?_ _ | with_reducible refine le_alloc' ?_ _ | with_reducible refine le_drew' ?_)) (by repeat' (first | with_reducible exact Blk.new' _ _ _ _ (by simp) | with_reducible refine Blk.ext ?_ _ | with_reducible refine Blk.drew ?_ | with_reducible refine Blk.alloc ?_ _))) (some ⟨g, off, none⟩) h _ (flatG Rs.cellsL (s.left.take h)) rfl (by exact HT.out.grow (by repeat' (first | with_reducible exact Ext.refl _ | with_reducible refine Ext.alloc ?_ _ | with_reducible refine Ext.ext ?_ _ | with_reducible refine Ext.drew ?_))) HXo.out (by omega) (by omega) ?_; intro A3 c3 z3 hown1)
                     | (refine step_append_ext rfl wc (by repeat' (first | with_reducible exact Ext.refl _ | with_reducible refine Ext.alloc ?_ _ | with_reducible refine Ext.ext ?_ _ | with_reducible refine Ext.drew ?_)) infoRs (.tmp 85) (.tmp 90) rfl (.slice A3 h c3) h (flatG Rs.cellsL (s.left.take h)) rfl hown1 (some ⟨g, off + (h + 1) * 6, none⟩) (s.left.length - (h + 1)) _ (flatG Rs.cellsL (s.left.drop (h + 1))) rfl (by exact HD.out.grow (by repeat' (first | with_reducible exact Ext.refl _ | with_reducible refine Ext.alloc ?_ _ | with_reducible refine Ext.ext ?_ _ | with_reducible refine Ext.drew ?_))) HYo.out (by omega) (by omega) ?_; intro A4 c4 z4 hown2))
                   all_goals
                     have h3 := HSc.out.setL (l := s.left.eraseIdx h) (Ext.ext_self wc z4) (by rw [HER.out, flatG_app]; exact hown2) HEL.out.symm
                     have hX3 := (HXc.out.ext z4).far (p := ⟨gA, 3, none⟩) hgxA (.slice A4 (h + (s.left.length - (h + 1))) c4)
                     go_wp2_with fail
                     go_meet
                     exact ⟨A4, c4, by rw [HEL.out]; first | exact h3 | exact h3.grow (Ext.refl _).drew, by first | exact hX3 | exact hX3.drew⟩
              · have HF := Lib.hid (HRun.out.trans (run_stop hst (N - k)))
                obtain ⟨A3, hA3⟩ : ∃ A3 : Option Addr, A3 = some ⟨g, off, none⟩ := ⟨_, rfl⟩
                have HT := HSc
                rw [← hA3] at HT
                clear hst d0 d1 d2 d3 d4 a0 a1 a2 a3 y0 y1 y2 y3 fA fZ oC oA oZ hA3 HXc HCc HSc HI2 HStep HBk hgc
                have d0 : wc.cell? ⟨w.heap.size, 0, none⟩ = some (.int .i64 c.turns) := (HT.out.blk HC.out hn1).cell 0
                have d1 : wc.cell? ⟨w.heap.size, 1, none⟩ = some (.int .i64 c.shift) := (HT.out.blk HC.out hn1).cell 1
                have d2 : wc.cell? ⟨w.heap.size, 2, none⟩ = some (.int .i64 c.elastic) := (HT.out.blk HC.out hn1).cell 2
                have d3 : wc.cell? ⟨w.heap.size, 3, none⟩ = some (.int .i64 c.reach) := (HT.out.blk HC.out hn1).cell 3
                have d4 : wc.cell? ⟨w.heap.size, 4, none⟩ = some (.int .i64 c.spread) := (HT.out.blk HC.out hn1).cell 4
                have a0 : wc.cell? ⟨gA, 0, none⟩ = some (.int .i64 0) := (HT.out.al.blk).cell 0
                have a1 : wc.cell? ⟨gA, 1, none⟩ = some (.int .i64 0) := (HT.out.al.blk).cell 1
                have a2 : wc.cell? ⟨gA, 2, none⟩ = some (.slice A1 s.att.length c1) := (HT.out.al.blk).cell 2
                have a3 : wc.cell? ⟨gA, 3, none⟩ = some (.slice A3 s.left.length c2) := (HT.out.al.blk).cell 3
                have y0 : wc.cell? ⟨w.heap.size + 1, 0, none⟩ = some (.int .i64 0) := (HT.out.blk HZ.out hn5).cell 0
                have y1 : wc.cell? ⟨w.heap.size + 1, 1, none⟩ = some (.int .i64 0) := (HT.out.blk HZ.out hn5).cell 1
                have y2 : wc.cell? ⟨w.heap.size + 1, 2, none⟩ = some (.slice none 0 0) := (HT.out.blk HZ.out hn5).cell 2
                have y3 : wc.cell? ⟨w.heap.size + 1, 3, none⟩ = some (.slice none 0 0) := (HT.out.blk HZ.out hn5).cell 3
                have fA := HT.out.al.blk.frozen
                have fZ := (HT.out.blk HZ.out hn5).frozen
                have oC := Old.mk (HT.out.blk HC.out hn1).lt
                have oA := Old.mk HT.out.al.blk.lt
                have oZ := Old.mk (HT.out.blk HZ.out hn5).lt
                go_wp2_with fail
                refine Calls.ext (top_any A1 c1 s.att _ (Ats.own HT.out.al.att) (by omega)) fun zt => ?_
                have hsc : scoreS s = topA s.att := rfl
                obtain ⟨sc, hsc2⟩ : ∃ sc, sc = topA s.att := ⟨_, rfl⟩
                rw [← hsc2] at hsc ⊢
                have HT1 := Lib.hid ((HT.out.grow (Ext.ext_self wc zt)))
                clear hsc2
                by_cases hne2 : s.left = []
                · exact absurd hne2 hne
                · obtain ⟨q, hq⟩ : ∃ q, s.left[high s.left]? = some q := ⟨_, List.getElem?_eq_getElem (high_lt hne2)⟩
                  have hbd : boundS s = max sc q.bound := by unfold boundS; rw [hsc]; exact topR_high hne2 hq
                  have hhl := high_lt hne2
                  have g5 : decide ((0 : Int) < ((s.left.length : Nat) : Int)) = true := by simp; omega
                  have g6 : decide (0 < s.left.length) = true := by simp; omega
                  have HBa := Lib.hid ((HT1.out.al.set0 sc).set1 sc)
                  have HZa := Lib.hid (((HT1.out.blk HZ.out hn5).far (p := ⟨gA, 0, none⟩) hn5 (.int .i64 sc)).far (p := ⟨gA, 1, none⟩) hn5 (.int .i64 sc))
                  have HEa := Lib.hid ((HT1.out.ext.setCell (p := ⟨gA, 0, none⟩) hgw (.int .i64 sc)).setCell (p := ⟨gA, 1, none⟩) hgw (.int .i64 sc))
                  go_wp2_with fail
                  try any_goals (exfalso; omega)
                  clear d0 d1 d2 d3 d4 a0 a1 a2 a3 y0 y1 y2 y3 fA fZ oC oA oZ
                  generalize ((ext wc zt).setCell ⟨gA, 0, none⟩ (.int .i64 sc)).setCell ⟨gA, 1, none⟩ (.int .i64 sc) = Wb at *
                  have b1 : Wb.cell? ⟨gA, 1, none⟩ = some (.int .i64 sc) := HBa.out.blk.cell 1
                  have b3 : Wb.cell? ⟨gA, 3, none⟩ = some (.slice A3 s.left.length c2) := HBa.out.blk.cell 3
                  have fB := HBa.out.blk.frozen
                  have oB := Old.mk HBa.out.blk.lt
                  have hRs := Rss.own HBa.out.left
                  have CHi := Lib.hid (fun W' (h : Ext Wb W') => high_any A3 c2 s.left W' (Rss.grow hRs h) (by omega))
                  rcases hRs with hnn | ⟨gq, oq, hA2, hgq, hcq⟩
                  · exact absurd hnn hne2
                  subst hA2
                  have qb : Wb.cell? ⟨gq, oq + high s.left * 6 + 5, none⟩ = some (.int .i64 q.bound) := hcq _ q hq 5 _ rfl
                  have oQ := Old.mk hgq
                  have hqA : gq ≠ gA := fun e => by have := (HBa.out.left.lt gq rfl).1; omega
                  have hqA' : gA ≠ gq := fun e => hqA e.symm
                  have hhi : ((high s.left : Nat) : Int) < ((s.left.length : Nat) : Int) := by omega
                  clear hcq hq
                  generalize high s.left = hg at *
                  refine wp_region_rel' 12 _ rfl (Vof [isV (.pointer (some ⟨gA, 1, none⟩)), isV (.int .i64 sc), isV (.pointer (some ⟨gA, 3, none⟩)), isV (.slice (some ⟨gq, oq, none⟩) s.left.length c2), isV (.pointer (some ⟨gA, 3, none⟩)), isV (.slice (some ⟨gq, oq, none⟩) s.left.length c2), isV (.int .i64 (hg : Nat)), isV (.pointer (some ⟨gq, oq + hg * 6, none⟩)), isV (.pointer (some ⟨gq, oq + hg * 6 + 5, none⟩)), isV (.int .i64 q.bound), isV (.int .i64 (if sc < q.bound then q.bound else sc)), isV (.pointer (some ⟨gA, 1, none⟩))]) (by kernel_rfl) (by kernel_rfl) (Vof_mono (by simp [isV_mono])) ?op ?last
                  case op =>
                    intro i o ho a V2 _ _ hfrm hE0 hdep
                    have hE : Ext Wb V2 := Ext.trans ((Ext.refl Wb).drew) hE0
                    match i, ho with
                    | 0, ho =>
                      injection ho with ho
                      subst ho
                      have e1 : a.tmps[9]?.getD undef = .pointer (some ⟨gA, 0, none⟩) := slot_of (hfrm 9 (frm_of 9 (by kernel_rfl)))
                      exact rel_val (by simp [execOp, go_sem, e1]) rfl
                    | 1, ho =>
                      injection ho with ho
                      subst ho
                      have e1 : a.tmps[160]?.getD undef = .pointer (some ⟨gA, 1, none⟩) := slot_of (hdep ⟨0, .data⟩ (by simp) (by kernel_rfl) 160 (by kernel_rfl))
                      have c1 : V2.cell? ⟨gA, 1, none⟩ = some (.int .i64 sc) := (hE.cell (by exact HBa.out.blk.lt)).trans b1
                      exact rel_val (by simp [execOp, go_sem, e1, c1]) rfl
                    | 2, ho =>
                      injection ho with ho
                      subst ho
                      have e1 : a.tmps[9]?.getD undef = .pointer (some ⟨gA, 0, none⟩) := slot_of (hfrm 9 (frm_of 9 (by kernel_rfl)))
                      exact rel_val (by simp [execOp, go_sem, e1]) rfl
                    | 3, ho =>
                      injection ho with ho
                      subst ho
                      have e1 : a.tmps[162]?.getD undef = .pointer (some ⟨gA, 3, none⟩) := slot_of (hdep ⟨2, .data⟩ (by simp) (by kernel_rfl) 162 (by kernel_rfl))
                      have c3 : V2.cell? ⟨gA, 3, none⟩ = some (.slice (some ⟨gq, oq, none⟩) s.left.length c2) := (hE.cell (by exact HBa.out.blk.lt)).trans b3
                      exact rel_val (by simp [execOp, go_sem, e1, c3]) rfl
                    | 4, ho =>
                      injection ho with ho
                      subst ho
                      have e1 : a.tmps[9]?.getD undef = .pointer (some ⟨gA, 0, none⟩) := slot_of (hfrm 9 (frm_of 9 (by kernel_rfl)))
                      exact rel_val (by simp [execOp, go_sem, e1]) rfl
                    | 5, ho =>
                      injection ho with ho
                      subst ho
                      have e1 : a.tmps[164]?.getD undef = .pointer (some ⟨gA, 3, none⟩) := slot_of (hdep ⟨4, .data⟩ (by simp) (by kernel_rfl) 164 (by kernel_rfl))
                      have c3 : V2.cell? ⟨gA, 3, none⟩ = some (.slice (some ⟨gq, oq, none⟩) s.left.length c2) := (hE.cell (by exact HBa.out.blk.lt)).trans b3
                      exact rel_val (by simp [execOp, go_sem, e1, c3]) rfl
                    | 6, ho =>
                      injection ho with ho
                      subst ho
                      have e1 : a.tmps[165]?.getD undef = .slice (some ⟨gq, oq, none⟩) s.left.length c2 := slot_of (hdep ⟨5, .data⟩ (by simp) (by kernel_rfl) 165 (by kernel_rfl))
                      exact rel_call 82 [.tmp 165] #[56] rfl (by kernel_rfl) [.slice (some ⟨gq, oq, none⟩) s.left.length c2] (by simp [Act.eval, e1]) (ret_val (CHi.out _ hE))
                    | 7, ho =>
                      injection ho with ho
                      subst ho
                      have e1 : a.tmps[163]?.getD undef = .slice (some ⟨gq, oq, none⟩) s.left.length c2 := slot_of (hdep ⟨3, .data⟩ (by simp) (by kernel_rfl) 163 (by kernel_rfl))
                      have e2 : a.tmps[166]?.getD undef = .int .i64 (hg : Nat) := slot_of (hdep ⟨6, .data⟩ (by simp) (by kernel_rfl) 166 (by kernel_rfl))
                      exact rel_val (by simp [execOp, go_sem, e1, e2, hhi]) rfl
                    | 8, ho =>
                      injection ho with ho
                      subst ho
                      have e1 : a.tmps[167]?.getD undef = .pointer (some ⟨gq, oq + hg * 6, none⟩) := slot_of (hdep ⟨7, .data⟩ (by simp) (by kernel_rfl) 167 (by kernel_rfl))
                      exact rel_val (by simp [execOp, go_sem, e1]) rfl
                    | 9, ho =>
                      injection ho with ho
                      subst ho
                      have e1 : a.tmps[168]?.getD undef = .pointer (some ⟨gq, oq + hg * 6 + 5, none⟩) := slot_of (hdep ⟨8, .data⟩ (by simp) (by kernel_rfl) 168 (by kernel_rfl))
                      have c5 : V2.cell? ⟨gq, oq + hg * 6 + 5, none⟩ = some (.int .i64 q.bound) := (hE.cell (by exact hgq)).trans qb
                      exact rel_val (by simp [execOp, go_sem, e1, c5]) rfl
                    | 10, ho =>
                      injection ho with ho
                      subst ho
                      have e1 : a.tmps[161]?.getD undef = .int .i64 sc := slot_of (hdep ⟨1, .data⟩ (by simp) (by kernel_rfl) 161 (by kernel_rfl))
                      have e2 : a.tmps[169]?.getD undef = .int .i64 q.bound := slot_of (hdep ⟨9, .data⟩ (by simp) (by kernel_rfl) 169 (by kernel_rfl))
                      exact rel_val (by simp [go_sem, e1, e2]) rfl
                    | 11, ho =>
                      injection ho with ho
                      subst ho
                      have e1 : a.tmps[9]?.getD undef = .pointer (some ⟨gA, 0, none⟩) := slot_of (hfrm 9 (frm_of 9 (by kernel_rfl)))
                      exact rel_val (by simp [execOp, go_sem, e1]) rfl
                    | k + 12, ho => exact absurd (List.getElem?_eq_some_iff.1 ho).1 (by simp)
                  case last =>
                    intro a V2 _ hdf hfrm hE0 hval
                    have hE : Ext Wb V2 := Ext.trans ((Ext.refl Wb).drew) hE0
                    have e1 : a.tmps[171]?.getD undef = .pointer (some ⟨gA, 1, none⟩) := slot_of (hval 11 171 (by simp) (by kernel_rfl))
                    have e2 : a.tmps[170]?.getD undef = .int .i64 (if sc < q.bound then q.bound else sc) := slot_of (hval 10 170 (by simp) (by kernel_rfl))
                    have e9 : a.tmps[9]?.getD undef = .pointer (some ⟨gA, 0, none⟩) := slot_of (hfrm 9 (frm_of 9 (by kernel_rfl)))
                    have e8 : a.tmps[8]?.getD undef = .pointer (some ⟨w.heap.size + 1, 0, none⟩) := slot_of (hfrm 8 (frm_of 8 (by kernel_rfl)))
                    have hbm : (if sc < q.bound then q.bound else sc) = max sc q.bound := by split <;> omega
                    rw [hbm] at e2
                    have HBD := Lib.hid hbd
                    clear hbm hbd
                    have HA2 := Lib.hid (HBa.out.grow hE)
                    have HZ2 := Lib.hid (HZa.out.grow hE)
                    have HE2 := Lib.hid (HEa.out.trans hE)
                    have r1 : V2.cell? ⟨gA, 1, none⟩ = some (.int .i64 sc) := HA2.out.blk.cell 1
                    have r0 : V2.cell? ⟨gA, 0, none⟩ = some (.int .i64 sc) := HA2.out.blk.cell 0
                    have r2 : V2.cell? ⟨gA, 2, none⟩ = some (.slice A1 s.att.length c1) := HA2.out.blk.cell 2
                    have r3 : V2.cell? ⟨gA, 3, none⟩ = some (.slice (some ⟨gq, oq, none⟩) s.left.length c2) := HA2.out.blk.cell 3
                    have z0 : V2.cell? ⟨w.heap.size + 1, 0, none⟩ = some (.int .i64 0) := HZ2.out.cell 0
                    have z1 : V2.cell? ⟨w.heap.size + 1, 1, none⟩ = some (.int .i64 0) := HZ2.out.cell 1
                    have z2 : V2.cell? ⟨w.heap.size + 1, 2, none⟩ = some (.slice none 0 0) := HZ2.out.cell 2
                    have z3 : V2.cell? ⟨w.heap.size + 1, 3, none⟩ = some (.slice none 0 0) := HZ2.out.cell 3
                    have hf := HA2.out.blk.frozen
                    have hfz := HZ2.out.frozen
                    have oA2 := Old.mk HA2.out.blk.lt
                    have oZ2 := Old.mk HZ2.out.lt
                    simp [Oper.wp, execOp, e1, e2, go_sem, r1, hf]
                    clear hfrm hval hE hE0
                    have f9 : a.eval (.tmp 9) = .pointer (some ⟨gA, 0, none⟩) := by simp [Act.eval, e9]
                    have f8 : a.eval (.tmp 8) = .pointer (some ⟨w.heap.size + 1, 0, none⟩) := by simp [Act.eval, e8]
                    have g9 : a.tmps.getD 9 undef = .pointer (some ⟨gA, 0, none⟩) := by simpa using e9
                    have g8 : a.tmps.getD 8 undef = .pointer (some ⟨w.heap.size + 1, 0, none⟩) := by simpa using e8
                    have k8 : ∀ v, (a.tmps.setIfInBounds 172 v).getD 8 undef = .pointer (some ⟨w.heap.size + 1, 0, none⟩) := fun v => by simp [e8]
                    have k8' : ∀ v, (a.tmps.setIfInBounds 172 v)[8]?.getD undef = .pointer (some ⟨w.heap.size + 1, 0, none⟩) := fun v => by simp [e8]
                    have k8'' : ∀ v ds, Act.eval ⟨a.tmps.setIfInBounds 172 v, ds⟩ (.tmp 8) = .pointer (some ⟨w.heap.size + 1, 0, none⟩) := fun v ds => by simp [Act.eval, e8]
                    have HAf := Lib.hid (((((HA2.out.set1 (max sc q.bound)).far (p := ⟨w.heap.size + 1, 0, none⟩) hzA (.int .i64 sc)).far (p := ⟨w.heap.size + 1, 1, none⟩) hzA (.int .i64 (max sc q.bound))).far (p := ⟨w.heap.size + 1, 2, none⟩) hzA (.slice A1 s.att.length c1))|>.far (p := ⟨w.heap.size + 1, 3, none⟩) hzA (.slice (some ⟨gq, oq, none⟩) s.left.length c2))
                    have HZf := Lib.hid (((((HZ2.out.far (p := ⟨gA, 1, none⟩) hn5 (.int .i64 (max sc q.bound))).set_ 0 (.int .i64 sc)).set_ 1 (.int .i64 (max sc q.bound))).set_ 2 (.slice A1 s.att.length c1))|>.set_ 3 (.slice (some ⟨gq, oq, none⟩) s.left.length c2))
                    have HEf := Lib.hid (((((HE2.out.setCell (p := ⟨gA, 1, none⟩) hgw (.int .i64 (max sc q.bound))).setCell (p := ⟨w.heap.size + 1, 0, none⟩) hzw (.int .i64 sc)).setCell (p := ⟨w.heap.size + 1, 1, none⟩) hzw (.int .i64 (max sc q.bound))).setCell (p := ⟨w.heap.size + 1, 2, none⟩) hzw (.slice A1 s.att.length c1)).setCell (p := ⟨w.heap.size + 1, 3, none⟩) hzw (.slice (some ⟨gq, oq, none⟩) s.left.length c2))
                    go_wp2_with fail
                    generalize ((((V2.setCell ⟨gA, 1, none⟩ (.int .i64 (max sc q.bound))).setCell ⟨w.heap.size + 1, 0, none⟩ (.int .i64 sc)).setCell ⟨w.heap.size + 1, 1, none⟩ (.int .i64 (max sc q.bound))).setCell ⟨w.heap.size + 1, 2, none⟩ (.slice A1 s.att.length c1)).setCell ⟨w.heap.size + 1, 3, none⟩ (.slice (some ⟨gq, oq, none⟩) s.left.length c2) = Wf at *
                    refine bodyPost_ret (results_cell_row rfl _ _ (w.heap.size + 1) 58 #[.int .i64 sc, .int .i64 (max sc q.bound), .slice A1 s.att.length c1, .slice (some ⟨gq, oq, none⟩) s.left.length c2] (0, 0) _ (by simp [e8]) HZf.out Try.underlying58 rfl (by kernel_rfl)) (by first | exact hdf | rfl) ?_
                    rw [HF.out]
                    refine ⟨A1, c1, some ⟨gq, oq, none⟩, c2, ?_, Ats.own HAf.out.att, Rss.own HAf.out.left, HEf.out⟩
                    rw [hsc, HBD.out]
        · have g1 : decide ((k : Int) < (N : Int)) = false := by simpa using hkN
          have g1' : decide (k < N) = false := by simpa using hkN
          have HF := Lib.hid (HRun.out.trans (by rw [show N - k = 0 by omega]; rfl : runS bnd tr (N - k) s = s))
          have HT := HS
          go_wp2_with fail
          refine Calls.ext (top_any A1 c1 s.att _ (Ats.own HT.out.al.att) (by omega)) fun zt => ?_
          have hsc : scoreS s = topA s.att := rfl
          obtain ⟨sc, hsc2⟩ : ∃ sc, sc = topA s.att := ⟨_, rfl⟩
          rw [← hsc2] at hsc ⊢
          have HT1 := Lib.hid ((HT.out.grow (Ext.ext_self wr zt)))
          clear hsc2
          by_cases hne2 : s.left = []
          · have hl0 : s.left.length = 0 := by rw [hne2]; rfl
            have g5 : decide ((0 : Int) < ((s.left.length : Nat) : Int)) = false := by rw [hl0]; rfl
            have g6 : decide (0 < s.left.length) = false := by rw [hl0]; rfl
            have hbd : boundS s = sc := by unfold boundS; rw [hsc, hne2]; rfl
            have HAf := Lib.hid (((((HT1.out.al.set0 sc).set1 sc).far (p := ⟨w.heap.size + 1, 0, none⟩) hzA (.int .i64 sc)).far (p := ⟨w.heap.size + 1, 1, none⟩) hzA (.int .i64 sc)).far (p := ⟨w.heap.size + 1, 2, none⟩) hzA (.slice A1 s.att.length c1)|>.far (p := ⟨w.heap.size + 1, 3, none⟩) hzA (.slice A2 0 c2))
            have HZf := Lib.hid ((((((HT1.out.blk HZ.out hn5).far (p := ⟨gA, 0, none⟩) hn5 (.int .i64 sc)).far (p := ⟨gA, 1, none⟩) hn5 (.int .i64 sc)).set_ 0 (.int .i64 sc)).set_ 1 (.int .i64 sc)).set_ 2 (.slice A1 s.att.length c1)|>.set_ 3 (.slice A2 0 c2))
            have HEf := Lib.hid (((((((HT1.out.ext.setCell (p := ⟨gA, 0, none⟩) hgw (.int .i64 sc)).setCell (p := ⟨gA, 1, none⟩) hgw (.int .i64 sc)).setCell (p := ⟨w.heap.size + 1, 0, none⟩) hzw (.int .i64 sc)).setCell (p := ⟨w.heap.size + 1, 1, none⟩) hzw (.int .i64 sc)).setCell (p := ⟨w.heap.size + 1, 2, none⟩) hzw (.slice A1 s.att.length c1)).setCell (p := ⟨w.heap.size + 1, 3, none⟩) hzw (.slice A2 0 c2)))
            go_wp2_with fail
            generalize (((((((ext wr zt).setCell ⟨gA, 0, none⟩ (.int .i64 sc)).setCell ⟨gA, 1, none⟩ (.int .i64 sc)).setCell ⟨w.heap.size + 1, 0, none⟩ (.int .i64 sc)).setCell ⟨w.heap.size + 1, 1, none⟩ (.int .i64 sc)).setCell ⟨w.heap.size + 1, 2, none⟩ (.slice A1 s.att.length c1)).setCell ⟨w.heap.size + 1, 3, none⟩ (.slice A2 0 c2)) = Wf at *
            have q0 : Wf.cell? ⟨w.heap.size + 1, 0, none⟩ = some (.int .i64 sc) := HZf.out.cell 0
            have q1 : Wf.cell? ⟨w.heap.size + 1, 1, none⟩ = some (.int .i64 sc) := HZf.out.cell 1
            have q2 : Wf.cell? ⟨w.heap.size + 1, 2, none⟩ = some (.slice A1 s.att.length c1) := HZf.out.cell 2
            have q3 : Wf.cell? ⟨w.heap.size + 1, 3, none⟩ = some (.slice A2 0 c2) := HZf.out.cell 3
            refine bodyPost_ret (v := .agg #[.int .i64 sc, .int .i64 sc, .slice A1 s.att.length c1, .slice A2 0 c2]) (by simp [results, Try.results69, go_sem, q0, q1, q2, q3]) rfl ?_
            rw [HF.out]
            refine ⟨A1, c1, A2, c2, ?_, Ats.own HAf.out.att, Rss.own HAf.out.left, HEf.out⟩
            rw [hsc, hbd, hl0]
          · obtain ⟨q, hq⟩ : ∃ q, s.left[high s.left]? = some q := ⟨_, List.getElem?_eq_getElem (high_lt hne2)⟩
            have hbd : boundS s = max sc q.bound := by unfold boundS; rw [hsc]; exact topR_high hne2 hq
            have hhl := high_lt hne2
            have g5 : decide ((0 : Int) < ((s.left.length : Nat) : Int)) = true := by simp; omega
            have g6 : decide (0 < s.left.length) = true := by simp; omega
            have HBa := Lib.hid ((HT1.out.al.set0 sc).set1 sc)
            have HZa := Lib.hid (((HT1.out.blk HZ.out hn5).far (p := ⟨gA, 0, none⟩) hn5 (.int .i64 sc)).far (p := ⟨gA, 1, none⟩) hn5 (.int .i64 sc))
            have HEa := Lib.hid ((HT1.out.ext.setCell (p := ⟨gA, 0, none⟩) hgw (.int .i64 sc)).setCell (p := ⟨gA, 1, none⟩) hgw (.int .i64 sc))
            go_wp2_with fail
            try any_goals (exfalso; omega)
            clear d0 d1 d2 d3 d4 a0 a1 a2 a3 y0 y1 y2 y3 fA fZ oC oA oZ
            generalize ((ext wr zt).setCell ⟨gA, 0, none⟩ (.int .i64 sc)).setCell ⟨gA, 1, none⟩ (.int .i64 sc) = Wb at *
            have b1 : Wb.cell? ⟨gA, 1, none⟩ = some (.int .i64 sc) := HBa.out.blk.cell 1
            have b3 : Wb.cell? ⟨gA, 3, none⟩ = some (.slice A2 s.left.length c2) := HBa.out.blk.cell 3
            have fB := HBa.out.blk.frozen
            have oB := Old.mk HBa.out.blk.lt
            have hRs := Rss.own HBa.out.left
            have CHi := Lib.hid (fun W' (h : Ext Wb W') => high_any A2 c2 s.left W' (Rss.grow hRs h) (by omega))
            rcases hRs with hnn | ⟨gq, oq, hA2, hgq, hcq⟩
            · exact absurd hnn hne2
            subst hA2
            have qb : Wb.cell? ⟨gq, oq + high s.left * 6 + 5, none⟩ = some (.int .i64 q.bound) := hcq _ q hq 5 _ rfl
            have oQ := Old.mk hgq
            have hqA : gq ≠ gA := fun e => by have := (HBa.out.left.lt gq rfl).1; omega
            have hqA' : gA ≠ gq := fun e => hqA e.symm
            have hhi : ((high s.left : Nat) : Int) < ((s.left.length : Nat) : Int) := by omega
            clear hcq hq
            generalize high s.left = hg at *
            refine wp_region_rel' 12 _ rfl (Vof [isV (.pointer (some ⟨gA, 1, none⟩)), isV (.int .i64 sc), isV (.pointer (some ⟨gA, 3, none⟩)), isV (.slice (some ⟨gq, oq, none⟩) s.left.length c2), isV (.pointer (some ⟨gA, 3, none⟩)), isV (.slice (some ⟨gq, oq, none⟩) s.left.length c2), isV (.int .i64 (hg : Nat)), isV (.pointer (some ⟨gq, oq + hg * 6, none⟩)), isV (.pointer (some ⟨gq, oq + hg * 6 + 5, none⟩)), isV (.int .i64 q.bound), isV (.int .i64 (if sc < q.bound then q.bound else sc)), isV (.pointer (some ⟨gA, 1, none⟩))]) (by kernel_rfl) (by kernel_rfl) (Vof_mono (by simp [isV_mono])) ?op ?last
            case op =>
              intro i o ho a V2 _ _ hfrm hE0 hdep
              have hE : Ext Wb V2 := Ext.trans ((Ext.refl Wb).drew) hE0
              match i, ho with
              | 0, ho =>
                injection ho with ho
                subst ho
                have e1 : a.tmps[9]?.getD undef = .pointer (some ⟨gA, 0, none⟩) := slot_of (hfrm 9 (frm_of 9 (by kernel_rfl)))
                exact rel_val (by simp [execOp, go_sem, e1]) rfl
              | 1, ho =>
                injection ho with ho
                subst ho
                have e1 : a.tmps[160]?.getD undef = .pointer (some ⟨gA, 1, none⟩) := slot_of (hdep ⟨0, .data⟩ (by simp) (by kernel_rfl) 160 (by kernel_rfl))
                have c1 : V2.cell? ⟨gA, 1, none⟩ = some (.int .i64 sc) := (hE.cell (by exact HBa.out.blk.lt)).trans b1
                exact rel_val (by simp [execOp, go_sem, e1, c1]) rfl
              | 2, ho =>
                injection ho with ho
                subst ho
                have e1 : a.tmps[9]?.getD undef = .pointer (some ⟨gA, 0, none⟩) := slot_of (hfrm 9 (frm_of 9 (by kernel_rfl)))
                exact rel_val (by simp [execOp, go_sem, e1]) rfl
              | 3, ho =>
                injection ho with ho
                subst ho
                have e1 : a.tmps[162]?.getD undef = .pointer (some ⟨gA, 3, none⟩) := slot_of (hdep ⟨2, .data⟩ (by simp) (by kernel_rfl) 162 (by kernel_rfl))
                have c3 : V2.cell? ⟨gA, 3, none⟩ = some (.slice (some ⟨gq, oq, none⟩) s.left.length c2) := (hE.cell (by exact HBa.out.blk.lt)).trans b3
                exact rel_val (by simp [execOp, go_sem, e1, c3]) rfl
              | 4, ho =>
                injection ho with ho
                subst ho
                have e1 : a.tmps[9]?.getD undef = .pointer (some ⟨gA, 0, none⟩) := slot_of (hfrm 9 (frm_of 9 (by kernel_rfl)))
                exact rel_val (by simp [execOp, go_sem, e1]) rfl
              | 5, ho =>
                injection ho with ho
                subst ho
                have e1 : a.tmps[164]?.getD undef = .pointer (some ⟨gA, 3, none⟩) := slot_of (hdep ⟨4, .data⟩ (by simp) (by kernel_rfl) 164 (by kernel_rfl))
                have c3 : V2.cell? ⟨gA, 3, none⟩ = some (.slice (some ⟨gq, oq, none⟩) s.left.length c2) := (hE.cell (by exact HBa.out.blk.lt)).trans b3
                exact rel_val (by simp [execOp, go_sem, e1, c3]) rfl
              | 6, ho =>
                injection ho with ho
                subst ho
                have e1 : a.tmps[165]?.getD undef = .slice (some ⟨gq, oq, none⟩) s.left.length c2 := slot_of (hdep ⟨5, .data⟩ (by simp) (by kernel_rfl) 165 (by kernel_rfl))
                exact rel_call 82 [.tmp 165] #[56] rfl (by kernel_rfl) [.slice (some ⟨gq, oq, none⟩) s.left.length c2] (by simp [Act.eval, e1]) (ret_val (CHi.out _ hE))
              | 7, ho =>
                injection ho with ho
                subst ho
                have e1 : a.tmps[163]?.getD undef = .slice (some ⟨gq, oq, none⟩) s.left.length c2 := slot_of (hdep ⟨3, .data⟩ (by simp) (by kernel_rfl) 163 (by kernel_rfl))
                have e2 : a.tmps[166]?.getD undef = .int .i64 (hg : Nat) := slot_of (hdep ⟨6, .data⟩ (by simp) (by kernel_rfl) 166 (by kernel_rfl))
                exact rel_val (by simp [execOp, go_sem, e1, e2, hhi]) rfl
              | 8, ho =>
                injection ho with ho
                subst ho
                have e1 : a.tmps[167]?.getD undef = .pointer (some ⟨gq, oq + hg * 6, none⟩) := slot_of (hdep ⟨7, .data⟩ (by simp) (by kernel_rfl) 167 (by kernel_rfl))
                exact rel_val (by simp [execOp, go_sem, e1]) rfl
              | 9, ho =>
                injection ho with ho
                subst ho
                have e1 : a.tmps[168]?.getD undef = .pointer (some ⟨gq, oq + hg * 6 + 5, none⟩) := slot_of (hdep ⟨8, .data⟩ (by simp) (by kernel_rfl) 168 (by kernel_rfl))
                have c5 : V2.cell? ⟨gq, oq + hg * 6 + 5, none⟩ = some (.int .i64 q.bound) := (hE.cell (by exact hgq)).trans qb
                exact rel_val (by simp [execOp, go_sem, e1, c5]) rfl
              | 10, ho =>
                injection ho with ho
                subst ho
                have e1 : a.tmps[161]?.getD undef = .int .i64 sc := slot_of (hdep ⟨1, .data⟩ (by simp) (by kernel_rfl) 161 (by kernel_rfl))
                have e2 : a.tmps[169]?.getD undef = .int .i64 q.bound := slot_of (hdep ⟨9, .data⟩ (by simp) (by kernel_rfl) 169 (by kernel_rfl))
                exact rel_val (by simp [go_sem, e1, e2]) rfl
              | 11, ho =>
                injection ho with ho
                subst ho
                have e1 : a.tmps[9]?.getD undef = .pointer (some ⟨gA, 0, none⟩) := slot_of (hfrm 9 (frm_of 9 (by kernel_rfl)))
                exact rel_val (by simp [execOp, go_sem, e1]) rfl
              | k + 12, ho => exact absurd (List.getElem?_eq_some_iff.1 ho).1 (by simp)
            case last =>
              intro a V2 _ hdf hfrm hE0 hval
              have hE : Ext Wb V2 := Ext.trans ((Ext.refl Wb).drew) hE0
              have e1 : a.tmps[171]?.getD undef = .pointer (some ⟨gA, 1, none⟩) := slot_of (hval 11 171 (by simp) (by kernel_rfl))
              have e2 : a.tmps[170]?.getD undef = .int .i64 (if sc < q.bound then q.bound else sc) := slot_of (hval 10 170 (by simp) (by kernel_rfl))
              have e9 : a.tmps[9]?.getD undef = .pointer (some ⟨gA, 0, none⟩) := slot_of (hfrm 9 (frm_of 9 (by kernel_rfl)))
              have e8 : a.tmps[8]?.getD undef = .pointer (some ⟨w.heap.size + 1, 0, none⟩) := slot_of (hfrm 8 (frm_of 8 (by kernel_rfl)))
              have hbm : (if sc < q.bound then q.bound else sc) = max sc q.bound := by split <;> omega
              rw [hbm] at e2
              have HBD := Lib.hid hbd
              clear hbm hbd
              have HA2 := Lib.hid (HBa.out.grow hE)
              have HZ2 := Lib.hid (HZa.out.grow hE)
              have HE2 := Lib.hid (HEa.out.trans hE)
              have r1 : V2.cell? ⟨gA, 1, none⟩ = some (.int .i64 sc) := HA2.out.blk.cell 1
              have r0 : V2.cell? ⟨gA, 0, none⟩ = some (.int .i64 sc) := HA2.out.blk.cell 0
              have r2 : V2.cell? ⟨gA, 2, none⟩ = some (.slice A1 s.att.length c1) := HA2.out.blk.cell 2
              have r3 : V2.cell? ⟨gA, 3, none⟩ = some (.slice (some ⟨gq, oq, none⟩) s.left.length c2) := HA2.out.blk.cell 3
              have z0 : V2.cell? ⟨w.heap.size + 1, 0, none⟩ = some (.int .i64 0) := HZ2.out.cell 0
              have z1 : V2.cell? ⟨w.heap.size + 1, 1, none⟩ = some (.int .i64 0) := HZ2.out.cell 1
              have z2 : V2.cell? ⟨w.heap.size + 1, 2, none⟩ = some (.slice none 0 0) := HZ2.out.cell 2
              have z3 : V2.cell? ⟨w.heap.size + 1, 3, none⟩ = some (.slice none 0 0) := HZ2.out.cell 3
              have hf := HA2.out.blk.frozen
              have hfz := HZ2.out.frozen
              have oA2 := Old.mk HA2.out.blk.lt
              have oZ2 := Old.mk HZ2.out.lt
              simp [Oper.wp, execOp, e1, e2, go_sem, r1, hf]
              clear hfrm hval hE hE0
              have f9 : a.eval (.tmp 9) = .pointer (some ⟨gA, 0, none⟩) := by simp [Act.eval, e9]
              have f8 : a.eval (.tmp 8) = .pointer (some ⟨w.heap.size + 1, 0, none⟩) := by simp [Act.eval, e8]
              have g9 : a.tmps.getD 9 undef = .pointer (some ⟨gA, 0, none⟩) := by simpa using e9
              have g8 : a.tmps.getD 8 undef = .pointer (some ⟨w.heap.size + 1, 0, none⟩) := by simpa using e8
              have k8 : ∀ v, (a.tmps.setIfInBounds 172 v).getD 8 undef = .pointer (some ⟨w.heap.size + 1, 0, none⟩) := fun v => by simp [e8]
              have k8' : ∀ v, (a.tmps.setIfInBounds 172 v)[8]?.getD undef = .pointer (some ⟨w.heap.size + 1, 0, none⟩) := fun v => by simp [e8]
              have k8'' : ∀ v ds, Act.eval ⟨a.tmps.setIfInBounds 172 v, ds⟩ (.tmp 8) = .pointer (some ⟨w.heap.size + 1, 0, none⟩) := fun v ds => by simp [Act.eval, e8]
              have HAf := Lib.hid (((((HA2.out.set1 (max sc q.bound)).far (p := ⟨w.heap.size + 1, 0, none⟩) hzA (.int .i64 sc)).far (p := ⟨w.heap.size + 1, 1, none⟩) hzA (.int .i64 (max sc q.bound))).far (p := ⟨w.heap.size + 1, 2, none⟩) hzA (.slice A1 s.att.length c1))|>.far (p := ⟨w.heap.size + 1, 3, none⟩) hzA (.slice (some ⟨gq, oq, none⟩) s.left.length c2))
              have HZf := Lib.hid (((((HZ2.out.far (p := ⟨gA, 1, none⟩) hn5 (.int .i64 (max sc q.bound))).set_ 0 (.int .i64 sc)).set_ 1 (.int .i64 (max sc q.bound))).set_ 2 (.slice A1 s.att.length c1))|>.set_ 3 (.slice (some ⟨gq, oq, none⟩) s.left.length c2))
              have HEf := Lib.hid (((((HE2.out.setCell (p := ⟨gA, 1, none⟩) hgw (.int .i64 (max sc q.bound))).setCell (p := ⟨w.heap.size + 1, 0, none⟩) hzw (.int .i64 sc)).setCell (p := ⟨w.heap.size + 1, 1, none⟩) hzw (.int .i64 (max sc q.bound))).setCell (p := ⟨w.heap.size + 1, 2, none⟩) hzw (.slice A1 s.att.length c1)).setCell (p := ⟨w.heap.size + 1, 3, none⟩) hzw (.slice (some ⟨gq, oq, none⟩) s.left.length c2))
              go_wp2_with fail
              generalize ((((V2.setCell ⟨gA, 1, none⟩ (.int .i64 (max sc q.bound))).setCell ⟨w.heap.size + 1, 0, none⟩ (.int .i64 sc)).setCell ⟨w.heap.size + 1, 1, none⟩ (.int .i64 (max sc q.bound))).setCell ⟨w.heap.size + 1, 2, none⟩ (.slice A1 s.att.length c1)).setCell ⟨w.heap.size + 1, 3, none⟩ (.slice (some ⟨gq, oq, none⟩) s.left.length c2) = Wf at *
              refine bodyPost_ret (results_cell_row rfl _ _ (w.heap.size + 1) 58 #[.int .i64 sc, .int .i64 (max sc q.bound), .slice A1 s.att.length c1, .slice (some ⟨gq, oq, none⟩) s.left.length c2] (0, 0) _ (by simp [e8]) HZf.out Try.underlying58 rfl (by kernel_rfl)) (by first | exact hdf | rfl) ?_
              rw [HF.out]
              refine ⟨A1, c1, some ⟨gq, oq, none⟩, c2, ?_, Ats.own HAf.out.att, Rss.own HAf.out.left, HEf.out⟩
              rw [hsc, HBD.out]
end Go.Proofs.Ythejomcibobieaa
