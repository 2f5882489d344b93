/- The state of the program's search in memory, and what turns it: a block with its bound is appended (leave), one is deleted (Delete), an attempt is appended, the sums are set (sum). -/
import Derived.Test.YtchplmenkdghcaaSum
import Derived.Test.YtchplmenkdghcaaDelete
import Derived.Test.YtchplmenkdghcaaProm
namespace Go.Proofs.Ytchplmenkdghcaa
open Go.RowKit
theorem own_at {w w' : World} {B : Nat} {e : TypeId} {sz n : Nat} {v : Value} {xs : List Value} (h : w.ownsRow B e sz v n xs) (hb : ∀ g, v.ownBlock = some g → w'.heap[g]? = w.heap[g]?) : w'.ownsRow B e sz v n xs := by
  refine ⟨h.1, ?_⟩
  rcases h.2 with h2 | ⟨g, cap, cur, rfl, hg, hB, r⟩
  · exact .inl h2
  · exact .inr ⟨g, cap, cur, rfl, hg, (hb g rfl).trans hB, r⟩
abbrev clCells (c : Cl) : Array Value := #[.int .i64 c.turns, .int .i64 c.shift, .int .i64 c.elastic, .int .i64 c.reach, .int .i64 c.spread]
/-- the state: the boxes of the arguments lie in b, b + 1, b + 2, the result's cell in b + 3, the search's in gA -/
structure BsI (w0 : World) (b gA : Nat) (PS QS : Value) (c : Cl) (s : St) (sc bd : Int) (vA vL : Value) (W : World) : Prop where
  p : Blk W b 38 #[PS]
  q : Blk W (b + 1) 38 #[QS]
  c : Blk W (b + 1 + 1) 26 (clCells c)
  r : Blk W (b + 1 + 1 + 1) 45 #[.int .i64 0, .int .i64 0, .slice none 0 0, .slice none 0 0]
  al : AlW (gA + 1) gA s sc bd vA vL W
  ext : Ext w0 W
  hg : b + 1 + 1 + 1 < gA
  lo : w0.heap.size ≤ b
section
variable {w0 : World} {b gA : Nat} {PS QS : Value} {c : Cl} {s s' : St} {sc bd sc' bd' : Int} {vA vL vA' vL' v : Value} {W W' : World}
theorem BsI.turn (h : BsI w0 b gA PS QS c s sc bd vA vL W) (hK : KeepX gA v W W') (hv : ∀ g, v.ownBlock = some g → gA + 1 ≤ g) (hal : AlW (gA + 1) gA s' sc' bd' vA' vL' W') : BsI w0 b gA PS QS c s' sc' bd' vA' vL' W' := by
  have hg := h.hg
  have hlo := h.lo
  have ne : ∀ x, x < gA → v.ownBlock ≠ some x := fun x hx e => by have := hv x e; omega
  exact ⟨hK.blk h.p (by omega) (ne _ (by omega)), hK.blk h.q (by omega) (ne _ (by omega)), hK.blk h.c (by omega) (ne _ (by omega)), hK.blk h.r (by omega) (ne _ (by omega)), hal, hK.old h.ext (by omega) (fun g e => by have := hv g e; omega), hg, hlo⟩
theorem BsI.lt (h : BsI w0 b gA PS QS c s sc bd vA vL W) : gA + 1 ≤ W.heap.size := h.al.blk.lt
theorem BsI.ownL (h : BsI w0 b gA PS QS c s sc bd vA vL W) {g : Nat} (e : vL.ownBlock = some g) : gA + 1 ≤ g ∧ g < W.heap.size := h.al.left.lt g e
theorem BsI.ownA (h : BsI w0 b gA PS QS c s sc bd vA vL W) {g : Nat} (e : vA.ownBlock = some g) : gA + 1 ≤ g ∧ g < W.heap.size := h.al.att.lt g e
theorem AlW.grow {B : Nat} (h : AlW B gA s sc bd vA vL W) (hE : Ext W W') : AlW B gA s sc bd vA vL W' := ⟨h.blk.grow hE, own_grow h.att hE, own_grow h.left hE, h.ga, h.ne⟩
theorem BsI.grow (h : BsI w0 b gA PS QS c s sc bd vA vL W) (hE : Ext W W') : BsI w0 b gA PS QS c s sc bd vA vL W' := ⟨h.p.grow hE, h.q.grow hE, h.c.grow hE, h.r.grow hE, h.al.grow hE, h.ext.trans hE, h.hg, h.lo⟩
/-- a store into a block that is none of the state's -/
theorem BsI.far (h : BsI w0 b gA PS QS c s sc bd vA vL W) {p : Addr} (h1 : gA < p.block) (h2 : vA.ownBlock ≠ some p.block) (h3 : vL.ownBlock ≠ some p.block) (u : Value) : BsI w0 b gA PS QS c s sc bd vA vL (W.setCell p u) := by
  have hg := h.hg
  have hlo := h.lo
  refine ⟨h.p.far (by omega) _, h.q.far (by omega) _, h.c.far (by omega) _, h.r.far (by omega) _, ⟨h.al.blk.far (by omega) _, own_at h.al.att fun g e => ?_, own_at h.al.left fun g e => ?_, h.al.ga, h.al.ne⟩, h.ext.setCell (by omega) _, hg, hlo⟩
  · exact Below.heap_setCell _ _ _ _ (fun e2 => h2 (by rw [← e2]; exact e))
  · exact Below.heap_setCell _ _ _ _ (fun e2 => h3 (by rw [← e2]; exact e))
variable {lp lq : List Mi}
/-- leave (64) -/
theorem BsI.leave {Ap Aq : Option Addr} {cp cq : Nat} (h : BsI w0 b gA (.slice Ap lp.length cp) (.slice Aq lq.length cq) c s sc bd vA vL W) (hc : c.ok) (hp : ∀ m ∈ lp, m.ok) (hq : ∀ m ∈ lq, m.ok) (hnp : lp.length ≤ 100) (hnq : lq.length ≤ 100) (hP : Pts w0 Ap lp) (hQ : Pts w0 Aq lq)
    (k : Bk) (hk : isBlk c k = true) (hn : s.left.length ≤ 60000) :
    Calls Try.prog 19 #[k.val, .pointer (some ⟨gA, 0, none⟩), .pointer (some ⟨b, 0, none⟩), .pointer (some ⟨b + 1, 0, none⟩), .pointer (some ⟨b + 1 + 1, 0, none⟩)] W fun e W' => (∃ u, e = .returned u) ∧
      ∃ vL', BsI w0 b gA (.slice Ap lp.length cp) (.slice Aq lq.length cq) c ⟨s.att, s.left ++ [withB (bndK c lp lq) k]⟩ sc bd vA vL' W' ∧ KeepX gA vL W W' ∧ (vL'.ownBlock = vL.ownBlock ∨ ∃ g, vL'.ownBlock = some g ∧ W.heap.size ≤ g) := by
  have hg := h.hg
  have hlo := h.lo
  refine (leave_any c hc lp lq k hk hp hq hnp hnq Ap Aq cp cq (gA + 1) gA b (b + 1) (b + 1 + 1) w0 W hP hQ h.ext (by omega) (by omega) s.left sc bd vA vL h.al.blk h.al.left (by omega) h.lt hn h.p h.q h.c ⟨by omega, by omega⟩ ⟨by omega, by omega⟩ ⟨by omega, by omega⟩).mono ?_
  rintro e W' ⟨hu, vL', hB, hL, hK, hnew⟩
  refine ⟨hu, vL', h.turn hK (fun g e => (h.ownL e).1) ⟨hB, own_at h.al.att fun g e => hK.block g (h.ownA e).2 (by have := (h.ownA e).1; omega) (h.al.ne g e), ?_, by omega, fun g e => ?_⟩, hK, hnew⟩
  · have : (s.left ++ [withB (bndK c lp lq) k]).length = s.left.length + 1 := by simp
    dsimp only
    rw [this]
    exact hL
  · rcases hnew with h1 | ⟨g', h1, h2⟩
    · rw [h1]; exact h.al.ne g e
    · rw [h1]
      intro e2
      injection e2 with e2
      have := (h.ownA e).2
      omega
/-- sum (66) -/
theorem BsI.sum (h : BsI w0 b gA PS QS c s sc bd vA vL W) (hn : s.att.length ≤ 60000 ∧ s.left.length ≤ 60000) :
    Calls Try.prog 22 #[.pointer (some ⟨gA, 0, none⟩)] W fun e W' => (∃ u, e = .returned u) ∧ BsI w0 b gA PS QS c s (scoreS s) (boundS s) vA vL W' := by
  refine (sum_any (gA + 1) gA s sc bd vA vL W h.al hn).mono ?_
  rintro e W' ⟨hu, hB, hT⟩
  refine ⟨hu, h.turn (v := .slice none 0 0) ⟨hT.os, hT.tape, hT.output, hT.size, fun x hx h1 _ => hT.block x hx h1 h1⟩ (fun g e => by cases e) ⟨hB, own_at h.al.att fun g e => ?_, own_at h.al.left fun g e => ?_, h.al.ga, h.al.ne⟩⟩
  · have := h.ownA e
    exact hT.block g this.2 (by omega) (by omega)
  · have := h.ownL e
    exact hT.block g this.2 (by omega) (by omega)
/-- Delete (67), and what comes of it when the list is stored back -/
theorem BsI.del (h : BsI w0 b gA PS QS c s sc bd vA vL W) (k : Nat) (hk : k < s.left.length) (hn : s.left.length ≤ 60000) :
    Calls Try.prog 23 #[vL, .int .i64 (k : Int), .int .i64 ((k : Int) + 1)] W fun e W' => ∃ vL', e = .returned vL' ∧ Blk W' gA 45 #[.int .i64 sc, .int .i64 bd, vA, vL] ∧
      BsI w0 b gA PS QS c ⟨s.att, s.left.eraseIdx k⟩ sc bd vA vL' (W'.setCell ⟨gA, 3, none⟩ vL') ∧ KeepX gA vL W (W'.setCell ⟨gA, 3, none⟩ vL') ∧ vL'.ownBlock = vL.ownBlock := by
  refine (delete_any (gA + 1) s.left vL k hk hn W h.al.left).mono ?_
  rintro e W' ⟨vL', he, hL, hG, ho⟩
  have hne : ∀ g, vL.ownBlock = some g → g ≠ gA := fun g e => by have := (h.ownL e).1; omega
  have hB : Blk W' gA 45 #[.int .i64 sc, .int .i64 bd, vA, vL] := (hG.block gA h.al.blk.lt (fun e => hne gA e.symm rfl)).trans h.al.blk
  have hK : KeepX gA vL W (W'.setCell ⟨gA, 3, none⟩ vL') := ⟨hG.os, hG.tape, hG.output, by simpa [World.setCell] using hG.size, fun x hx h1 h2 => (Below.heap_setCell _ _ _ _ (by exact h1)).trans (hG.block x hx (fun e => h2 e.symm))⟩
  refine ⟨vL', he, hB, h.turn hK (fun g e => (h.ownL e).1) ⟨hB.set_ 3 vL', own_at h.al.att fun g e => hK.block g (h.ownA e).2 (by have := (h.ownA e).1; omega) (h.al.ne g e), ownsRow_setCell_below hL (by show gA < gA + 1; omega) _, by omega, fun g e => by rw [ho]; exact h.al.ne g e⟩, hK, ho⟩
/-- an attempt is appended -/
def appT (gA : Nat) (vA : Value) (att : List At) (x : At) (cs : Array Value) (W : World) : App := ⟨gA + 1, gA, 78, 8, att.length, 1, W.heap.size, vA, flatG At.cellsL att, x.cellsL, cs, 2⟩
theorem appT_ok (h : BsI w0 b gA PS QS c s sc bd vA vL W) (hn : s.att.length ≤ 60000) (x : At) (cs : Array Value) : (appT gA vA s.att x cs W).ok :=
  ⟨by show gA < gA + 1; omega, h.lt, fun g e => (h.ownA e).2, fun u hu => at_one _ u hu, by show 0 < 1; omega, by show s.att.length + 1 ≤ 65536; omega, rfl⟩
theorem BsI.att (h : BsI w0 b gA PS QS c s sc bd vA vL W) {x : At} {W1 : World} (hT : (appT gA vA s.att x #[.int .i64 sc, .int .i64 bd, vA, vL] W).T W.drew W1) (hS : (appT gA vA s.att x #[.int .i64 sc, .int .i64 bd, vA, vL] W).St W1) :
    ∃ vA', BsI w0 b gA PS QS c ⟨s.att ++ [x], s.left⟩ sc bd vA' vL W1 := by
  obtain ⟨vA', ⟨-, hown, hnew⟩, hB⟩ := hS
  have hK : KeepX gA vA W W1 := (KeepX.of_ext (Ext.refl W).drew).trans hT.keep
  refine ⟨vA', h.turn hK (fun g e => (h.ownA e).1) ⟨hB, ?_, own_at h.al.left fun g e => hK.block g (h.ownL e).2 (by have := (h.ownL e).1; omega) (fun e2 => h.al.ne g e2 e), by omega, fun g e e2 => ?_⟩⟩
  · have : (s.att ++ [x]).length = s.att.length + 1 := by simp
    dsimp only
    rw [this, flatG_app]
    have e1 : flatG At.cellsL [x] = x.cellsL := by simp [flatG]
    rw [e1]
    exact hown
  · rcases hnew with h1 | ⟨g', h1, h2⟩
    · exact h.al.ne g (h1.symm.trans e) e2
    · rw [h1] at e
      injection e with e
      subst e
      have := (h.ownL e2).2
      change W.heap.size ≤ g' at h2
      omega
end
end Go.Proofs.Ytchplmenkdghcaa

