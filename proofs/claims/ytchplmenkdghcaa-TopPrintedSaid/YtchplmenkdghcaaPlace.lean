/- Where a move and a bend bring a point: the reference. -/
import Derived.Test.YtchplmenkdghcaaTurn
namespace Go.Proofs.Ytchplmenkdghcaa
open Go.RowKit
theorem cos_in (n : Int) : 0 ≤ cosI n ∧ cosI n ≤ 64 := by unfold cosI; repeat' split <;> omega
theorem prod_in {c x : Int} (hc : -64 ≤ c ∧ c ≤ 64) (hx : -32 ≤ x ∧ x ≤ 31) : -2048 ≤ c * x ∧ c * x ≤ 2048 := by
  have h1 : (c * x).natAbs = c.natAbs * x.natAbs := Int.natAbs_mul c x
  have h2 : c.natAbs * x.natAbs ≤ 64 * 32 := Nat.mul_le_mul (by omega) (by omega)
  omega
def placeX (m : Mi) (v : Mv) : Int := turnX m v.turn + v.dx
def placeY (m : Mi) (v : Mv) (b : Nat → Int) : Int := turnY m v.turn + v.dy + b (m.x / 16).toNat
end Go.Proofs.Ytchplmenkdghcaa
/- The exported places, both sides. -/
namespace Go.Proofs.Ytchplmenkdghcaa
open Go.RowKit
theorem turn_in {c s x y : Int} (hc : -64 ≤ c ∧ c ≤ 64) (hs : -64 ≤ s ∧ s ≤ 64) (hx : -32 ≤ x ∧ x ≤ 31) (hy : -32 ≤ y ∧ y ≤ 31) : (-200 ≤ 32 + (c * x - s * y + 32) / 64 ∧ 32 + (c * x - s * y + 32) / 64 ≤ 200) ∧ (-200 ≤ 32 + (s * x + c * y + 32) / 64 ∧ 32 + (s * x + c * y + 32) / 64 ≤ 200) := by
  have p1 := prod_in hc hx
  have p2 := prod_in hs hy
  have p3 := prod_in hs hx
  have p4 := prod_in hc hy
  omega
theorem sin_in (n : Int) : -64 ≤ sinI n ∧ sinI n ≤ 64 := by unfold sinI; repeat' split <;> omega
theorem turnX_in {m : Mi} {n : Int} (hx : 0 ≤ m.x ∧ m.x ≤ 63) (hy : 0 ≤ m.y ∧ m.y ≤ 63) : -200 ≤ turnX m n ∧ turnX m n ≤ 200 :=
  (turn_in (by have := cos_in n; omega) (sin_in n) (by omega) (by omega)).1
theorem turnY_in {m : Mi} {n : Int} (hx : 0 ≤ m.x ∧ m.x ≤ 63) (hy : 0 ≤ m.y ∧ m.y ≤ 63) : -200 ≤ turnY m n ∧ turnY m n ≤ 200 :=
  (turn_in (by have := cos_in n; omega) (sin_in n) (by omega) (by omega)).2
end Go.Proofs.Ytchplmenkdghcaa
/- The reference: whether two points are alike (Alike, 74). -/
namespace Go.Proofs.Ytchplmenkdghcaa
open Go.RowKit
def absD (a b : Int) : Int := max (a - b) (-(a - b))
def turnO (m o : Mi) (n : Int) : Int := absD (turnD m n) (2 * o.dir)
def alikeB (c : Cl) (m o : Mi) (v : Mv) (b : Nat → Int) : Bool :=
  decide (m.kind = o.kind) && decide (absD (placeX m v) o.x ≤ c.reach) && decide (absD (placeY m v b) o.y ≤ c.reach) && decide (min (turnO m o v.turn) (16 - turnO m o v.turn) ≤ c.spread)
structure Mi.ok (m : Mi) : Prop where
  x : 0 ≤ m.x ∧ m.x ≤ 63
  y : 0 ≤ m.y ∧ m.y ≤ 63
  dir : 0 ≤ m.dir ∧ m.dir ≤ 7
end Go.Proofs.Ytchplmenkdghcaa
/- Lists of structs in slices, flat; prints that are copied, prints that are equal (SamePrint, 27). -/
namespace Go.Proofs.Ytchplmenkdghcaa
open Go.RowKit
section
variable {α : Type} {sz : Nat} {f : α → List Value}
def flatG (f : α → List Value) (l : List α) : List Value := l.flatMap f
theorem flatG_len (hf : ∀ x, (f x).length = sz) (l : List α) : (flatG f l).length = l.length * sz := by
  induction l with
  | nil => simp [flatG]
  | cons x r ih => unfold flatG at ih ⊢; rw [List.flatMap_cons, List.length_append, ih, hf, List.length_cons, Nat.succ_mul]; omega
theorem flatG_at (hf : ∀ x, (f x).length = sz) (l : List α) (k : Nat) (x : α) (h : l[k]? = some x) (j : Nat) (hj : j < sz) : (flatG f l)[k * sz + j]? = (f x)[j]? := by
  induction l generalizing k with
  | nil => simp at h
  | cons y r ih =>
    have hy := hf y
    cases k with
    | zero =>
      obtain rfl : y = x := by simpa using h
      unfold flatG
      rw [List.flatMap_cons, List.getElem?_append_left (by rw [hy]; omega), Nat.zero_mul, Nat.zero_add]
    | succ k =>
      have e : (k + 1) * sz + j = sz + (k * sz + j) := by rw [Nat.succ_mul]; omega
      unfold flatG
      rw [List.flatMap_cons, List.getElem?_append_right (by rw [hy, e]; omega), hy]
      have := ih k (by simpa using h)
      unfold flatG at this
      rw [← this]
      congr 1
      omega
theorem flatG_app (l r : List α) : flatG f (l ++ r) = flatG f l ++ flatG f r := by simp [flatG]
theorem flatG_one (h1 : ∀ x, ∀ u ∈ f x, u.oneCell' = true) (l : List α) : ∀ u ∈ flatG f l, u.oneCell' = true := by
  intro u hu
  obtain ⟨x, _, hx⟩ := List.mem_flatMap.1 hu
  exact h1 x u hx
/-- a slice that holds structs -/
def Sl (sz : Nat) (f : α → List Value) (w : World) (A : Option Addr) (l : List α) : Prop :=
  l = [] ∨ ∃ b off, A = some ⟨b, off, none⟩ ∧ b < w.heap.size ∧ ∀ (k : Nat) (x : α), l[k]? = some x → ∀ j u, (f x)[j]? = some u → w.cell? ⟨b, off + k * sz + j, none⟩ = some u
theorem Sl.grow {w w' : World} {A : Option Addr} {l : List α} (h : Sl sz f w A l) (hg : Ext w w') : Sl sz f w' A l := by
  rcases h with rfl | ⟨b, off, rfl, hb, hc⟩
  · exact .inl rfl
  · exact .inr ⟨b, off, rfl, Nat.lt_of_lt_of_le hb hg.size, fun k m hm j u hu => by rw [hg.cell (by exact hb)]; exact hc k m hm j u hu⟩
theorem Slc.sl {w : World} {A : Option Addr} {l : List α} (hf : ∀ x, (f x).length = sz) (h : Slc w sz A l.length (flatG f l)) : Sl sz f w A l := by
  rcases l with _ | ⟨x0, r⟩
  · exact .inl rfl
  · obtain ⟨b, off, rfl, hb, hc⟩ := h.2 (by simp)
    refine .inr ⟨b, off, rfl, hb, fun k x hk j u hu => ?_⟩
    have hj : j < sz := by rw [← hf x]; exact (List.getElem?_eq_some_iff.1 hu).1
    have := hc (k * sz + j) u (by rw [flatG_at hf _ k x hk j hj]; exact hu)
    rwa [← Nat.add_assoc] at this
end
abbrev Mi.cellsL (m : Mi) : List Value := [.int .i64 m.x, .int .i64 m.y, .int .u8 m.kind, .int .u8 m.dir]
theorem Pts.sl {w : World} {A : Option Addr} {l : List Mi} (h : Pts w A l) : Sl 4 Mi.cellsL w A l := by
  rcases h with rfl | ⟨b, off, rfl, hb, hc⟩
  · exact .inl rfl
  · refine .inr ⟨b, off, rfl, hb, fun k m hm j u hu => ?_⟩
    obtain ⟨h0, h1, h2, h3⟩ := hc k m hm
    have hj : j < 4 := (List.getElem?_eq_some_iff.1 hu).1
    rcases (show j = 0 ∨ j = 1 ∨ j = 2 ∨ j = 3 by omega) with rfl | rfl | rfl | rfl
    · exact h0.trans hu
    · exact h1.trans hu
    · exact h2.trans hu
    · exact h3.trans hu
end Go.Proofs.Ytchplmenkdghcaa
