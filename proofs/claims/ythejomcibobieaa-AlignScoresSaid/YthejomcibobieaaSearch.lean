/- The search, in plain words: blocks, attempts, steps, and what holds of every state. -/
import Derived.Test.YthejomcibobieaaMove
namespace Go.Proofs.Ythejomcibobieaa

theorem Mv.ext_ {a b : Mv} (h1 : a.turn = b.turn) (h2 : a.dx = b.dx) (h3 : a.dy = b.dy) : a = b := by cases a; cases b; simp_all
instance mvDec : DecidableEq Mv := fun a b => decidable_of_iff (a.turn = b.turn ∧ a.dx = b.dx ∧ a.dy = b.dy) ⟨fun h => Mv.ext_ h.1 h.2.1 h.2.2, fun h => by subst h; exact ⟨rfl, rfl, rfl⟩⟩
structure Bd where
  a : Int
  b : Int
  c : Int
  d : Int
theorem Bd.ext_ {x y : Bd} (h1 : x.a = y.a) (h2 : x.b = y.b) (h3 : x.c = y.c) (h4 : x.d = y.d) : x = y := by cases x; cases y; simp_all
instance bdDec : DecidableEq Bd := fun x y => decidable_of_iff (x.a = y.a ∧ x.b = y.b ∧ x.c = y.c ∧ x.d = y.d) ⟨fun h => Bd.ext_ h.1 h.2.1 h.2.2.1 h.2.2.2, fun h => by subst h; exact ⟨rfl, rfl, rfl, rfl⟩⟩
def Bd.f (b : Bd) : Nat → Int
  | 0 => b.a
  | 1 => b.b
  | 2 => b.c
  | _ => b.d
structure Bk where
  turn : Int
  x0 : Int
  y0 : Int
  x1 : Int
  y1 : Int
structure At where
  mv : Mv
  bd : Bd
  score : Int
theorem At.ext_ {x y : At} (h1 : x.mv = y.mv) (h2 : x.bd = y.bd) (h3 : x.score = y.score) : x = y := by cases x; cases y; simp_all
instance atDec : DecidableEq At := fun x y => decidable_of_iff (x.mv = y.mv ∧ x.bd = y.bd ∧ x.score = y.score) ⟨fun h => At.ext_ h.1 h.2.1 h.2.2, fun h => by subst h; exact ⟨rfl, rfl, rfl⟩⟩
structure Rs where
  bk : Bk
  bound : Int
structure St where
  att : List At
  left : List Rs

/-- a block of a class -/
def isBlk (c : Cl) (k : Bk) : Bool := inB k.turn (-c.turns) c.turns && (decide (-c.shift ≤ k.x0) && decide (k.x0 ≤ k.x1) && decide (k.x1 ≤ c.shift)) && (decide (-c.shift ≤ k.y0) && decide (k.y0 ≤ k.y1) && decide (k.y1 ≤ c.shift))
theorem isBlk_iff {c : Cl} {k : Bk} : isBlk c k = true ↔ (-c.turns ≤ k.turn ∧ k.turn ≤ c.turns) ∧ (-c.shift ≤ k.x0 ∧ k.x0 ≤ k.x1 ∧ k.x1 ≤ c.shift) ∧ (-c.shift ≤ k.y0 ∧ k.y0 ≤ k.y1 ∧ k.y1 ≤ c.shift) := by
  simp only [isBlk, Bool.and_eq_true, inB_iff, decide_eq_true_eq]
  constructor
  · rintro ⟨⟨h1, ⟨h2, h3⟩, h4⟩, ⟨h5, h6⟩, h7⟩
    exact ⟨h1, ⟨h2, h3, h4⟩, h5, h6, h7⟩
  · rintro ⟨h1, ⟨h2, h3, h4⟩, h5, h6, h7⟩
    exact ⟨⟨h1, ⟨h2, h3⟩, h4⟩, ⟨h5, h6⟩, h7⟩
theorem isMove_iff {c : Cl} {v : Mv} : isMove c v = true ↔ (-c.turns ≤ v.turn ∧ v.turn ≤ c.turns) ∧ (-c.shift ≤ v.dx ∧ v.dx ≤ c.shift) ∧ (-c.shift ≤ v.dy ∧ v.dy ≤ c.shift) := by
  simp only [isMove, Bool.and_eq_true, inB_iff, and_assoc]
/-- a move lies in a block -/
def hasB (k : Bk) (v : Mv) : Bool := decide (k.turn = v.turn) && inB v.dx k.x0 k.x1 && inB v.dy k.y0 k.y1
theorem hasB_iff {k : Bk} {v : Mv} : hasB k v = true ↔ k.turn = v.turn ∧ (k.x0 ≤ v.dx ∧ v.dx ≤ k.x1) ∧ (k.y0 ≤ v.dy ∧ v.dy ≤ k.y1) := by
  simp only [hasB, Bool.and_eq_true, inB_iff, decide_eq_true_eq, and_assoc]
/-- the greatest score -/
def topA (l : List At) : Int := l.foldl (fun m x => max m x.score) 0
/-- the greatest bound, at least m -/
def topR (m : Int) (l : List Rs) : Int := l.foldl (fun m x => max m x.bound) m
theorem foldl_mx {α : Type} (f : α → Int) : ∀ (l : List α) (m : Int), m ≤ l.foldl (fun m x => max m (f x)) m ∧ (∀ x ∈ l, f x ≤ l.foldl (fun m x => max m (f x)) m) ∧ (l.foldl (fun m x => max m (f x)) m = m ∨ ∃ x ∈ l, l.foldl (fun m x => max m (f x)) m = f x) := by
  intro l
  induction l with
  | nil => intro m; exact ⟨Int.le_refl _, fun x h => (by cases h), .inl rfl⟩
  | cons y l ih =>
    intro m
    obtain ⟨h1, h2, h3⟩ := ih (max m (f y))
    simp only [List.foldl_cons]
    refine ⟨by omega, fun x hx => ?_, ?_⟩
    · rcases List.mem_cons.1 hx with rfl | hx
      · omega
      · exact h2 x hx
    · rcases h3 with h3 | ⟨x, hx, h3⟩
      · rw [h3]
        rcases Int.le_total m (f y) with h | h
        · exact .inr ⟨y, List.mem_cons_self, by omega⟩
        · exact .inl (by omega)
      · exact .inr ⟨x, List.mem_cons_of_mem _ hx, h3⟩
theorem topA_nonneg (l : List At) : 0 ≤ topA l := (foldl_mx At.score l 0).1
theorem topA_ge {l : List At} {x : At} (h : x ∈ l) : x.score ≤ topA l := (foldl_mx At.score l 0).2.1 x h
theorem topA_is (l : List At) : topA l = 0 ∨ ∃ x ∈ l, topA l = x.score := (foldl_mx At.score l 0).2.2
theorem topR_ge0 (m : Int) (l : List Rs) : m ≤ topR m l := (foldl_mx Rs.bound l m).1
theorem topR_ge {m : Int} {l : List Rs} {x : Rs} (h : x ∈ l) : x.bound ≤ topR m l := (foldl_mx Rs.bound l m).2.1 x h
theorem topR_is (m : Int) (l : List Rs) : topR m l = m ∨ ∃ x ∈ l, topR m l = x.bound := (foldl_mx Rs.bound l m).2.2
theorem topA_append (l : List At) (x : At) : topA (l ++ [x]) = max (topA l) x.score := by simp [topA]
theorem topR_le {m u : Int} {l : List Rs} (h0 : m ≤ u) (h : ∀ x ∈ l, x.bound ≤ u) : topR m l ≤ u := by
  rcases topR_is m l with e | ⟨x, hx, e⟩
  · rw [e]; exact h0
  · rw [e]; exact h x hx
theorem topA_le {u : Int} {l : List At} (h0 : 0 ≤ u) (h : ∀ x ∈ l, x.score ≤ u) : topA l ≤ u := by
  rcases topA_is l with e | ⟨x, hx, e⟩
  · rw [e]; exact h0
  · rw [e]; exact h x hx
/-- the index of the first of the first k blocks with the greatest bound -/
def boundAt (l : List Rs) (i : Nat) : Int := match l[i]? with | some x => x.bound | none => 0
def highN (l : List Rs) : Nat → Nat
  | 0 => 0
  | k + 1 => if boundAt l (highN l k) < boundAt l k then k else highN l k
theorem highN_lt (l : List Rs) : ∀ k, 0 < k → highN l k < k := by
  intro k
  induction k with
  | zero => intro h; omega
  | succ k ih =>
    intro _
    unfold highN
    split
    · omega
    · rcases Nat.eq_zero_or_pos k with rfl | h
      · simp [highN]
      · have := ih h; omega
theorem highN_ge (l : List Rs) : ∀ k i, i < k → boundAt l i ≤ boundAt l (highN l k) := by
  intro k
  induction k with
  | zero => intro i h; omega
  | succ k ih =>
    intro i hi
    unfold highN
    split
    · rename_i h
      rcases Nat.lt_or_ge i k with h2 | h2
      · have := ih i h2; omega
      · obtain rfl : i = k := by omega
        exact Int.le_refl _
    · rename_i h
      rcases Nat.lt_or_ge i k with h2 | h2
      · exact ih i h2
      · obtain rfl : i = k := by omega
        omega
def high (l : List Rs) : Nat := highN l l.length
theorem high_lt {l : List Rs} (h : l ≠ []) : high l < l.length := highN_lt l _ (by cases l <;> simp_all)
theorem high_ge {l : List Rs} {x : Rs} (h : x ∈ l) : x.bound ≤ boundAt l (high l) := by
  obtain ⟨i, hi, rfl⟩ := List.mem_iff_getElem.1 h
  have := highN_ge l l.length i hi
  unfold boundAt at this
  rw [List.getElem?_eq_getElem hi] at this
  exact this
def mid (a b : Int) : Int := (a + b) / 2
def loK (k : Bk) : Bk := if k.y1 - k.y0 ≤ k.x1 - k.x0 then { k with x1 := mid k.x0 k.x1 } else { k with y1 := mid k.y0 k.y1 }
def hiK (k : Bk) : Bk := if k.y1 - k.y0 ≤ k.x1 - k.x0 then { k with x0 := mid k.x0 k.x1 + 1 } else { k with y0 := mid k.y0 k.y1 + 1 }
def oneK (k : Bk) : Bool := decide (k.x0 = k.x1) && decide (k.y0 = k.y1)
def mvK (k : Bk) : Mv := ⟨k.turn, k.x0, k.y0⟩
def scoreS (s : St) : Int := topA s.att
def boundS (s : St) : Int := topR (scoreS s) s.left
def stopS (s : St) : Bool := s.left.isEmpty || (!s.att.isEmpty && decide (boundS s = scoreS s))
section
variable (bnd : Bk → Int) (tr : Mv → At)
def withB (k : Bk) : Rs := ⟨k, bnd k⟩
def stepS (s : St) : St := match s.left[high s.left]? with
  | none => s
  | some x => if oneK x.bk then ⟨s.att ++ [tr (mvK x.bk)], s.left.eraseIdx (high s.left)⟩ else ⟨s.att, s.left.eraseIdx (high s.left) ++ [withB bnd (loK x.bk), withB bnd (hiK x.bk)]⟩
def runS : Nat → St → St
  | 0, s => s
  | n + 1, s => if stopS s then s else runS n (stepS bnd tr s)
end
/-- the turns 0, 1, -1, .. -/
def turnsL (n : Nat) : List Int := match n with
  | 0 => [0]
  | n + 1 => turnsL n ++ [((n + 1 : Nat) : Int), -((n + 1 : Nat) : Int)]
def wholeK (c : Cl) (t : Int) : Bk := ⟨t, -c.shift, -c.shift, c.shift, c.shift⟩
def startS (bnd : Bk → Int) (c : Cl) : St := ⟨[], (turnsL c.turns.toNat).map fun t => withB bnd (wholeK c t)⟩
def cov (s : St) (v : Mv) : Nat := s.att.countP (fun a => decide (a.mv = v)) + s.left.countP (fun r => hasB r.bk v)
def cells (k : Bk) : Nat := ((k.x1 - k.x0 + 1) * (k.y1 - k.y0 + 1)).toNat
def meas (l : List Rs) : Nat := (l.map fun r => 2 * cells r.bk - 1).sum
end Go.Proofs.Ythejomcibobieaa
