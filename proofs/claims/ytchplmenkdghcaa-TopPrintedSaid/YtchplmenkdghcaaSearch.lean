/- The search, in plain words: blocks, attempts, steps, and what holds of every state. -/
import Derived.Test.YtchplmenkdghcaaPrint
namespace Go.Proofs.Ytchplmenkdghcaa
theorem Mv.ext_ {a b : Mv} (h1 : a.turn = b.turn) (h2 : a.dx = b.dx) (h3 : a.dy = b.dy) : a = b := by cases a; cases b; simp_all
instance mvDec : DecidableEq Mv := fun a b => decidable_of_iff (a.turn = b.turn ∧ a.dx = b.dx ∧ a.dy = b.dy) ⟨fun h => Mv.ext_ h.1 h.2.1 h.2.2, fun h => by subst h; exact ⟨rfl, rfl, rfl⟩⟩
structure Bd where
  a : Int
  b : Int
  c : Int
  d : Int
theorem Bd.ext_ {x y : Bd} (h1 : x.a = y.a) (h2 : x.b = y.b) (h3 : x.c = y.c) (h4 : x.d = y.d) : x = y := by cases x; cases y; simp_all
instance bdDec : DecidableEq Bd := fun x y => decidable_of_iff (x.a = y.a ∧ x.b = y.b ∧ x.c = y.c ∧ x.d = y.d) ⟨fun h => Bd.ext_ h.1 h.2.1 h.2.2.1 h.2.2.2, fun h => by subst h; exact ⟨rfl, rfl, rfl, rfl⟩⟩
def Bd.f (b : Bd) : Nat → Int
  | 0 => b.a
  | 1 => b.b
  | 2 => b.c
  | _ => b.d
structure Bk where
  turn : Int
  x0 : Int
  y0 : Int
  x1 : Int
  y1 : Int
structure At where
  mv : Mv
  bd : Bd
  score : Int
theorem At.ext_ {x y : At} (h1 : x.mv = y.mv) (h2 : x.bd = y.bd) (h3 : x.score = y.score) : x = y := by cases x; cases y; simp_all
instance atDec : DecidableEq At := fun x y => decidable_of_iff (x.mv = y.mv ∧ x.bd = y.bd ∧ x.score = y.score) ⟨fun h => At.ext_ h.1 h.2.1 h.2.2, fun h => by subst h; exact ⟨rfl, rfl, rfl⟩⟩
structure Rs where
  bk : Bk
  bound : Int
structure St where
  att : List At
  left : List Rs
/-- a block of a class -/
def isBlk (c : Cl) (k : Bk) : Bool := inB k.turn (-c.turns) c.turns && (decide (-c.shift ≤ k.x0) && decide (k.x0 ≤ k.x1) && decide (k.x1 ≤ c.shift)) && (decide (-c.shift ≤ k.y0) && decide (k.y0 ≤ k.y1) && decide (k.y1 ≤ c.shift))
theorem isBlk_iff {c : Cl} {k : Bk} : isBlk c k = true ↔ (-c.turns ≤ k.turn ∧ k.turn ≤ c.turns) ∧ (-c.shift ≤ k.x0 ∧ k.x0 ≤ k.x1 ∧ k.x1 ≤ c.shift) ∧ (-c.shift ≤ k.y0 ∧ k.y0 ≤ k.y1 ∧ k.y1 ≤ c.shift) := by
  simp only [isBlk, Bool.and_eq_true, inB_iff, decide_eq_true_eq]
  constructor
  · rintro ⟨⟨h1, ⟨h2, h3⟩, h4⟩, ⟨h5, h6⟩, h7⟩
    exact ⟨h1, ⟨h2, h3, h4⟩, h5, h6, h7⟩
  · rintro ⟨h1, ⟨h2, h3, h4⟩, h5, h6, h7⟩
    exact ⟨⟨h1, ⟨h2, h3⟩, h4⟩, ⟨h5, h6⟩, h7⟩
theorem isMove_iff {c : Cl} {v : Mv} : isMove c v = true ↔ (-c.turns ≤ v.turn ∧ v.turn ≤ c.turns) ∧ (-c.shift ≤ v.dx ∧ v.dx ≤ c.shift) ∧ (-c.shift ≤ v.dy ∧ v.dy ≤ c.shift) := by
  simp only [isMove, Bool.and_eq_true, inB_iff, and_assoc]
/-- a move lies in a block -/
def hasB (k : Bk) (v : Mv) : Bool := decide (k.turn = v.turn) && inB v.dx k.x0 k.x1 && inB v.dy k.y0 k.y1
theorem hasB_iff {k : Bk} {v : Mv} : hasB k v = true ↔ k.turn = v.turn ∧ (k.x0 ≤ v.dx ∧ v.dx ≤ k.x1) ∧ (k.y0 ≤ v.dy ∧ v.dy ≤ k.y1) := by
  simp only [hasB, Bool.and_eq_true, inB_iff, decide_eq_true_eq, and_assoc]
/-- the greatest score -/
def topA (l : List At) : Int := l.foldl (fun m x => max m x.score) 0
/-- the greatest bound, at least m -/
def topR (m : Int) (l : List Rs) : Int := l.foldl (fun m x => max m x.bound) m
theorem foldl_mx {α : Type} (f : α → Int) : ∀ (l : List α) (m : Int), m ≤ l.foldl (fun m x => max m (f x)) m ∧ (∀ x ∈ l, f x ≤ l.foldl (fun m x => max m (f x)) m) ∧ (l.foldl (fun m x => max m (f x)) m = m ∨ ∃ x ∈ l, l.foldl (fun m x => max m (f x)) m = f x) := by
  intro l
  induction l with
  | nil => intro m; exact ⟨Int.le_refl _, fun x h => (by cases h), .inl rfl⟩
  | cons y l ih =>
    intro m
    obtain ⟨h1, h2, h3⟩ := ih (max m (f y))
    simp only [List.foldl_cons]
    refine ⟨by omega, fun x hx => ?_, ?_⟩
    · rcases List.mem_cons.1 hx with rfl | hx
      · omega
      · exact h2 x hx
    · rcases h3 with h3 | ⟨x, hx, h3⟩
      · rw [h3]
        rcases Int.le_total m (f y) with h | h
        · exact .inr ⟨y, List.mem_cons_self, by omega⟩
        · exact .inl (by omega)
      · exact .inr ⟨x, List.mem_cons_of_mem _ hx, h3⟩
theorem topA_ge {l : List At} {x : At} (h : x ∈ l) : x.score ≤ topA l := (foldl_mx At.score l 0).2.1 x h
theorem topA_is (l : List At) : topA l = 0 ∨ ∃ x ∈ l, topA l = x.score := (foldl_mx At.score l 0).2.2
theorem topR_ge0 (m : Int) (l : List Rs) : m ≤ topR m l := (foldl_mx Rs.bound l m).1
theorem topR_ge {m : Int} {l : List Rs} {x : Rs} (h : x ∈ l) : x.bound ≤ topR m l := (foldl_mx Rs.bound l m).2.1 x h
theorem topR_is (m : Int) (l : List Rs) : topR m l = m ∨ ∃ x ∈ l, topR m l = x.bound := (foldl_mx Rs.bound l m).2.2
theorem topA_append (l : List At) (x : At) : topA (l ++ [x]) = max (topA l) x.score := by simp [topA]
theorem topR_le {m u : Int} {l : List Rs} (h0 : m ≤ u) (h : ∀ x ∈ l, x.bound ≤ u) : topR m l ≤ u := by
  rcases topR_is m l with e | ⟨x, hx, e⟩
  · rw [e]; exact h0
  · rw [e]; exact h x hx
/-- the index of the first of the first k blocks with the greatest bound -/
def boundAt (l : List Rs) (i : Nat) : Int := match l[i]? with | some x => x.bound | none => 0
def highN (l : List Rs) : Nat → Nat
  | 0 => 0
  | k + 1 => if boundAt l (highN l k) < boundAt l k then k else highN l k
theorem highN_lt (l : List Rs) : ∀ k, 0 < k → highN l k < k := by
  intro k
  induction k with
  | zero => intro h; omega
  | succ k ih =>
    intro _
    unfold highN
    split
    · omega
    · rcases Nat.eq_zero_or_pos k with rfl | h
      · simp [highN]
      · have := ih h; omega
theorem highN_ge (l : List Rs) : ∀ k i, i < k → boundAt l i ≤ boundAt l (highN l k) := by
  intro k
  induction k with
  | zero => intro i h; omega
  | succ k ih =>
    intro i hi
    unfold highN
    split
    · rename_i h
      rcases Nat.lt_or_ge i k with h2 | h2
      · have := ih i h2; omega
      · obtain rfl : i = k := by omega
        exact Int.le_refl _
    · rename_i h
      rcases Nat.lt_or_ge i k with h2 | h2
      · exact ih i h2
      · obtain rfl : i = k := by omega
        omega
def high (l : List Rs) : Nat := highN l l.length
theorem high_lt {l : List Rs} (h : l ≠ []) : high l < l.length := highN_lt l _ (by cases l <;> simp_all)
theorem high_ge {l : List Rs} {x : Rs} (h : x ∈ l) : x.bound ≤ boundAt l (high l) := by
  obtain ⟨i, hi, rfl⟩ := List.mem_iff_getElem.1 h
  have := highN_ge l l.length i hi
  unfold boundAt at this
  rw [List.getElem?_eq_getElem hi] at this
  exact this
def mid (a b : Int) : Int := (a + b) / 2
def loK (k : Bk) : Bk := if k.y1 - k.y0 ≤ k.x1 - k.x0 then { k with x1 := mid k.x0 k.x1 } else { k with y1 := mid k.y0 k.y1 }
def hiK (k : Bk) : Bk := if k.y1 - k.y0 ≤ k.x1 - k.x0 then { k with x0 := mid k.x0 k.x1 + 1 } else { k with y0 := mid k.y0 k.y1 + 1 }
def oneK (k : Bk) : Bool := decide (k.x0 = k.x1) && decide (k.y0 = k.y1)
def mvK (k : Bk) : Mv := ⟨k.turn, k.x0, k.y0⟩
def scoreS (s : St) : Int := topA s.att
def boundS (s : St) : Int := topR (scoreS s) s.left
def stopS (s : St) : Bool := s.left.isEmpty || (!s.att.isEmpty && decide (boundS s = scoreS s))
section
variable (bnd : Bk → Int) (tr : Mv → At)
def withB (k : Bk) : Rs := ⟨k, bnd k⟩
def stepS (s : St) : St := match s.left[high s.left]? with
  | none => s
  | some x => if oneK x.bk then ⟨s.att ++ [tr (mvK x.bk)], s.left.eraseIdx (high s.left)⟩ else ⟨s.att, s.left.eraseIdx (high s.left) ++ [withB bnd (loK x.bk), withB bnd (hiK x.bk)]⟩
def runS : Nat → St → St
  | 0, s => s
  | n + 1, s => if stopS s then s else runS n (stepS bnd tr s)
end
/-- the turns 0, 1, -1, .. -/
def turnsL (n : Nat) : List Int := match n with
  | 0 => [0]
  | n + 1 => turnsL n ++ [((n + 1 : Nat) : Int), -((n + 1 : Nat) : Int)]
def wholeK (c : Cl) (t : Int) : Bk := ⟨t, -c.shift, -c.shift, c.shift, c.shift⟩
def startS (bnd : Bk → Int) (c : Cl) : St := ⟨[], (turnsL c.turns.toNat).map fun t => withB bnd (wholeK c t)⟩
def cov (s : St) (v : Mv) : Nat := s.att.countP (fun a => decide (a.mv = v)) + s.left.countP (fun r => hasB r.bk v)
def cells (k : Bk) : Nat := ((k.x1 - k.x0 + 1) * (k.y1 - k.y0 + 1)).toNat
def meas (l : List Rs) : Nat := (l.map fun r => 2 * cells r.bk - 1).sum
end Go.Proofs.Ytchplmenkdghcaa
namespace Go.Proofs.Ytchplmenkdghcaa
theorem turnsL_mem (n : Nat) (t : Int) : t ∈ turnsL n ↔ -(n : Int) ≤ t ∧ t ≤ n := by
  induction n with
  | zero => simp [turnsL]; omega
  | succ n ih =>
    simp only [turnsL, List.mem_append, ih, List.mem_cons, List.not_mem_nil, or_false]
    omega
theorem turnsL_nodup (n : Nat) : (turnsL n).Nodup := by
  induction n with
  | zero => simp [turnsL]
  | succ n ih =>
    simp only [turnsL]
    rw [List.nodup_append]
    refine ⟨ih, ?_, ?_⟩
    · simp; omega
    · intro a ha b hb e
      subst e
      rw [turnsL_mem] at ha
      simp only [List.mem_cons, List.not_mem_nil, or_false] at hb
      omega
theorem turnsL_len (n : Nat) : (turnsL n).length = 2 * n + 1 := by
  induction n with
  | zero => rfl
  | succ n ih => simp only [turnsL, List.length_append, ih, List.length_cons, List.length_nil]; omega
/-- a block within a block -/
def inK (k' k : Bk) : Prop := k'.turn = k.turn ∧ k.x0 ≤ k'.x0 ∧ k'.x1 ≤ k.x1 ∧ k.y0 ≤ k'.y0 ∧ k'.y1 ≤ k.y1
theorem lo_ok {c : Cl} {k : Bk} (h : isBlk c k = true) (h1 : oneK k = false) : isBlk c (loK k) = true ∧ inK (loK k) k := by
  rw [isBlk_iff] at h ⊢
  have h2 : ¬ (k.x0 = k.x1 ∧ k.y0 = k.y1) := by
    intro e
    unfold oneK at h1
    rw [decide_eq_true e.1, decide_eq_true e.2] at h1
    cases h1
  unfold loK inK mid
  split <;> dsimp only <;> omega
theorem hi_ok {c : Cl} {k : Bk} (h : isBlk c k = true) (h1 : oneK k = false) : isBlk c (hiK k) = true ∧ inK (hiK k) k := by
  rw [isBlk_iff] at h ⊢
  have h2 : ¬ (k.x0 = k.x1 ∧ k.y0 = k.y1) := by
    intro e
    unfold oneK at h1
    rw [decide_eq_true e.1, decide_eq_true e.2] at h1
    cases h1
  unfold hiK inK mid
  split <;> dsimp only <;> omega
theorem has_halves {c : Cl} {k : Bk} (h : isBlk c k = true) (_ : oneK k = false) (v : Mv) : (if hasB (loK k) v then 1 else 0) + (if hasB (hiK k) v then 1 else 0) = (if hasB k v then 1 else 0) := by
  rw [isBlk_iff] at h
  simp only [hasB_iff]
  unfold loK hiK mid
  split <;> dsimp only <;> (repeat' split) <;> omega
theorem cells_halves {c : Cl} {k : Bk} (h : isBlk c k = true) (h1 : oneK k = false) : 1 ≤ cells (loK k) ∧ 1 ≤ cells (hiK k) ∧ cells (loK k) + cells (hiK k) = cells k := by
  have hl := (lo_ok h h1).1
  have hr := (hi_ok h h1).1
  rw [isBlk_iff] at h hl hr
  have key : ∀ a b : Int, 0 ≤ a → 0 ≤ b → ((a * b).toNat : Int) = a * b := fun a b ha hb => Int.toNat_of_nonneg (Int.mul_nonneg ha hb)
  have pos : ∀ a b : Int, 1 ≤ a → 1 ≤ b → 1 ≤ a * b := fun a b ha hb => by
    have := Int.mul_le_mul ha hb (by omega) (by omega)
    omega
  have p1 := pos ((loK k).x1 - (loK k).x0 + 1) ((loK k).y1 - (loK k).y0 + 1) (by omega) (by omega)
  have p2 := pos ((hiK k).x1 - (hiK k).x0 + 1) ((hiK k).y1 - (hiK k).y0 + 1) (by omega) (by omega)
  have e : ((loK k).x1 - (loK k).x0 + 1) * ((loK k).y1 - (loK k).y0 + 1) + ((hiK k).x1 - (hiK k).x0 + 1) * ((hiK k).y1 - (hiK k).y0 + 1) = (k.x1 - k.x0 + 1) * (k.y1 - k.y0 + 1) := by
    unfold loK hiK
    split <;> dsimp only
    · rw [← Int.add_mul]; congr 1; omega
    · rw [← Int.mul_add]; congr 1; omega
  unfold cells
  omega
theorem cells_pos {c : Cl} {k : Bk} (h : isBlk c k = true) : 1 ≤ cells k := by
  rw [isBlk_iff] at h
  unfold cells
  have := Int.mul_le_mul (show (1 : Int) ≤ k.x1 - k.x0 + 1 by omega) (show (1 : Int) ≤ k.y1 - k.y0 + 1 by omega) (by omega) (by omega)
  omega
theorem has_one {k : Bk} (h : oneK k = true) (v : Mv) : hasB k v = decide (mvK k = v) := by
  unfold oneK at h
  simp only [Bool.and_eq_true, decide_eq_true_eq] at h
  rw [Bool.eq_iff_iff, hasB_iff, decide_eq_true_eq]
  unfold mvK
  constructor
  · rintro ⟨h1, h2, h3⟩; exact Mv.ext_ h1 (by dsimp only; omega) (by dsimp only; omega)
  · rintro rfl; dsimp only; omega
theorem countP_erase {α : Type} (p : α → Bool) : ∀ (l : List α) (i : Nat) (x : α), l[i]? = some x → (l.eraseIdx i).countP p + (if p x then 1 else 0) = l.countP p := by
  intro l
  induction l with
  | nil => intro i x h; simp at h
  | cons y l ih =>
    intro i x h
    cases i with
    | zero =>
      simp only [List.getElem?_cons_zero, Option.some.injEq] at h
      subst h
      rw [List.eraseIdx_cons_zero, List.countP_cons]
    | succ i =>
      simp only [List.getElem?_cons_succ] at h
      rw [List.eraseIdx_cons_succ, List.countP_cons, List.countP_cons]
      have := ih i x h
      omega
theorem sum_erase (f : Rs → Nat) : ∀ (l : List Rs) (i : Nat) (x : Rs), l[i]? = some x → ((l.eraseIdx i).map f).sum + f x = (l.map f).sum := by
  intro l
  induction l with
  | nil => intro i x h; simp at h
  | cons y l ih =>
    intro i x h
    cases i with
    | zero =>
      simp only [List.getElem?_cons_zero, Option.some.injEq] at h
      subst h
      simp; omega
    | succ i =>
      simp only [List.getElem?_cons_succ] at h
      have := ih i x h
      simp only [List.eraseIdx_cons_succ, List.map_cons, List.sum_cons]
      omega
/-- what bounds and attempts promise -/
structure Prom (c : Cl) (bnd : Bk → Int) (tr : Mv → At) : Prop where
  mv : ∀ v, (tr v).mv = v
  within : ∀ k k', isBlk c k = true → isBlk c k' = true → inK k' k → bnd k' ≤ bnd k
  one : ∀ k v, isBlk c k = true → hasB k v = true → (tr v).score ≤ bnd k
/-- what holds of every state -/
structure Inv (c : Cl) (bnd : Bk → Int) (tr : Mv → At) (s : St) : Prop where
  att : ∀ a ∈ s.att, isMove c a.mv = true ∧ a = tr a.mv
  left : ∀ r ∈ s.left, isBlk c r.bk = true ∧ r.bound = bnd r.bk
  cov : ∀ v, cov s v = if isMove c v then 1 else 0
section
variable {c : Cl} {bnd : Bk → Int} {tr : Mv → At} {s : St}
theorem step_some (h : s.left ≠ []) : ∃ x, s.left[high s.left]? = some x ∧ x ∈ s.left ∧ ∀ y ∈ s.left, y.bound ≤ x.bound := by
  have hl := high_lt h
  refine ⟨_, List.getElem?_eq_getElem hl, List.getElem_mem hl, fun y hy => ?_⟩
  have := high_ge hy
  unfold boundAt at this
  rw [List.getElem?_eq_getElem hl] at this
  exact this
theorem mv_of_one {k : Bk} (h : isBlk c k = true) : isMove c (mvK k) = true := by
  rw [isBlk_iff] at h; rw [isMove_iff]; unfold mvK; dsimp only; omega
theorem inv_step (hp : Prom c bnd tr) (h : Inv c bnd tr s) (hne : s.left ≠ []) : Inv c bnd tr (stepS bnd tr s) ∧ meas (stepS bnd tr s).left + 1 = meas s.left := by
  obtain ⟨x, hx, hxm, -⟩ := step_some hne
  obtain ⟨hb, hbd⟩ := h.left x hxm
  unfold stepS
  rw [hx]
  dsimp only
  cases h1 : oneK x.bk
  · simp only [Bool.false_eq_true, if_false]
    obtain ⟨l1, l2⟩ := lo_ok hb h1
    obtain ⟨r1, r2⟩ := hi_ok hb h1
    refine ⟨⟨h.att, fun r hr => ?_, fun v => ?_⟩, ?_⟩
    · rcases List.mem_append.1 hr with hr | hr
      · exact h.left r (List.mem_of_mem_eraseIdx hr)
      · simp only [List.mem_cons, List.not_mem_nil, or_false] at hr
        rcases hr with rfl | rfl
        · exact ⟨l1, rfl⟩
        · exact ⟨r1, rfl⟩
    · rw [← h.cov v]
      unfold Go.Proofs.Ytchplmenkdghcaa.cov
      have e1 := countP_erase (fun r : Rs => hasB r.bk v) s.left _ x hx
      have e2 := has_halves hb h1 v
      simp only [List.countP_append, List.countP_cons, List.countP_nil]
      have q4 : (withB bnd (loK x.bk)).bk = loK x.bk := rfl
      have q5 : (withB bnd (hiK x.bk)).bk = hiK x.bk := rfl
      rw [q4, q5]
      cases q1 : hasB (loK x.bk) v <;> cases q2 : hasB (hiK x.bk) v <;> cases q3 : hasB x.bk v <;> simp [q1, q2, q3] at e1 e2 ⊢ <;> omega
    · have e1 := sum_erase (fun r => 2 * cells r.bk - 1) s.left _ x hx
      obtain ⟨c1, c2, c3⟩ := cells_halves hb h1
      unfold meas
      rw [← e1]
      simp only [List.map_append, List.sum_append, List.map_cons, List.map_nil, List.sum_cons, List.sum_nil]
      dsimp only [withB] at *
      omega
  · simp only [if_true]
    refine ⟨⟨fun a ha => ?_, fun r hr => h.left r (List.mem_of_mem_eraseIdx hr), fun v => ?_⟩, ?_⟩
    · rcases List.mem_append.1 ha with ha | ha
      · exact h.att a ha
      · obtain rfl : a = tr (mvK x.bk) := by simpa using ha
        rw [hp.mv]
        exact ⟨mv_of_one hb, rfl⟩
    · rw [← h.cov v]
      unfold Go.Proofs.Ytchplmenkdghcaa.cov
      have e1 := countP_erase (fun r : Rs => hasB r.bk v) s.left _ x hx
      have e2 := has_one h1 v
      simp only [List.countP_append, List.countP_cons, List.countP_nil, hp.mv]
      rw [e2] at e1
      omega
    · have e1 := sum_erase (fun r => 2 * cells r.bk - 1) s.left _ x hx
      unfold meas
      rw [← e1]
      have : cells x.bk = 1 := by
        unfold oneK at h1
        simp only [Bool.and_eq_true, decide_eq_true_eq] at h1
        unfold cells
        rw [h1.1, h1.2]
        simp
      omega
theorem score_step : scoreS s ≤ scoreS (stepS bnd tr s) := by
  unfold stepS
  split
  · exact Int.le_refl _
  · split
    · unfold scoreS; rw [topA_append]; omega
    · exact Int.le_refl _
theorem bound_step (hp : Prom c bnd tr) (h : Inv c bnd tr s) : boundS (stepS bnd tr s) ≤ boundS s := by
  by_cases hne : s.left = []
  · unfold stepS
    rw [hne]
    exact Int.le_refl _
  obtain ⟨x, hx, hxm, -⟩ := step_some hne
  obtain ⟨hb, hbd⟩ := h.left x hxm
  have h0 : scoreS s ≤ boundS s := topR_ge0 _ _
  have hx2 : x.bound ≤ boundS s := topR_ge hxm
  unfold stepS
  rw [hx]
  dsimp only
  cases h1 : oneK x.bk
  · simp only [Bool.false_eq_true, if_false]
    obtain ⟨l1, l2⟩ := lo_ok hb h1
    obtain ⟨r1, r2⟩ := hi_ok hb h1
    have a1 := hp.within _ _ hb l1 l2
    have a2 := hp.within _ _ hb r1 r2
    refine topR_le h0 fun r hr => ?_
    rcases List.mem_append.1 hr with hr | hr
    · exact topR_ge (List.mem_of_mem_eraseIdx hr)
    · simp only [List.mem_cons, List.not_mem_nil, or_false] at hr
      rcases hr with rfl | rfl
      · show bnd _ ≤ _; omega
      · show bnd _ ≤ _; omega
  · simp only [if_true]
    have a1 := hp.one x.bk (mvK x.bk) hb (by rw [has_one h1]; simp)
    refine topR_le ?_ fun r hr => topR_ge (List.mem_of_mem_eraseIdx hr)
    show topA (s.att ++ [tr (mvK x.bk)]) ≤ _
    rw [topA_append]
    have : topA s.att = scoreS s := rfl
    omega
theorem att_step : s.att <+: (stepS bnd tr s).att := by
  unfold stepS
  split
  · exact List.prefix_refl _
  · split
    · exact List.prefix_append _ _
    · exact List.prefix_refl _
theorem stop_no (h : stopS s = false) : s.left ≠ [] := by
  intro e
  unfold stopS at h
  rw [e] at h
  simp at h
theorem run_inv (hp : Prom c bnd tr) : ∀ (n : Nat) (s : St), Inv c bnd tr s → Inv c bnd tr (runS bnd tr n s) ∧ scoreS s ≤ scoreS (runS bnd tr n s) ∧ boundS (runS bnd tr n s) ≤ boundS s ∧ s.att <+: (runS bnd tr n s).att ∧ (meas s.left ≤ n → stopS (runS bnd tr n s) = true) := by
  intro n
  induction n with
  | zero =>
    intro s h
    refine ⟨h, Int.le_refl _, Int.le_refl _, List.prefix_refl _, fun hm => ?_⟩
    show stopS s = true
    match hl : s.left with
    | [] => unfold stopS; rw [hl]; simp
    | r :: l =>
      have h1 := cells_pos (h.left r (by rw [hl]; exact List.mem_cons_self)).1
      rw [hl] at hm
      simp only [meas, List.map_cons, List.sum_cons] at hm
      omega
  | succ n ih =>
    intro s h
    unfold runS
    cases hs : stopS s
    · simp only [Bool.false_eq_true, if_false]
      obtain ⟨i1, i2⟩ := inv_step hp h (stop_no hs)
      obtain ⟨j1, j2, j3, j4, j5⟩ := ih _ i1
      have k1 := score_step (bnd := bnd) (tr := tr) (s := s)
      have k2 := bound_step hp h
      exact ⟨j1, by omega, by omega, att_step.trans j4, fun hm => j5 (by omega)⟩
    · simp only [if_true]
      exact ⟨h, Int.le_refl _, Int.le_refl _, List.prefix_refl _, fun _ => hs⟩
theorem cov_start (hc : c.ok) (v : Mv) : cov (startS bnd c) v = if isMove c v then 1 else 0 := by
  have ht := hc.turns
  have key : ∀ l : List Int, l.Nodup → (l.map fun t => withB bnd (wholeK c t)).countP (fun r => hasB r.bk v) = if v.turn ∈ l ∧ (-c.shift ≤ v.dx ∧ v.dx ≤ c.shift) ∧ (-c.shift ≤ v.dy ∧ v.dy ≤ c.shift) then 1 else 0 := by
    intro l
    induction l with
    | nil => intro _; simp
    | cons t l ih =>
      intro hn
      obtain ⟨n1, n2⟩ := List.nodup_cons.1 hn
      rw [List.map_cons, List.countP_cons, ih n2]
      have e : hasB (withB bnd (wholeK c t)).bk v = decide (t = v.turn ∧ (-c.shift ≤ v.dx ∧ v.dx ≤ c.shift) ∧ (-c.shift ≤ v.dy ∧ v.dy ≤ c.shift)) := by
        rw [Bool.eq_iff_iff, hasB_iff, decide_eq_true_eq]; rfl
      rw [e]
      simp only [decide_eq_true_eq, List.mem_cons]
      by_cases h1 : t = v.turn
      · subst h1
        by_cases h2 : (-c.shift ≤ v.dx ∧ v.dx ≤ c.shift) ∧ (-c.shift ≤ v.dy ∧ v.dy ≤ c.shift)
        · rw [if_neg (fun h => n1 h.1), if_pos ⟨rfl, h2⟩, if_pos ⟨.inl rfl, h2⟩]
        · rw [if_neg (fun h => h2 h.2), if_neg (fun h => h2 h.2), if_neg (fun h => h2 h.2)]
      · have h3 : ∀ P : Prop, (v.turn = t ∨ v.turn ∈ l) ∧ P ↔ v.turn ∈ l ∧ P := fun P => ⟨fun h => ⟨h.1.resolve_left (fun e => h1 e.symm), h.2⟩, fun h => ⟨.inr h.1, h.2⟩⟩
        rw [if_neg (fun h : t = v.turn ∧ _ => h1 h.1)]
        simp only [h3, Nat.add_zero]
  unfold Go.Proofs.Ytchplmenkdghcaa.cov startS
  simp only [List.countP_nil, Nat.zero_add]
  rw [key _ (turnsL_nodup _)]
  have e1 : ((c.turns.toNat : Nat) : Int) = c.turns := Int.toNat_of_nonneg ht.1
  simp only [turnsL_mem, e1, isMove_iff]
theorem whole_ok (hc : c.ok) {t : Int} (h : t ∈ turnsL c.turns.toNat) : isBlk c (wholeK c t) = true := by
  have ht := hc.turns
  have hs := hc.shift
  rw [turnsL_mem] at h
  rw [isBlk_iff]
  unfold wholeK
  dsimp only
  omega
theorem inv_start (hc : c.ok) : Inv c bnd tr (startS bnd c) := by
  refine ⟨fun a ha => (by cases ha), fun r hr => ?_, cov_start hc⟩
  obtain ⟨t, ht, rfl⟩ := List.mem_map.1 hr
  exact ⟨whole_ok hc ht, rfl⟩
theorem meas_start (hc : c.ok) : meas (startS bnd c).left ≤ 1127 := by
  have ht := hc.turns
  have hs := hc.shift
  have hcell : ∀ t, cells (wholeK c t) ≤ 81 := by
    intro t
    have h5 : c.shift = 0 ∨ c.shift = 1 ∨ c.shift = 2 ∨ c.shift = 3 ∨ c.shift = 4 := by omega
    unfold cells wholeK
    dsimp only
    rcases h5 with h | h | h | h | h <;> rw [h] <;> decide
  have key : ∀ l : List Int, meas (l.map fun t => withB bnd (wholeK c t)) ≤ l.length * 161 := by
    intro l
    induction l with
    | nil => exact Nat.le_refl _
    | cons t l ih =>
      have := hcell t
      unfold meas at ih ⊢
      simp only [List.map_cons, List.sum_cons, List.length_cons]
      dsimp only [withB] at *
      omega
  have h2 := key (turnsL c.turns.toNat)
  have h3 := turnsL_len c.turns.toNat
  unfold startS
  dsimp only
  omega
/-- no attempt of a move of the class has a greater score than the bound -/
theorem inv_le (hp : Prom c bnd tr) (h : Inv c bnd tr s) {v : Mv} (hv : isMove c v = true) : (tr v).score ≤ boundS s := by
  have hc := h.cov v
  rw [if_pos hv] at hc
  unfold Go.Proofs.Ytchplmenkdghcaa.cov at hc
  have : 0 < s.att.countP (fun a => decide (a.mv = v)) ∨ 0 < s.left.countP (fun r => hasB r.bk v) := by omega
  rcases this with h1 | h1
  · obtain ⟨a, ha, hav⟩ := List.countP_pos_iff.1 h1
    obtain rfl : a.mv = v := by simpa using hav
    have e := (h.att a ha).2
    rw [← e]
    have := topA_ge ha
    have h0 : scoreS s ≤ boundS s := topR_ge0 _ _
    have : topA s.att = scoreS s := rfl
    omega
  · obtain ⟨r, hr, hrv⟩ := List.countP_pos_iff.1 h1
    obtain ⟨b1, b2⟩ := h.left r hr
    have := hp.one r.bk v b1 hrv
    have : r.bound ≤ boundS s := topR_ge hr
    omega
theorem inv_score (h : Inv c bnd tr s) : scoreS s = 0 ∨ ∃ v, isMove c v = true ∧ scoreS s = (tr v).score := by
  rcases topA_is s.att with e | ⟨a, ha, e⟩
  · exact .inl e
  · obtain ⟨h1, h2⟩ := h.att a ha
    exact .inr ⟨a.mv, h1, by rw [← h2]; exact e⟩
theorem stop_eq (h : stopS s = true) : boundS s = scoreS s := by
  unfold stopS at h
  rcases Bool.or_eq_true _ _ ▸ h with h | h
  · have : s.left = [] := by simpa using h
    unfold boundS
    rw [this]
    rfl
  · simp only [Bool.and_eq_true, decide_eq_true_eq] at h
    exact h.2
end
end Go.Proofs.Ytchplmenkdghcaa

