/- A trace, thinned, and its minutiae: moving it changes nothing else. Plain laws. -/
import Derived.Test.YtchplmenkdghcaaPrint
namespace Go.Proofs.Ytchplmenkdghcaa
open Go.RowKit

/-- whether a place of a trace of so many columns and rows is ridge -/
def isT (w h : Nat) (R : List Bool) (x y : Int) : Bool := inB x 0 (w - 1) && inB y 0 (h - 1) && R.getD (y * w + x).toNat false
def stX (d : Nat) : Int := [1, 1, 0, -1, -1, -1, 0, 1].getD d 0
def stY (d : Nat) : Int := [0, 1, 1, 1, 0, -1, -1, -1].getD d 0
def ringT (w h : Nat) (R : List Bool) (x y : Int) (d : Nat) : Bool := isT w h R (x + stX d) (y + stY d)
def ringL (w h : Nat) (R : List Bool) (x y : Int) : List Bool := (List.range 8).map (ringT w h R x y)
def turnsF (r : List Bool) : Nat := ((List.range 4).filter fun i => !r.getD (2 * i) false && (r.getD (2 * i + 1) false || r.getD ((2 * i + 2) % 8) false)).length
def crossF (r : List Bool) : Nat := ((List.range 8).filter fun d => !r.getD d false && r.getD ((d + 1) % 8) false).length
def lonelyF (r : List Bool) : Bool := decide ((r.filter id).length ≤ 1)
/-- the indices of the ridge pixels -/
def idxL (R : List Bool) : List Nat := (List.range R.length).filter fun i => R.getD i false
def takenL (w h d : Nat) (R : List Bool) : List Nat := (idxL R).filter fun i => !ringT w h R ((i % w : Nat) : Int) ((i / w : Nat) : Int) d
def goesB (w h : Nat) (R : List Bool) (i : Nat) : Bool :=
  let r := ringL w h R ((i % w : Nat) : Int) ((i / w : Nat) : Int)
  decide (turnsF r = 1) && !lonelyF r
def clearS (w h : Nat) (s : List Bool × Bool) (i : Nat) : List Bool × Bool := if goesB w h s.1 i then (s.1.set i false, true) else s
def passS (w h : Nat) (s : List Bool × Bool) (d : Nat) : List Bool × Bool := (takenL w h d s.1).foldl (clearS w h) s
def roundS (w h : Nat) (R : List Bool) : List Bool × Bool := [6, 2, 0, 4].foldl (passS w h) (R, false)
def thinN (w h : Nat) : Nat → List Bool → List Bool
  | 0, R => R
  | n + 1, R => if (roundS w h R).2 then thinN w h n (roundS w h R).1 else (roundS w h R).1
def minuF (w h : Nat) (R : List Bool) (i : Nat) : Option Mi :=
  let r := ringL w h R ((i % w : Nat) : Int) ((i / w : Nat) : Int)
  if crossF r = 1 then some ⟨(i % w : Nat), (i / w : Nat), 1, (r.findIdx id : Nat)⟩
  else if 2 < crossF r then some ⟨(i % w : Nat), (i / w : Nat), 2, (r.findIdx id : Nat)⟩ else none
def minuL (w h : Nat) (R : List Bool) : List Mi := (idxL R).filterMap (minuF w h R)
/-- a trace that is moved to the right and down, in a field -/
def padL (W H : Nat) (T : List Bool) (w h dx dy : Nat) : List Bool := (List.range (w * h)).map fun i => isT W H T (((i % w : Nat) : Int) - dx) (((i / w : Nat) : Int) - dy)
/-- R' is R, moved: no ridge is lost -/
structure Sh (w h dx dy : Nat) (R R' : List Bool) : Prop where
  l : R.length = w * h
  l' : R'.length = w * h
  at' : ∀ x y : Int, isT w h R' (x + dx) (y + dy) = isT w h R x y
theorem isT_in {w h : Nat} {R : List Bool} {x y : Int} (hh : isT w h R x y = true) : 0 ≤ x ∧ x < w ∧ 0 ≤ y ∧ y < h ∧ R.getD (y * w + x).toNat false = true := by
  simp only [isT, Bool.and_eq_true, inB_iff] at hh
  exact ⟨by omega, by omega, by omega, by omega, hh.2⟩
theorem isT_at {w h : Nat} {R : List Bool} {x y : Nat} (hx : x < w) (hy : y < h) : isT w h R x y = R.getD (y * w + x) false := by
  have e : ((y : Int) * w + x).toNat = y * w + x := by
    have : ((y : Int) * w + x) = ((y * w + x : Nat) : Int) := by simp
    rw [this, Int.toNat_natCast]
  unfold isT
  rw [inB_iff.2 (by omega), inB_iff.2 (by omega), e]
  rfl
theorem idx_lt {w h x y : Nat} (hx : x < w) (hy : y < h) : y * w + x < w * h := by
  have : (y + 1) * w ≤ h * w := Nat.mul_le_mul_right w hy
  rw [Nat.add_mul, Nat.one_mul, Nat.mul_comm h w] at this
  omega
theorem idx_mod {w x : Nat} (y : Nat) (hx : x < w) : (y * w + x) % w = x ∧ (y * w + x) / w = y := by
  refine ⟨by rw [Nat.mul_comm, Nat.mul_add_mod, Nat.mod_eq_of_lt hx], ?_⟩
  rw [Nat.mul_comm, Nat.mul_add_div (by omega), Nat.div_eq_of_lt hx, Nat.add_zero]
theorem idx_of {w h i : Nat} (hi : i < w * h) : i % w < w ∧ i / w < h ∧ i / w * w + i % w = i := by
  have hw : 0 < w := by
    rcases Nat.eq_zero_or_pos w with e | e
    · subst e; omega
    · exact e
  exact ⟨Nat.mod_lt _ hw, Nat.div_lt_of_lt_mul hi, Nat.div_add_mod' i w⟩
theorem mem_idx {R : List Bool} {i : Nat} : i ∈ idxL R ↔ i < R.length ∧ R.getD i false = true := by
  simp only [idxL, List.mem_filter, List.mem_range]
theorem sorted_eq : ∀ {l m : List Nat}, l.Pairwise (· < ·) → m.Pairwise (· < ·) → (∀ x, x ∈ l ↔ x ∈ m) → l = m
  | [], [], _, _, _ => rfl
  | [], b :: m, _, _, h => absurd ((h b).2 (by simp)) (by simp)
  | a :: l, [], _, _, h => absurd ((h a).1 (by simp)) (by simp)
  | a :: l, b :: m, hl, hm, h => by
    rw [List.pairwise_cons] at hl hm
    have e : a = b := by
      have h1 := (h a).1 (by simp)
      have h2 := (h b).2 (by simp)
      rcases List.mem_cons.1 h1 with h1 | h1
      · exact h1
      · rcases List.mem_cons.1 h2 with h2 | h2
        · exact h2.symm
        · have := hm.1 a h1
          have := hl.1 b h2
          omega
    subst e
    congr 1
    refine sorted_eq hl.2 hm.2 fun x => ⟨fun hx => ?_, fun hx => ?_⟩
    · rcases List.mem_cons.1 ((h x).1 (by simp [hx])) with e | e
      · have := hl.1 x hx; omega
      · exact e
    · rcases List.mem_cons.1 ((h x).2 (by simp [hx])) with e | e
      · have := hm.1 x hx; omega
      · exact e
theorem fm_congr {α β : Type} {f g : α → Option β} : ∀ {l : List α}, (∀ x ∈ l, f x = g x) → l.filterMap f = l.filterMap g
  | [], _ => rfl
  | a :: l, h => by
    rw [List.filterMap_cons, List.filterMap_cons, h a (by simp), fm_congr fun x hx => h x (by simp [hx])]
theorem idx_pair (R : List Bool) : (idxL R).Pairwise (· < ·) := List.Pairwise.filter _ List.pairwise_lt_range
section
variable {w h dx dy : Nat} {R R' : List Bool}
/-- an index, moved -/
def mvI (w dx dy i : Nat) : Nat := i + (dy * w + dx)
theorem Sh.good (s : Sh w h dx dy R R') {i : Nat} (hi : i ∈ idxL R) : i % w < w ∧ i / w < h ∧ i % w + dx < w ∧ i / w + dy < h ∧ i / w * w + i % w = i := by
  obtain ⟨h1, h2⟩ := mem_idx.1 hi
  rw [s.l] at h1
  obtain ⟨a, b, c⟩ := idx_of h1
  have e : isT w h R ((i % w : Nat) : Int) ((i / w : Nat) : Int) = true := by rw [isT_at a b, c]; exact h2
  rw [← s.at'] at e
  have := isT_in e
  exact ⟨a, b, by omega, by omega, c⟩
theorem mv_mod {i : Nat} (hx : i % w + dx < w) (e : i / w * w + i % w = i) : mvI w dx dy i % w = i % w + dx ∧ mvI w dx dy i / w = i / w + dy := by
  have h1 : mvI w dx dy i = (i / w + dy) * w + (i % w + dx) := by unfold mvI; rw [Nat.add_mul]; omega
  rw [h1]
  exact idx_mod _ hx
theorem Sh.idx (s : Sh w h dx dy R R') : idxL R' = (idxL R).map (mvI w dx dy) := by
  refine sorted_eq (idx_pair R') ?_ fun j => ⟨fun hj => ?_, fun hj => ?_⟩
  · rw [List.pairwise_map]
    exact (idx_pair R).imp fun hab => by unfold mvI; omega
  · obtain ⟨h1, h2⟩ := mem_idx.1 hj
    rw [s.l'] at h1
    obtain ⟨a, b, c⟩ := idx_of h1
    have e : isT w h R' ((j % w : Nat) : Int) ((j / w : Nat) : Int) = true := by rw [isT_at a b, c]; exact h2
    have e2 := s.at' (((j % w : Nat) : Int) - dx) (((j / w : Nat) : Int) - dy)
    rw [show ((j % w : Nat) : Int) - dx + dx = ((j % w : Nat) : Int) by omega, show ((j / w : Nat) : Int) - dy + dy = ((j / w : Nat) : Int) by omega, e] at e2
    have e3 := isT_in e2.symm
    have hx : dx ≤ j % w := by omega
    have hy : dy ≤ j / w := by omega
    have e4 : isT w h R ((j % w - dx : Nat) : Int) ((j / w - dy : Nat) : Int) = true := by
      rw [Int.ofNat_sub hx, Int.ofNat_sub hy]; exact e2.symm
    rw [isT_at (by omega) (by omega)] at e4
    refine List.mem_map.2 ⟨(j / w - dy) * w + (j % w - dx), mem_idx.2 ⟨by rw [s.l]; exact idx_lt (by omega) (by omega), e4⟩, ?_⟩
    unfold mvI
    have : (j / w - dy) * w + dy * w = j / w * w := by rw [← Nat.add_mul, Nat.sub_add_cancel hy]
    omega
  · obtain ⟨i, hi, rfl⟩ := List.mem_map.1 hj
    obtain ⟨a, b, c, d, e⟩ := s.good hi
    obtain ⟨h1, h2⟩ := mem_idx.1 hi
    have e1 : isT w h R ((i % w : Nat) : Int) ((i / w : Nat) : Int) = true := by rw [isT_at a b, e]; exact h2
    rw [← s.at', show ((i % w : Nat) : Int) + dx = ((i % w + dx : Nat) : Int) by omega, show ((i / w : Nat) : Int) + dy = ((i / w + dy : Nat) : Int) by omega, isT_at c d] at e1
    have h1 : mvI w dx dy i = (i / w + dy) * w + (i % w + dx) := by unfold mvI; rw [Nat.add_mul]; omega
    rw [h1]
    exact mem_idx.2 ⟨by rw [s.l']; exact idx_lt c d, e1⟩
theorem Sh.ring (s : Sh w h dx dy R R') (x y : Int) (d : Nat) : ringT w h R' (x + dx) (y + dy) d = ringT w h R x y d := by
  unfold ringT
  rw [← s.at']
  congr 1 <;> omega
theorem Sh.ringL (s : Sh w h dx dy R R') (x y : Int) : ringL w h R' (x + dx) (y + dy) = ringL w h R x y := by
  unfold Go.Proofs.Ytchplmenkdghcaa.ringL
  exact List.map_congr_left fun d _ => s.ring x y d
theorem Sh.at_mv (s : Sh w h dx dy R R') {i : Nat} (hx : i % w + dx < w) (e : i / w * w + i % w = i) : Go.Proofs.Ytchplmenkdghcaa.ringL w h R' ((mvI w dx dy i % w : Nat) : Int) ((mvI w dx dy i / w : Nat) : Int) = Go.Proofs.Ytchplmenkdghcaa.ringL w h R ((i % w : Nat) : Int) ((i / w : Nat) : Int) := by
  obtain ⟨e1, e2⟩ := mv_mod (dy := dy) hx e
  rw [e1, e2, ← s.ringL]
  congr 1 <;> omega
theorem Sh.ring_mv (s : Sh w h dx dy R R') (d : Nat) {i : Nat} (hx : i % w + dx < w) (e : i / w * w + i % w = i) : ringT w h R' ((mvI w dx dy i % w : Nat) : Int) ((mvI w dx dy i / w : Nat) : Int) d = ringT w h R ((i % w : Nat) : Int) ((i / w : Nat) : Int) d := by
  obtain ⟨e1, e2⟩ := mv_mod (dy := dy) hx e
  rw [e1, e2, ← s.ring]
  congr 1 <;> omega
theorem Sh.taken (s : Sh w h dx dy R R') (d : Nat) : takenL w h d R' = (takenL w h d R).map (mvI w dx dy) := by
  unfold takenL
  rw [s.idx, List.filter_map]
  congr 1
  refine List.filter_congr fun i hi => ?_
  obtain ⟨a, b, c, d', e⟩ := s.good hi
  show (!ringT w h R' _ _ d) = _
  rw [s.ring_mv d c e]
theorem Sh.goes (s : Sh w h dx dy R R') {i : Nat} (hx : i % w + dx < w) (e : i / w * w + i % w = i) : goesB w h R' (mvI w dx dy i) = goesB w h R i := by
  unfold goesB
  rw [s.at_mv hx e]
theorem isT_set {w h : Nat} {R : List Bool} (_hl : R.length = w * h) {a b : Nat} (ha : a < w) (hb : b < h) (x y : Int) : isT w h (R.set (b * w + a) false) x y = (isT w h R x y && !(decide (x = a) && decide (y = b))) := by
  unfold isT
  cases h1 : inB x 0 (w - 1)
  · rfl
  · cases h2 : inB y 0 (h - 1)
    · rfl
    · rw [inB_iff] at h1 h2
      obtain ⟨x, rfl⟩ : ∃ n : Nat, x = n := ⟨x.toNat, by omega⟩
      obtain ⟨y, rfl⟩ : ∃ n : Nat, y = n := ⟨y.toNat, by omega⟩
      have e : ((y : Int) * w + x).toNat = y * w + x := by
        have : ((y : Int) * w + x) = ((y * w + x : Nat) : Int) := by simp
        rw [this, Int.toNat_natCast]
      rw [e]
      simp only [Bool.true_and, List.getD_eq_getElem?_getD, List.getElem?_set]
      have hx : x < w := by omega
      have hy : y < h := by omega
      by_cases hq : b * w + a = y * w + x
      · have q1 := idx_mod b ha
        have q2 := idx_mod y hx
        rw [hq] at q1
        have ea : x = a := q2.1.symm.trans q1.1
        have eb : y = b := q2.2.symm.trans q1.2
        subst ea eb
        rw [if_pos rfl]
        split <;> simp
      · rw [if_neg hq]
        have : ¬ ((x : Int) = a ∧ (y : Int) = b) := fun ⟨u, v⟩ => hq (by rw [Int.natCast_inj.1 u, Int.natCast_inj.1 v])
        rw [show (decide ((x : Int) = a) && decide ((y : Int) = b)) = false by
          rw [← Bool.decide_and, decide_eq_false this]]
        simp
theorem Sh.set (s : Sh w h dx dy R R') {i : Nat} (ha : i % w < w) (hb : i / w < h) (hx : i % w + dx < w) (hy : i / w + dy < h) (e : i / w * w + i % w = i) : Sh w h dx dy (R.set i false) (R'.set (mvI w dx dy i) false) := by
  refine ⟨by rw [List.length_set, s.l], by rw [List.length_set, s.l'], fun x y => ?_⟩
  have h1 : mvI w dx dy i = (i / w + dy) * w + (i % w + dx) := by unfold mvI; rw [Nat.add_mul]; omega
  have h2 := isT_set s.l' hx hy (x + dx) (y + dy)
  have h3 := isT_set s.l ha hb x y
  rw [e] at h3
  rw [h1, h2, h3, s.at']
  congr 2
  rw [← Bool.decide_and, ← Bool.decide_and]
  exact decide_eq_decide.2 (by omega)
theorem Sh.fold : ∀ (l : List Nat) {R R' : List Bool} (c : Bool), Sh w h dx dy R R' → (∀ i ∈ l, i % w < w ∧ i / w < h ∧ i % w + dx < w ∧ i / w + dy < h ∧ i / w * w + i % w = i) →
    Sh w h dx dy (l.foldl (clearS w h) (R, c)).1 ((l.map (mvI w dx dy)).foldl (clearS w h) (R', c)).1 ∧ ((l.map (mvI w dx dy)).foldl (clearS w h) (R', c)).2 = (l.foldl (clearS w h) (R, c)).2
  | [], R, R', c, s, _ => ⟨s, rfl⟩
  | i :: l, R, R', c, s, hg => by
    obtain ⟨a, b, hx, hy, e⟩ := hg i (by simp)
    have hgo := s.goes (dy := dy) hx e
    simp only [List.map_cons, List.foldl_cons]
    unfold clearS
    dsimp only
    rw [hgo]
    cases goesB w h R i
    · exact Sh.fold l c s fun j hj => hg j (by simp [hj])
    · exact Sh.fold l true (s.set a b hx hy e) fun j hj => hg j (by simp [hj])
theorem Sh.pass (s : Sh w h dx dy R R') (c : Bool) (d : Nat) : Sh w h dx dy (passS w h (R, c) d).1 (passS w h (R', c) d).1 ∧ (passS w h (R', c) d).2 = (passS w h (R, c) d).2 := by
  unfold passS
  dsimp only
  rw [s.taken d]
  exact Sh.fold _ c s fun i hi => s.good (List.mem_filter.1 hi).1
theorem Sh.passes : ∀ (l : List Nat) {R R' : List Bool} (c : Bool), Sh w h dx dy R R' →
    Sh w h dx dy (l.foldl (passS w h) (R, c)).1 (l.foldl (passS w h) (R', c)).1 ∧ (l.foldl (passS w h) (R', c)).2 = (l.foldl (passS w h) (R, c)).2
  | [], R, R', c, s => ⟨s, rfl⟩
  | d :: l, R, R', c, s => by
    obtain ⟨h1, h2⟩ := s.pass c d
    have e1 : passS w h (R, c) d = ((passS w h (R, c) d).1, (passS w h (R, c) d).2) := rfl
    have e2 : passS w h (R', c) d = ((passS w h (R', c) d).1, (passS w h (R, c) d).2) := by rw [← h2]
    rw [List.foldl_cons, List.foldl_cons, e2, e1]
    exact Sh.passes l _ h1
theorem Sh.round (s : Sh w h dx dy R R') : Sh w h dx dy (roundS w h R).1 (roundS w h R').1 ∧ (roundS w h R').2 = (roundS w h R).2 := Sh.passes _ _ s
theorem Sh.thin : ∀ (n : Nat) {R R' : List Bool}, Sh w h dx dy R R' → Sh w h dx dy (thinN w h n R) (thinN w h n R')
  | 0, _, _, s => s
  | n + 1, R, R', s => by
    obtain ⟨h1, h2⟩ := s.round
    unfold thinN
    rw [h2]
    cases (roundS w h R).2
    · exact h1
    · exact Sh.thin n h1
/-- a point, moved -/
def mvM (dx dy : Nat) (m : Mi) : Mi := ⟨m.x + dx, m.y + dy, m.kind, m.dir⟩
theorem Sh.minu (s : Sh w h dx dy R R') : minuL w h R' = (minuL w h R).map (mvM dx dy) := by
  unfold minuL
  rw [s.idx, List.filterMap_map, List.map_filterMap]
  refine fm_congr fun i hi => ?_
  obtain ⟨a, b, hx, hy, e⟩ := s.good hi
  obtain ⟨e1, e2⟩ := mv_mod (dy := dy) hx e
  show minuF w h R' (mvI w dx dy i) = _
  unfold minuF
  dsimp only
  rw [s.at_mv hx e, e1, e2]
  split
  · simp only [Option.map_some]
    rw [show ((i % w + dx : Nat) : Int) = ((i % w : Nat) : Int) + dx by omega, show ((i / w + dy : Nat) : Int) = ((i / w : Nat) : Int) + dy by omega]
    rfl
  · split
    · simp only [Option.map_some]
      rw [show ((i % w + dx : Nat) : Int) = ((i % w : Nat) : Int) + dx by omega, show ((i / w + dy : Nat) : Int) = ((i / w : Nat) : Int) + dy by omega]
      rfl
    · rfl
end
theorem pad_at {W H w h : Nat} {T : List Bool} {dx dy : Nat} (x y : Int) : isT w h (padL W H T w h dx dy) x y = (inB x 0 (w - 1) && inB y 0 (h - 1) && isT W H T (x - dx) (y - dy)) := by
  cases h1 : inB x 0 (w - 1)
  · unfold isT; rw [h1]; rfl
  · cases h2 : inB y 0 (h - 1)
    · unfold isT; rw [h1, h2]; rfl
    · rw [inB_iff] at h1 h2
      obtain ⟨x, rfl⟩ : ∃ n : Nat, x = n := ⟨x.toNat, by omega⟩
      obtain ⟨y, rfl⟩ : ∃ n : Nat, y = n := ⟨y.toNat, by omega⟩
      have hx : x < w := by omega
      have hy : y < h := by omega
      rw [isT_at hx hy]
      have hlt := idx_lt hx hy
      obtain ⟨q1, q2⟩ := idx_mod y hx
      unfold padL
      rw [List.getD_eq_getElem?_getD, List.getElem?_map, List.getElem?_range hlt]
      simp only [Option.map_some, Option.getD_some, q1, q2, Bool.true_and]
theorem pad_sh (W H : Nat) (T : List Bool) (dx dy : Nat) : Sh (W + dx) (H + dy) dx dy (padL W H T (W + dx) (H + dy) 0 0) (padL W H T (W + dx) (H + dy) dx dy) := by
  refine ⟨by simp [padL], by simp [padL], fun x y => ?_⟩
  rw [pad_at, pad_at]
  rw [show x + (dx : Int) - dx = x by omega, show y + (dy : Int) - dy = y by omega, show x - ((0 : Nat) : Int) = x by omega, show y - ((0 : Nat) : Int) = y by omega]
  cases h : isT W H T x y
  · simp
  · have := isT_in h
    rw [inB_iff.2 (by omega), inB_iff.2 (by omega), inB_iff.2 (by omega), inB_iff.2 (by omega)]
/-- the minutiae of a trace, in order -/
theorem minu_ok {w h : Nat} {R : List Bool} (hl : R.length = w * h) : (∀ m ∈ minuL w h R, 0 ≤ m.x ∧ m.x < w ∧ 0 ≤ m.y ∧ m.y < h ∧ (m.kind = 1 ∨ m.kind = 2) ∧ 0 ≤ m.dir ∧ m.dir ≤ 7) ∧ (minuL w h R).Pairwise fun a b => a.y < b.y ∨ a.y = b.y ∧ a.x < b.x := by
  have hf : ∀ i m, minuF w h R i = some m → m.x = ((i % w : Nat) : Int) ∧ m.y = ((i / w : Nat) : Int) ∧ (m.kind = 1 ∨ m.kind = 2) ∧ 0 ≤ m.dir ∧ m.dir ≤ 7 := by
    intro i m hm
    unfold minuF at hm
    dsimp only at hm
    generalize hr : ringL w h R ((i % w : Nat) : Int) ((i / w : Nat) : Int) = r at hm
    have hr8 : r.length = 8 := by rw [← hr]; simp [ringL]
    have hd : crossF r ≠ 0 → r.findIdx id ≤ 7 := by
      intro hc
      have hex : ∃ d, d ∈ (List.range 8).filter fun d => !r.getD d false && r.getD ((d + 1) % 8) false := List.exists_mem_of_length_pos (Nat.pos_of_ne_zero hc)
      obtain ⟨d, hd⟩ := hex
      simp only [List.mem_filter, List.mem_range, Bool.and_eq_true] at hd
      have hlt : (d + 1) % 8 < r.length := by omega
      have ht : r[(d + 1) % 8] = true := by
        have := hd.2.2
        rw [List.getD_eq_getElem?_getD, List.getElem?_eq_getElem hlt] at this
        exact this
      have : r.findIdx id < r.length := List.findIdx_lt_length_of_exists ⟨_, List.getElem_mem hlt, ht⟩
      omega
    split at hm
    · injection hm with hm
      subst hm
      have := hd (by omega)
      exact ⟨rfl, rfl, .inl rfl, by show (0 : Int) ≤ ((r.findIdx id : Nat) : Int); omega, by show ((r.findIdx id : Nat) : Int) ≤ 7; omega⟩
    · split at hm
      · injection hm with hm
        subst hm
        have := hd (by omega)
        exact ⟨rfl, rfl, .inr rfl, by show (0 : Int) ≤ ((r.findIdx id : Nat) : Int); omega, by show ((r.findIdx id : Nat) : Int) ≤ 7; omega⟩
      · cases hm
  refine ⟨fun m hm => ?_, ?_⟩
  · obtain ⟨i, hi, hm⟩ := List.mem_filterMap.1 hm
    obtain ⟨e1, e2, e3, e4, e5⟩ := hf i m hm
    obtain ⟨h1, -⟩ := mem_idx.1 hi
    rw [hl] at h1
    obtain ⟨a, b, -⟩ := idx_of h1
    generalize i % w = p at *
    generalize i / w = q at *
    exact ⟨by omega, by omega, by omega, by omega, e3, e4, e5⟩
  · unfold minuL
    rw [List.pairwise_filterMap]
    refine List.Pairwise.imp_of_mem (fun {i j} hi hj hij => ?_) (idx_pair R)
    intro a ha b hb
    obtain ⟨a1, a2, -⟩ := hf i a ha
    obtain ⟨b1, b2, -⟩ := hf j b hb
    obtain ⟨h1, -⟩ := mem_idx.1 hi
    obtain ⟨h2, -⟩ := mem_idx.1 hj
    rw [hl] at h1 h2
    obtain ⟨-, -, ei⟩ := idx_of h1
    obtain ⟨jw, -, ej⟩ := idx_of h2
    rw [a1, a2, b1, b2]
    rcases Nat.lt_trichotomy (i / w) (j / w) with hq | hq | hq
    · left; omega
    · right
      refine ⟨by omega, ?_⟩
      rw [hq] at ei
      omega
    · exfalso
      have : j / w * w + w ≤ i / w * w := by
        have := Nat.mul_le_mul_right w hq
        rw [Nat.succ_mul] at this
        exact this
      omega
end Go.Proofs.Ytchplmenkdghcaa
/- A round of the thinning that changes something leaves fewer ridge pixels. Plain laws. -/
namespace Go.Proofs.Ytchplmenkdghcaa
open Go.RowKit
def cntT (R : List Bool) : Nat := (R.filter id).length
theorem cntT_set : ∀ {R : List Bool} {i : Nat}, R.getD i false = true → cntT (R.set i false) + 1 = cntT R
  | [], i, h => by simp at h
  | b :: R, 0, h => by
    obtain rfl : b = true := by simpa using h
    simp [cntT]
  | b :: R, i + 1, h => by
    have ih := cntT_set (R := R) (i := i) (by simpa using h)
    unfold cntT at *
    cases b <;> simp [List.set_cons_succ] <;> omega
/-- what a part of a round keeps -/
structure Fewer (s s' : List Bool × Bool) : Prop where
  len : s'.1.length = s.1.length
  le : cntT s'.1 ≤ cntT s.1
  lt : s'.2 = true → s.2 = true ∨ cntT s'.1 < cntT s.1
theorem Fewer.refl (s : List Bool × Bool) : Fewer s s := ⟨rfl, Nat.le_refl _, .inl⟩
theorem Fewer.trans {a b c : List Bool × Bool} (h : Fewer a b) (k : Fewer b c) : Fewer a c :=
  ⟨k.len.trans h.len, Nat.le_trans k.le h.le, fun hc => by
    rcases k.lt hc with h1 | h1
    · rcases h.lt h1 with h2 | h2
      · exact .inl h2
      · exact .inr (Nat.lt_of_le_of_lt k.le h2)
    · exact .inr (Nat.lt_of_lt_of_le h1 h.le)⟩
theorem clear_fewer (w h : Nat) (s : List Bool × Bool) (i : Nat) (hi : s.1.getD i false = true) : Fewer s (clearS w h s i) := by
  unfold clearS
  split
  · have := cntT_set hi
    exact ⟨by simp, by show cntT (s.1.set i false) ≤ _; omega, fun _ => .inr (by show cntT (s.1.set i false) < _; omega)⟩
  · exact .refl s
theorem clear_keeps (w h : Nat) (s : List Bool × Bool) (i j : Nat) (hij : i ≠ j) (hj : s.1.getD j false = true) : (clearS w h s i).1.getD j false = true := by
  unfold clearS
  split
  · show (s.1.set i false).getD j false = true
    rw [List.getD_eq_getElem?_getD, List.getElem?_set_ne hij, ← List.getD_eq_getElem?_getD]
    exact hj
  · exact hj
theorem clears_fewer (w h : Nat) : ∀ (l : List Nat) (s : List Bool × Bool), l.Nodup → (∀ i ∈ l, s.1.getD i false = true) → Fewer s (l.foldl (clearS w h) s)
  | [], s, _, _ => .refl s
  | i :: l, s, hn, hl => by
    rw [List.nodup_cons] at hn
    refine (clear_fewer w h s i (hl i (by simp))).trans (clears_fewer w h l _ hn.2 fun j hj => ?_)
    exact clear_keeps w h s i j (fun e => hn.1 (e ▸ hj)) (hl j (by simp [hj]))
theorem nodup_idx (R : List Bool) : (idxL R).Nodup := List.Pairwise.imp (fun h => by omega) (idx_pair R)
theorem pass_fewer (w h : Nat) (s : List Bool × Bool) (d : Nat) : Fewer s (passS w h s d) := by
  refine clears_fewer w h _ s ?_ fun i hi => ?_
  · exact List.Pairwise.filter _ (nodup_idx s.1)
  · exact (mem_idx.1 (List.mem_filter.1 hi).1).2
theorem passes_fewer (w h : Nat) : ∀ (l : List Nat) (s : List Bool × Bool), Fewer s (l.foldl (passS w h) s)
  | [], s => .refl s
  | d :: l, s => (pass_fewer w h s d).trans (passes_fewer w h l _)
theorem round_fewer (w h : Nat) (R : List Bool) : Fewer (R, false) (roundS w h R) := passes_fewer w h _ _
theorem cntT_le (R : List Bool) : cntT R ≤ R.length := List.length_filter_le _ _
/-- enough fuel -/
theorem thin_more (w h : Nat) : ∀ (n m : Nat) (R : List Bool), cntT R < n → n ≤ m → thinN w h m R = thinN w h n R
  | 0, _, _, hn, _ => by omega
  | n + 1, 0, _, _, hm => by omega
  | n + 1, m + 1, R, hn, hm => by
    unfold thinN
    split
    · rename_i hc
      have := (round_fewer w h R).lt hc
      rcases this with h1 | h1
      · cases h1
      · exact thin_more w h n m _ (by simp only at h1; omega) (by omega)
    · rfl
end Go.Proofs.Ytchplmenkdghcaa
