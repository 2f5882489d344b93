/- What the dealer may have drawn so that a party says anything: plain laws. -/
import Derived.Test.YtfdcapblgdlkaaaPlayed
import Derived.Test.YtfdcapblgdlkaaaBlindLaw
namespace Go.Proofs.Ytfdcapblgdlkaaa
open Go.RowKit

/-- the first k masks are chosen anew -/
def mixF (f g : Nat → Int) (k : Nat) : Nat → Int := fun i => if i < k then f i else g i
def uniM (s : Nat → Int) (x : BitVec 16) : Nat → Int := fun i => (bitI x i - s i % 31 + 31) % 31
def uniS (s : Nat → Int) : Nat → Int := fun i => s i % 31
def uniA (d : Dl) (s : Nat → Int) (x : BitVec 16) (k : Nat) : Dl := { d with a := mixF (uniM s x) d.a k }
def uniB (d : Dl) (s : Nat → Int) (y : BitVec 16) (k : Nat) : Dl := { d with b := mixF (uniM s y) d.b k }
def withRC (d : Dl) (r : Int) : Dl := { d with rc := r }
def withRS (d : Dl) (r : Int) : Dl := { d with rs := r }
theorem uniM_in (s : Nat → Int) (x : BitVec 16) (i : Nat) : 0 ≤ uniM s x i ∧ uniM s x i < 31 := by unfold uniM; omega
theorem mixF_zero (f g : Nat → Int) : mixF f g 0 = g := by funext i; simp [mixF]
theorem mixF_lt (f g : Nat → Int) {k i : Nat} (h : i < k) : mixF f g k i = f i := if_pos h
theorem mixF_ge (f g : Nat → Int) {k i : Nat} (h : k ≤ i) : mixF f g k i = g i := if_neg (by omega)
theorem mixF_fine (s : Nat → Int) (x : BitVec 16) (g : Nat → Int) (hg : ∀ i, i < 15 → 0 ≤ g i ∧ g i < 31) (k : Nat) : ∀ i, i < 15 → 0 ≤ mixF (uniM s x) g k i ∧ mixF (uniM s x) g k i < 31 := by
  intro i hi
  unfold mixF
  split
  · exact uniM_in s x i
  · exact hg i hi
theorem uniA_fine {d : Dl} (h : d.fine) (s : Nat → Int) (x : BitVec 16) (k : Nat) : (uniA d s x k).fine := ⟨mixF_fine s x d.a h.a k, h.b, h.u, h.rc, h.rs, h.t⟩
theorem uniB_fine {d : Dl} (h : d.fine) (s : Nat → Int) (x : BitVec 16) (k : Nat) : (uniB d s x k).fine := ⟨h.a, mixF_fine s x d.b h.b k, h.u, h.rc, h.rs, h.t⟩
theorem withRC_fine {d : Dl} (h : d.fine) {r : Int} (hr : 0 ≤ r ∧ r < 31) : (withRC d r).fine := ⟨h.a, h.b, h.u, hr, h.rs, h.t⟩
theorem withRS_fine {d : Dl} (h : d.fine) {r : Int} (hr : 0 ≤ r ∧ r < 31) : (withRS d r).fine := ⟨h.a, h.b, h.u, h.rc, hr, h.t⟩
theorem A15_congr {f g : Nat → Int} (h : ∀ i, i < 15 → f i = g i) : A15 f = A15 g := by
  apply Array.ext_getElem?
  intro j
  rcases Nat.lt_or_ge j 15 with hj | hj
  · rw [A15_at _ _ hj, A15_at _ _ hj, h j hj]
  · rw [Array.getElem?_eq_none (by rw [A15_size]; omega), Array.getElem?_eq_none (by rw [A15_size]; omega)]
theorem at15 {f g : Nat → Int} (h : A15 f = A15 g) (j : Nat) (hj : j < 15) : some (Value.int .u8 (f j)) = some (u8V g j) := by
  rw [← A15_at f j hj, h]
  exact A15_at g j hj
/-- what is said first -/
theorem uniA_says (d : Dl) (lim : Int) (s : Nat → Int) (x y : BitVec 16) : A15 (talkOf (ptyP (uniA d s x 15)) (ptyQ (uniA d s x 15) lim) x y).d = A15 (uniS s) := by
  refine A15_congr fun i hi => ?_
  show (bitI x i - mixF (uniM s x) d.a 15 i) % 31 = s i % 31
  rw [mixF_lt _ _ hi]
  unfold uniM
  omega
theorem uniB_says (d : Dl) (lim : Int) (s : Nat → Int) (x y : BitVec 16) : A15 (talkOf (ptyP (uniB d s y 15)) (ptyQ (uniB d s y 15) lim) x y).e = A15 (uniS s) := by
  refine A15_congr fun i hi => ?_
  show (bitI y i - mixF (uniM s y) d.b 15 i) % 31 = s i % 31
  rw [mixF_lt _ _ hi]
  unfold uniM
  omega
/-- the shift that makes what is said last -/
def shiftBy (r by' : Int) : Int := (r + by' + 31) % 31
theorem withRC_says (d : Dl) (lim : Int) (x y : BitVec 16) (z : Int) : (talkOf (ptyP (withRC d (shiftBy d.rc (z % 31 - sayC (ptyP d) (ptyQ d lim) x y)))) (ptyQ (withRC d (shiftBy d.rc (z % 31 - sayC (ptyP d) (ptyQ d lim) x y))) lim) x y).c = z % 31 := by
  show sayC (ptyP (withRC d (shiftBy d.rc (z % 31 - sayC (ptyP d) (ptyQ d lim) x y)))) (ptyQ (withRC d (shiftBy d.rc (z % 31 - sayC (ptyP d) (ptyQ d lim) x y))) lim) x y = z % 31
  have e1 := sayC_is d lim x y
  have e2 := sayC_is (withRC d (shiftBy d.rc (z % 31 - sayC (ptyP d) (ptyQ d lim) x y))) lim x y
  have e3 : cntS (bitI x) (prodP (ptyP (withRC d (shiftBy d.rc (z % 31 - sayC (ptyP d) (ptyQ d lim) x y)))) (ptyQ (withRC d (shiftBy d.rc (z % 31 - sayC (ptyP d) (ptyQ d lim) x y))) lim) y) 15 = cntS (bitI x) (prodP (ptyP d) (ptyQ d lim) y) 15 := rfl
  rw [e2, e3]
  show (cntS (bitI x) (prodP (ptyP d) (ptyQ d lim) y) 15 % 31 + shiftBy d.rc (z % 31 - sayC (ptyP d) (ptyQ d lim) x y)) % 31 = z % 31
  rw [e1]
  unfold shiftBy
  generalize cntS (bitI x) (prodP (ptyP d) (ptyQ d lim) y) 15 = n
  omega
theorem withRS_says (d : Dl) (lim : Int) (x y : BitVec 16) (z : Int) : (talkOf (ptyP (withRS d (shiftBy d.rs (z % 31 - sayS (ptyP d) (ptyQ d lim) x y)))) (ptyQ (withRS d (shiftBy d.rs (z % 31 - sayS (ptyP d) (ptyQ d lim) x y))) lim) x y).s = z % 31 := by
  show sayS (ptyP (withRS d (shiftBy d.rs (z % 31 - sayS (ptyP d) (ptyQ d lim) x y)))) (ptyQ (withRS d (shiftBy d.rs (z % 31 - sayS (ptyP d) (ptyQ d lim) x y))) lim) x y = z % 31
  have e1 := sayS_is d lim x y
  have e2 := sayS_is (withRS d (shiftBy d.rs (z % 31 - sayS (ptyP d) (ptyQ d lim) x y))) lim x y
  have e3 : cntS (bitI y) (prodQ (ptyP (withRS d (shiftBy d.rs (z % 31 - sayS (ptyP d) (ptyQ d lim) x y)))) (ptyQ (withRS d (shiftBy d.rs (z % 31 - sayS (ptyP d) (ptyQ d lim) x y))) lim) x y) 15 = cntS (bitI y) (prodQ (ptyP d) (ptyQ d lim) x y) 15 := rfl
  rw [e2, e3]
  show (cntS (bitI y) (prodQ (ptyP d) (ptyQ d lim) x y) 15 % 31 + shiftBy d.rs (z % 31 - sayS (ptyP d) (ptyQ d lim) x y)) % 31 = z % 31
  rw [e1]
  unfold shiftBy
  generalize cntS (bitI y) (prodQ (ptyP d) (ptyQ d lim) x y) 15 = n
  omega
/-- all else stays -/
theorem withRC_else (d : Dl) (lim r : Int) (x y : BitVec 16) : (talkOf (ptyP (withRC d r)) (ptyQ (withRC d r) lim) x y).d = (talkOf (ptyP d) (ptyQ d lim) x y).d ∧ (talkOf (ptyP (withRC d r)) (ptyQ (withRC d r) lim) x y).e = (talkOf (ptyP d) (ptyQ d lim) x y).e ∧ (talkOf (ptyP (withRC d r)) (ptyQ (withRC d r) lim) x y).s = (talkOf (ptyP d) (ptyQ d lim) x y).s := ⟨rfl, rfl, rfl⟩
theorem withRS_else (d : Dl) (lim r : Int) (x y : BitVec 16) : (talkOf (ptyP (withRS d r)) (ptyQ (withRS d r) lim) x y).d = (talkOf (ptyP d) (ptyQ d lim) x y).d ∧ (talkOf (ptyP (withRS d r)) (ptyQ (withRS d r) lim) x y).e = (talkOf (ptyP d) (ptyQ d lim) x y).e ∧ (talkOf (ptyP (withRS d r)) (ptyQ (withRS d r) lim) x y).c = (talkOf (ptyP d) (ptyQ d lim) x y).c := ⟨rfl, rfl, rfl⟩
theorem uniA_zero (d : Dl) (s : Nat → Int) (x : BitVec 16) : uniA d s x 0 = d := by unfold uniA; rw [mixF_zero]
theorem uniB_zero (d : Dl) (s : Nat → Int) (x : BitVec 16) : uniB d s x 0 = d := by unfold uniB; rw [mixF_zero]
theorem A15_mix (f g : Nat → Int) (k : Nat) (hk : k < 15) : (A15 (mixF f g k)).setIfInBounds k (.int .u8 (f k)) = A15 (mixF f g (k + 1)) := by
  apply Array.ext_getElem?
  intro j
  rcases Nat.lt_or_ge j 15 with hj | hj
  · rw [A15_at _ _ hj]
    by_cases e : k = j
    · subst e
      rw [Array.getElem?_setIfInBounds_self_of_lt (by rw [A15_size]; exact hk), mixF_lt _ _ (by omega)]
    · rw [Array.getElem?_setIfInBounds_ne e, A15_at _ _ hj]
      congr 2
      unfold mixF
      by_cases h : j < k
      · rw [if_pos h, if_pos (by omega)]
      · rw [if_neg h, if_neg (by omega)]
  · rw [Array.getElem?_eq_none (by rw [Array.size_setIfInBounds, A15_size]; omega), Array.getElem?_eq_none (by rw [A15_size]; omega)]
theorem dl_parts {c : Array Value} {d : Dl} (hs : c.size = 78) (ha : ∀ i, i < 15 → c[i]? = some (.int .u8 (d.a i))) (hb : ∀ i, i < 15 → c[15 + i]? = some (.int .u8 (d.b i))) (hu : ∀ i, i < 15 → c[30 + i]? = some (.int .u8 (d.u i))) (hrc : c[45]? = some (.int .u8 d.rc)) (hrs : c[46]? = some (.int .u8 d.rs)) (ht : ∀ i, i < 31 → c[47 + i]? = some (.int .u32 (d.t i))) : c = d.cells := by
  apply Array.ext_getElem?
  intro j
  rcases Nat.lt_or_ge j 15 with h | h
  · rw [Dl.at_a _ j h, ha j h]
  · rcases Nat.lt_or_ge j 30 with h' | h'
    · obtain ⟨i, rfl⟩ : ∃ i, j = 15 + i := ⟨j - 15, by omega⟩
      rw [Dl.at_b _ i (by omega), hb i (by omega)]
    · rcases Nat.lt_or_ge j 45 with h'' | h''
      · obtain ⟨i, rfl⟩ : ∃ i, j = 30 + i := ⟨j - 30, by omega⟩
        rw [Dl.at_u _ i (by omega), hu i (by omega)]
      · by_cases e : j = 45
        · subst e; rw [Dl.at_rc, hrc]
        · by_cases e2 : j = 46
          · subst e2; rw [Dl.at_rs, hrs]
          · rcases Nat.lt_or_ge j 78 with h7 | h7
            · obtain ⟨i, rfl⟩ : ∃ i, j = 47 + i := ⟨j - 47, by omega⟩
              rw [Dl.at_t _ i (by omega), ht i (by omega)]
            · rw [Array.getElem?_eq_none (by omega), Array.getElem?_eq_none (by rw [Dl.size]; omega)]
theorem mix_step (f g : Nat → Int) {k i : Nat} (h : k ≠ i) : mixF f g k i = mixF f g (k + 1) i := by
  unfold mixF
  by_cases hj : i < k
  · rw [if_pos hj, if_pos (by omega)]
  · rw [if_neg hj, if_neg (by omega)]
theorem uniA_set (d : Dl) (s : Nat → Int) (x : BitVec 16) (k : Nat) (hk : k < 15) : (uniA d s x k).cells.setIfInBounds k (.int .u8 (uniM s x k)) = (uniA d s x (k + 1)).cells := by
  refine dl_parts (by rw [Array.size_setIfInBounds, Dl.size]) (fun i hi => ?_) (fun i hi => ?_) (fun i hi => ?_) ?_ ?_ (fun i hi => ?_)
  · by_cases e : k = i
    · subst e
      rw [Array.getElem?_setIfInBounds_self_of_lt (by rw [Dl.size]; omega)]
      show _ = some (Value.int .u8 (mixF (uniM s x) d.a (k + 1) k))
      rw [mixF_lt _ _ (by omega)]
    · rw [Array.getElem?_setIfInBounds_ne e, Dl.at_a _ i hi]
      show some (Value.int .u8 (mixF (uniM s x) d.a k i)) = some (Value.int .u8 (mixF (uniM s x) d.a (k + 1) i))
      rw [mix_step _ _ e]
  · rw [Array.getElem?_setIfInBounds_ne (by omega), Dl.at_b _ i hi]; rfl
  · rw [Array.getElem?_setIfInBounds_ne (by omega), Dl.at_u _ i hi]; rfl
  · rw [Array.getElem?_setIfInBounds_ne (by omega), Dl.at_rc]; rfl
  · rw [Array.getElem?_setIfInBounds_ne (by omega), Dl.at_rs]; rfl
  · rw [Array.getElem?_setIfInBounds_ne (by omega), Dl.at_t _ i hi]; rfl
theorem uniB_set (d : Dl) (s : Nat → Int) (x : BitVec 16) (k : Nat) (hk : k < 15) : (uniB d s x k).cells.setIfInBounds (15 + k) (.int .u8 (uniM s x k)) = (uniB d s x (k + 1)).cells := by
  refine dl_parts (by rw [Array.size_setIfInBounds, Dl.size]) (fun i hi => ?_) (fun i hi => ?_) (fun i hi => ?_) ?_ ?_ (fun i hi => ?_)
  · rw [Array.getElem?_setIfInBounds_ne (by omega), Dl.at_a _ i hi]; rfl
  · by_cases e : k = i
    · subst e
      rw [Array.getElem?_setIfInBounds_self_of_lt (by rw [Dl.size]; omega)]
      show _ = some (Value.int .u8 (mixF (uniM s x) d.b (k + 1) k))
      rw [mixF_lt _ _ (by omega)]
    · rw [Array.getElem?_setIfInBounds_ne (by omega), Dl.at_b _ i hi]
      show some (Value.int .u8 (mixF (uniM s x) d.b k i)) = some (Value.int .u8 (mixF (uniM s x) d.b (k + 1) i))
      rw [mix_step _ _ e]
  · rw [Array.getElem?_setIfInBounds_ne (by omega), Dl.at_u _ i hi]; rfl
  · rw [Array.getElem?_setIfInBounds_ne (by omega), Dl.at_rc]; rfl
  · rw [Array.getElem?_setIfInBounds_ne (by omega), Dl.at_rs]; rfl
  · rw [Array.getElem?_setIfInBounds_ne (by omega), Dl.at_t _ i hi]; rfl
theorem withRC_set (d : Dl) (r : Int) : d.cells.setIfInBounds 45 (.int .u8 r) = (withRC d r).cells := by
  refine dl_parts (by rw [Array.size_setIfInBounds, Dl.size]) (fun i hi => ?_) (fun i hi => ?_) (fun i hi => ?_) ?_ ?_ (fun i hi => ?_)
  · rw [Array.getElem?_setIfInBounds_ne (by omega), Dl.at_a _ i hi]; rfl
  · rw [Array.getElem?_setIfInBounds_ne (by omega), Dl.at_b _ i hi]; rfl
  · rw [Array.getElem?_setIfInBounds_ne (by omega), Dl.at_u _ i hi]; rfl
  · rw [Array.getElem?_setIfInBounds_self_of_lt (by rw [Dl.size]; omega)]; rfl
  · rw [Array.getElem?_setIfInBounds_ne (by omega), Dl.at_rs]; rfl
  · rw [Array.getElem?_setIfInBounds_ne (by omega), Dl.at_t _ i hi]; rfl
theorem withRS_set (d : Dl) (r : Int) : d.cells.setIfInBounds 46 (.int .u8 r) = (withRS d r).cells := by
  refine dl_parts (by rw [Array.size_setIfInBounds, Dl.size]) (fun i hi => ?_) (fun i hi => ?_) (fun i hi => ?_) ?_ ?_ (fun i hi => ?_)
  · rw [Array.getElem?_setIfInBounds_ne (by omega), Dl.at_a _ i hi]; rfl
  · rw [Array.getElem?_setIfInBounds_ne (by omega), Dl.at_b _ i hi]; rfl
  · rw [Array.getElem?_setIfInBounds_ne (by omega), Dl.at_u _ i hi]; rfl
  · rw [Array.getElem?_setIfInBounds_ne (by omega), Dl.at_rc]; rfl
  · rw [Array.getElem?_setIfInBounds_self_of_lt (by rw [Dl.size]; omega)]; rfl
  · rw [Array.getElem?_setIfInBounds_ne (by omega), Dl.at_t _ i hi]; rfl
/-- both games of the statement, in short: the talks T and V, the shift r -/
structure UniRun (d1 : Dl) (d2 : Dl) (lim : Int) (x y : BitVec 16) (T V : Tlk) (P Q R S : Pty) : Prop where
  one : ∀ w, Calls Try.prog 48 #[d1.val, .int .i64 lim, .int .u16 (uv x), .int .u16 (uv y)] w fun e w' => e = .returned (.tuple #[P.val, Q.val, .agg T.cells, .bool true]) ∧ Ext w w'
  two : ∀ w, Calls Try.prog 48 #[d2.val, .int .i64 lim, .int .u16 (uv x), .int .u16 (uv y)] w fun e w' => e = .returned (.tuple #[R.val, S.val, .agg V.cells, .bool true]) ∧ Ext w w'
  ok : T.ok
  d : V.d = T.d
  e : V.e = T.e
  m : V.m = T.m
theorem uniB_run {d : Dl} (hd : d.fine) {lim : Int} (hl : 0 ≤ lim ∧ lim ≤ 15) {x y : BitVec 16} (hx : fitB 15 x = true) (hy : fitB 15 y = true) (s : Nat → Int) (z : Int) :
    ∃ T V P Q R S, UniRun (uniB d s y 15) (withRS (uniB d s y 15) ((d.rs + (z % 31 - T.s) + 31) % 31)) lim x y T V P Q R S ∧ A15 T.e = A15 (uniS s) ∧ V.s = z % 31 ∧ V.c = T.c ∧ 0 ≤ T.s ∧ T.s < 31 ∧ 0 ≤ T.c ∧ T.c < 31 := by
  have hu := uniB_fine hd s y 15
  have h1 := sayC_in (ptyP (uniB d s y 15)) (ptyQ (uniB d s y 15) lim) x y
  have h2 := sayS_in (ptyP (uniB d s y 15)) (ptyQ (uniB d s y 15) lim) x y
  have hf := withRS_fine hu (r := shiftBy d.rs (z % 31 - sayS (ptyP (uniB d s y 15)) (ptyQ (uniB d s y 15) lim) x y)) (by unfold shiftBy; omega)
  obtain ⟨s4, s5, s6⟩ := withRS_else (uniB d s y 15) lim (shiftBy d.rs (z % 31 - sayS (ptyP (uniB d s y 15)) (ptyQ (uniB d s y 15) lim) x y)) x y
  exact ⟨_, _, _, _, _, _, ⟨fun w => played_any _ lim x y hu hl hx hy w, fun w => played_any _ lim x y hf hl hx hy w, talk_ok _ _ x y, s4, s5, (match_law _ hf.ok lim x y).trans (match_law _ hu.ok lim x y).symm⟩, uniB_says d lim s x y, withRS_says (uniB d s y 15) lim x y z, s6, h2.1, h2.2, h1.1, h1.2⟩
theorem uniA_run {d : Dl} (hd : d.fine) {lim : Int} (hl : 0 ≤ lim ∧ lim ≤ 15) {x y : BitVec 16} (hx : fitB 15 x = true) (hy : fitB 15 y = true) (s : Nat → Int) (z : Int) :
    ∃ T V P Q R S, UniRun (uniA d s x 15) (withRC (uniA d s x 15) ((d.rc + (z % 31 - T.c) + 31) % 31)) lim x y T V P Q R S ∧ A15 T.d = A15 (uniS s) ∧ V.c = z % 31 ∧ V.s = T.s ∧ 0 ≤ T.s ∧ T.s < 31 ∧ 0 ≤ T.c ∧ T.c < 31 := by
  have hu := uniA_fine hd s x 15
  have h1 := sayC_in (ptyP (uniA d s x 15)) (ptyQ (uniA d s x 15) lim) x y
  have h2 := sayS_in (ptyP (uniA d s x 15)) (ptyQ (uniA d s x 15) lim) x y
  have hf := withRC_fine hu (r := shiftBy d.rc (z % 31 - sayC (ptyP (uniA d s x 15)) (ptyQ (uniA d s x 15) lim) x y)) (by unfold shiftBy; omega)
  obtain ⟨s4, s5, s6⟩ := withRC_else (uniA d s x 15) lim (shiftBy d.rc (z % 31 - sayC (ptyP (uniA d s x 15)) (ptyQ (uniA d s x 15) lim) x y)) x y
  exact ⟨_, _, _, _, _, _, ⟨fun w => played_any _ lim x y hu hl hx hy w, fun w => played_any _ lim x y hf hl hx hy w, talk_ok _ _ x y, s4, s5, (match_law _ hf.ok lim x y).trans (match_law _ hu.ok lim x y).symm⟩, uniA_says d lim s x y, withRC_says (uniA d s x 15) lim x y z, s6, h2.1, h2.2, h1.1, h1.2⟩
end Go.Proofs.Ytfdcapblgdlkaaa
