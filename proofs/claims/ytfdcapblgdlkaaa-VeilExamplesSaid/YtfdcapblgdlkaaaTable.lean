/- The other party's table: the loops. -/
import Derived.Test.YtfdcapblgdlkaaaRow32
namespace Go.Proofs.Ytfdcapblgdlkaaa
open Go.RowKit

attribute [go_sem] vv_xor
theorem A31_set (f : Nat → Int) (k : Nat) (v : Int) : (A31 f).setIfInBounds k (.int .u32 v) = A31 fun i => if i = k then v else f i := by
  apply Array.ext'
  apply List.ext_getElem?
  intro j
  rw [Array.getElem?_toList, Array.getElem?_toList, Array.getElem?_setIfInBounds]
  rcases Nat.lt_or_ge j 31 with h | h
  · rw [A31_at _ _ h, A31_at _ _ h]
    by_cases hj : k = j
    · subst hj; simp [A31_size, h]
    · simp [hj, show ¬ j = k from fun e => hj e.symm]
  · rw [Array.getElem?_eq_none (by rw [A31_size]; omega), Array.getElem?_eq_none (by rw [A31_size]; omega)]
    simp [A31_size]; omega
theorem A31_congr {f g : Nat → Int} (h : ∀ i, i < 31 → f i = g i) : A31 f = A31 g := by
  apply Array.ext'
  apply List.ext_getElem?
  intro j
  rw [Array.getElem?_toList, Array.getElem?_toList]
  rcases Nat.lt_or_ge j 31 with hj | hj
  · rw [A31_at _ _ hj, A31_at _ _ hj, h j hj]
  · rw [Array.getElem?_eq_none (by rw [A31_size]; omega), Array.getElem?_eq_none (by rw [A31_size]; omega)]
theorem A31_one {f : Nat → Int} : (A31 f).all (·.oneCell') = true := by
  unfold A31 valL
  simp [u32V, Value.oneCell']
def Z31 : Array Value := Array.replicate 31 (.int .u32 0)
/-- the table when k rows and m bits of the next one are done -/
def tabS (t : Nat → Int) (rc rs lim : Int) (k m i : Nat) : Int :=
  if i < k then tabO t rc rs lim i else if i = k then vv (rowN (bt t i) (nearB rc rs lim i) m) else t i
theorem tabS_start (t : Nat → Int) (rc rs lim : Int) (ht : ∀ i, i < 31 → 0 ≤ t i ∧ t i < 4294967296) : A31 (tabS t rc rs lim 0 0) = A31 t :=
  A31_congr fun i hi => by
    unfold tabS
    rw [if_neg (by omega)]
    split
    · exact vv_ofInt _ (ht i hi)
    · rfl
theorem tabS_row (t : Nat → Int) (rc rs lim : Int) (ht : ∀ i, i < 31 → 0 ≤ t i ∧ t i < 4294967296) (k : Nat) : A31 (tabS t rc rs lim k 31) = A31 (tabS t rc rs lim (k + 1) 0) :=
  A31_congr fun i hi => by
    unfold tabS
    rcases Nat.lt_trichotomy i k with h | h | h
    · rw [if_pos h, if_pos (by omega)]
    · subst h
      rw [if_neg (by omega), if_pos rfl, if_pos (by omega)]; rfl
    · rw [if_neg (by omega), if_neg (by omega), if_neg (by omega)]
      split
      · exact (vv_ofInt _ (ht i hi)).symm
      · rfl
theorem tabS_end (t : Nat → Int) (rc rs lim : Int) : A31 (tabS t rc rs lim 31 0) = A31 (tabO t rc rs lim) :=
  A31_congr fun i hi => by unfold tabS; rw [if_pos hi]
theorem tabS_cell (t : Nat → Int) (rc rs lim : Int) (k m : Nat) (hk : k < 31) : (A31 (tabS t rc rs lim k m))[k]? = some (.int .u32 (vv (rowN (bt t k) (nearB rc rs lim k) m))) := by
  rw [A31_at _ _ hk]; unfold tabS; rw [if_neg (by omega), if_pos rfl]
theorem tabS_yes (t : Nat → Int) (rc rs lim : Int) (k m : Nat) (h : nearB rc rs lim k m = true) : (A31 (tabS t rc rs lim k m)).setIfInBounds k (.int .u32 (vv (rowN (bt t k) (nearB rc rs lim k) m ^^^ (1#32 <<< m)))) = A31 (tabS t rc rs lim k (m + 1)) := by
  rw [A31_set]
  congr 1
  funext i
  unfold tabS
  by_cases hi : i = k
  · subst hi
    rw [if_pos rfl, if_neg (by omega), if_pos rfl, rowN, if_pos h]
  · rw [if_neg hi, if_neg hi, if_neg hi]
theorem tabS_no (t : Nat → Int) (rc rs lim : Int) (k m : Nat) (h : nearB rc rs lim k m = false) : tabS t rc rs lim k (m + 1) = tabS t rc rs lim k m := by
  funext i
  unfold tabS
  by_cases hi : i = k
  · subst hi
    rw [if_neg (by omega), if_pos rfl, if_neg (by omega), if_pos rfl, rowN, h]
    rfl
  · rw [if_neg hi, if_neg hi]
end Go.Proofs.Ytfdcapblgdlkaaa
