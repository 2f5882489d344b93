/- Lists in a block of their own. -/
import Derived.Test.YthejomcibobieaaMake
namespace Go.Proofs.Ythejomcibobieaa
open Go.RowKit

/-- The values xs stand at the head of block g, of capacity c. -/
def Lst (t : TypeId) (w : World) (g c : Nat) (xs : List Value) : Prop := ∃ cur : Array Value, Blk w g t cur ∧ xs.length ≤ c ∧ c ≤ maxLen ∧ ∀ j, j < xs.length → cur[j]? = xs[j]?
section
variable {t : TypeId} {w w' : World} {g c : Nat} {xs : List Value}
theorem Lst.grow (h : Lst t w g c xs) (he : Ext w w') : Lst t w' g c xs := by
  obtain ⟨cur, hB, r⟩ := h
  exact ⟨cur, hB.grow he, r⟩
theorem Lst.at_ (h : Lst t w g c xs) (j : Nat) (hj : j < xs.length) : w.cell? ⟨g, j, none⟩ = xs[j]? := by
  obtain ⟨cur, hB, _, _, hat⟩ := h
  exact (hB.cell j).trans (hat j hj)
theorem Lst.lt (h : Lst t w g c xs) : g < w.heap.size := by obtain ⟨cur, hB, _⟩ := h; exact hB.lt
theorem Lst.of_blk {xs : List Value} (h : Blk w g t xs.toArray) (hm : xs.length ≤ maxLen) : Lst t w g xs.length xs := ⟨_, h, Nat.le_refl _, hm, fun j _ => by simp⟩
theorem lst_of_own {base : Nat} {A : Option Addr} {n : Nat} (hl : 0 < n) (hn : xs.length = n) (h : w.ownsRow base t 1 (.slice A n c) n xs) : ∃ g, A = some ⟨g, 0, none⟩ ∧ base ≤ g ∧ Lst t w g c xs := by
  obtain ⟨_, h | ⟨g, cap, cur, hv, hb, hh, hn2, hm, hs, ht⟩⟩ := h
  · omega
  · injection hv with h1 h2 h3
    subst h1 h3
    refine ⟨g, rfl, hb, cur, hh, by omega, hm, fun j hj => ?_⟩
    have h4 : (cur.toList.take (n * 1))[j]? = xs[j]? := by rw [ht]
    rw [List.getElem?_take, if_pos (by omega)] at h4
    simpa using h4
end
/-- the first k cells of n are filled -/
def fillA (n : Nat) (z : Value) (f : Nat → Value) (k : Nat) : Array Value := ((List.range n).map fun i => if i < k then f i else z).toArray
theorem fill_size (n : Nat) (z : Value) (f : Nat → Value) (k : Nat) : (fillA n z f k).size = n := by simp [fillA]
theorem fill_at (n : Nat) (z : Value) (f : Nat → Value) (k i : Nat) (h : i < n) : (fillA n z f k)[i]? = some (if i < k then f i else z) := by
  simp [fillA, h]
theorem fill_zero (n : Nat) (z : Value) (f : Nat → Value) : fillA n z f 0 = Array.replicate n z := by
  apply Array.ext
  · simp [fillA]
  · intro i h1 h2; simp [fillA]
theorem fill_set (n : Nat) (z : Value) (f : Nat → Value) (k : Nat) (v : Value) (hv : v = f k) : (fillA n z f k).setIfInBounds k v = fillA n z f (k + 1) := by
  subst hv
  apply Array.ext
  · simp [fillA]
  · intro i h1 h2
    have hi : i < n := by simpa [fillA] using h2
    rw [Array.getElem_setIfInBounds (by simpa [fillA] using hi)]
    simp only [fillA, List.getElem_toArray, List.getElem_map, List.getElem_range]
    by_cases h : k = i
    · subst h; simp
    · rw [if_neg h]
      have : (i < k + 1) ↔ (i < k) := by omega
      simp only [this]
def valL (n : Nat) (f : Nat → Value) : List Value := (List.range n).map f
theorem valL_len (n : Nat) (f : Nat → Value) : (valL n f).length = n := by simp [valL]
theorem valL_at (n : Nat) (f : Nat → Value) (i : Nat) (h : i < n) : (valL n f)[i]? = some (f i) := by simp [valL, h]
theorem fill_full (n : Nat) (z : Value) (f : Nat → Value) : fillA n z f n = (valL n f).toArray := by
  unfold fillA valL
  congr 1
  apply List.map_congr_left
  intro i hi
  rw [if_pos (List.mem_range.1 hi)]
end Go.Proofs.Ythejomcibobieaa
