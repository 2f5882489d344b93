/- The reference's search for another partner (augment, 86): it is an Aug. -/
import Derived.Test.YtchplmenkdghcaaPrint
import Derived.Test.YtchplmenkdghcaaMm
import Derived.Test.YtchplmenkdghcaaSlices
namespace Go.Proofs.Ytchplmenkdghcaa
open Go.RowKit
def bl (s : Nat → Bool) (n : Nat) : Array Value := ((List.range n).map fun j => Value.bool (s j)).toArray
def il (o : Nat → Int) (n : Nat) : Array Value := ((List.range n).map fun j => Value.int .i64 (o j)).toArray
theorem bl_at (s : Nat → Bool) {n j : Nat} (h : j < n) : (bl s n)[j]? = some (.bool (s j)) := by simp [bl, h]
theorem il_at (o : Nat → Int) {n j : Nat} (h : j < n) : (il o n)[j]? = some (.int .i64 (o j)) := by simp [il, h]
theorem bl_set (s : Nat → Bool) (n j : Nat) (v : Bool) : (bl s n).setIfInBounds j (.bool v) = bl (upd s j v) n := by
  apply Array.ext_getElem?
  intro k
  rcases Nat.lt_or_ge k n with hk | hk
  · by_cases e : j = k
    · subst e
      rw [Array.getElem?_setIfInBounds_self_of_lt (by simpa [bl] using hk), bl_at _ hk, upd_at]
    · rw [Array.getElem?_setIfInBounds_ne e, bl_at _ hk, bl_at _ hk, upd_ne _ _ _ _ (fun e' => e e'.symm)]
  · rw [Array.getElem?_eq_none (by simpa [bl] using hk), Array.getElem?_eq_none (by simpa [bl] using hk)]
theorem il_set (o : Nat → Int) (n j : Nat) (v : Int) : (il o n).setIfInBounds j (.int .i64 v) = il (upd o j v) n := by
  apply Array.ext_getElem?
  intro k
  rcases Nat.lt_or_ge k n with hk | hk
  · by_cases e : j = k
    · subst e
      rw [Array.getElem?_setIfInBounds_self_of_lt (by simpa [il] using hk), il_at _ hk, upd_at]
    · rw [Array.getElem?_setIfInBounds_ne e, il_at _ hk, il_at _ hk, upd_ne _ _ _ _ (fun e' => e e'.symm)]
  · rw [Array.getElem?_eq_none (by simpa [il] using hk), Array.getElem?_eq_none (by simpa [il] using hk)]
/-- the partners from k on -/
def restL (n : Nat) (may : Nat → Nat → Bool) (i k : Nat) : List Nat := (List.range' k (n - k)).filter (may i)
def nbF (n : Nat) (may : Nat → Nat → Bool) (i : Nat) : List Nat := restL n may i 0
theorem nbF_lt {n : Nat} {may : Nat → Nat → Bool} {i j : Nat} (h : j ∈ nbF n may i) : j < n ∧ may i j = true := by
  unfold nbF restL at h
  obtain ⟨h1, h2⟩ := List.mem_filter.1 h
  rw [List.mem_range'_1] at h1
  exact ⟨by omega, h2⟩
def unseen (n : Nat) (s : Nat → Bool) : Nat := (List.range n).countP fun j => !s j
theorem unseen_mono {n : Nat} {s s' : Nat → Bool} (h : ∀ j, s j = true → s' j = true) : unseen n s' ≤ unseen n s := by
  unfold unseen
  refine List.countP_mono_left fun j _ hj => ?_
  cases hs : s j with
  | false => rfl
  | true => rw [h j hs] at hj; cases hj
theorem unseen_upd {n : Nat} {s : Nat → Bool} {j : Nat} (hj : j < n) (h : s j = false) : unseen n (upd s j true) < unseen n s := by
  unfold unseen
  induction n with
  | zero => omega
  | succ n ih =>
    rw [List.range_succ, List.countP_append, List.countP_append, List.countP_singleton, List.countP_singleton]
    by_cases e : j = n
    · subst e
      have h1 : (List.range j).countP (fun k => !upd s j true k) = (List.range j).countP (fun k => !s k) := by
        refine List.countP_congr fun k hk => ?_
        rw [upd_ne _ _ _ _ (by have := List.mem_range.1 hk; omega)]
      rw [h1, upd_at, h]
      simp
    · have := ih (by omega)
      rw [upd_ne _ _ _ _ (fun e' => e e'.symm)]
      omega
theorem Calls.aug {P : Program} {f : FuncId} {args : Array Value} {w : World} {X : Bool → (Nat → Bool) → (Nat → Int) → World → Prop} {R : Ending → World → Prop}
    (h : Calls P f args w fun e w' => ∃ r s' o', e = .returned (.bool r) ∧ X r s' o' w') (hR : ∀ r s' o' w', X r s' o' w' → R (.returned (.bool r)) w') : Calls P f args w R :=
  h.mono fun _ w' ⟨r, s', o', he, hx⟩ => by subst he; exact hR r s' o' w' hx
theorem upd_rng {np n : Nat} {o : Nat → Int} (h : ∀ j, j < n → -1 ≤ o j ∧ o j < np) {i : Nat} (hi : i < np) (k : Nat) : ∀ j, j < n → -1 ≤ upd o k (i : Int) j ∧ upd o k (i : Int) j < np := by
  intro j hj
  unfold upd
  split
  · omega
  · exact h j hj
end Go.Proofs.Ytchplmenkdghcaa
/- The reference's greatest number of pairs (matched, 75). -/
namespace Go.Proofs.Ytchplmenkdghcaa
open Go.RowKit
theorem zInfoI : ZInfo Try.prog 72 3 (.int .i64 0) := zInfo (bytes := 8) Try.underlying72 (by kernel_rfl) (by omega) rfl
theorem zInfoB : ZInfo Try.prog 22 4 (.bool false) := zInfo (bytes := 1) Try.underlying22 (by kernel_rfl) (by omega) rfl
/-- the first k owners are cleared -/
def clr (k : Nat) : Nat → Int := fun j => if j < k then -1 else 0
theorem clr_zero (n : Nat) : il (clr 0) n = Array.replicate n (.int .i64 0) := by
  apply Array.ext_getElem?
  intro j
  rcases Nat.lt_or_ge j n with h | h
  · rw [il_at _ h]; simp [clr, h]
  · rw [Array.getElem?_eq_none (by simpa [il] using h), Array.getElem?_eq_none (by simpa using h)]
theorem clr_set (k n : Nat) : (il (clr k) n).setIfInBounds k (.int .i64 (-1)) = il (clr (k + 1)) n := by
  rw [il_set]
  congr 1
  funext j
  unfold upd clr
  by_cases e : j = k
  · rw [if_pos e, if_pos (by omega)]
  · rw [if_neg e]
    by_cases h : j < k
    · rw [if_pos h, if_pos (by omega)]
    · rw [if_neg h, if_neg (by omega)]
theorem clr_all (n : Nat) : il (clr n) n = il (fun _ => -1) n := by
  apply Array.ext_getElem?
  intro j
  rcases Nat.lt_or_ge j n with h | h
  · rw [il_at _ h, il_at _ h]; simp [clr, h]
  · rw [Array.getElem?_eq_none (by simpa [il] using h), Array.getElem?_eq_none (by simpa [il] using h)]
theorem seen_none (n : Nat) : Array.replicate n (.bool false) = bl (fun _ => false) n := by
  apply Array.ext_getElem?
  intro j
  rcases Nat.lt_or_ge j n with h | h
  · rw [bl_at _ h]; simp [h]
  · rw [Array.getElem?_eq_none (by simpa using h), Array.getElem?_eq_none (by simpa [bl] using h)]
end Go.Proofs.Ytchplmenkdghcaa
