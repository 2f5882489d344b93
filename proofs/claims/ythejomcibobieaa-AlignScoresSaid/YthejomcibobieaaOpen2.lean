/- How the arguments of the statements are read: slices of numbers. -/
import Derived.Test.YthejomcibobieaaOpen
namespace Go.Proofs.Ythejomcibobieaa
open Go.Joins Go.ChangeShapes Go.WideShapes Go.RowKit Go.Deep Go.ChangeAt

section
variable {H : Type} {enc : TypeId × Value → H} {P : Program} {w : World} {base : Nat} {spare : Nat → Bool} {held : Bool}

/-- A slice of numbers. -/
theorem open_nslice {r : Reach} {b0 : Nat} {t e : TypeId} {k : IntKind} {v : Value} {d : DataW H} {p : List MemPlace} (ht : P.underlying t = some (.slice e)) (he : P.underlying e = some (.int k)) (hC : P.cellsOf e = 1)
    (hv : Value.okWide P w r b0 t v) (h : DataW.Trod enc P w base spare held t v d p) :
    ∃ (A : Option Addr) (ns : List Int) (cap : Nat), v = .slice A ns.length cap ∧ ns.length ≤ cap ∧ cap ≤ maxLen ∧
      (∀ n ∈ ns, (Lit.int k n).wf = true) ∧
      (ns = [] ∨ ∃ b off, A = some ⟨b, off, none⟩ ∧ b < w.heap.size ∧ ∀ (i : Nat) n, ns[i]? = some n → w.cell? ⟨b, off + i, none⟩ = some (.int k n)) := by
  obtain ⟨a, len, cap, rfl⟩ := okWide_slice ht hv
  obtain ⟨fuel, hf⟩ := h
  rcases open_slice ht hf with ⟨hcs, _⟩ | ⟨a', len', cap', m, n, D, Pl, hcs, _, hl, hm, hmm, _, hi⟩
  · simp [Value.cells] at hcs
    obtain ⟨rfl, rfl, rfl⟩ := hcs
    exact ⟨none, [], 0, rfl, Nat.le_refl _, by simp [maxLen], by simp, .inl rfl⟩
  · simp [Value.cells] at hcs
    obtain ⟨rfl, rfl, rfl⟩ := hcs
    have hlm : len ≤ m := by rw [hmm]; split <;> omega
    have each : ∀ i, i < len → ∃ n : Int, (Lit.int k n).wf = true ∧ w.cell? (a'.add i) = some (.int k n) := by
      intro i hil
      obtain ⟨cs', hc, ht'⟩ := hi i (by omega)
      obtain ⟨_, hcl, hat⟩ := World.cells?_some hc
      rw [hC] at hcl
      rcases cs' with _ | ⟨u, r⟩
      · cases hcl
      obtain rfl : r = [] := by simpa using hcl
      obtain ⟨n, hn, hw⟩ := trod_num he ht'
      have := hat 0 (by rw [hC]; omega)
      rw [Go.Deep.add_add, hC, hn] at this
      exact ⟨n, hw, by simpa using this⟩
    have hrows : ∀ l, l ≤ len → ∃ ns : List Int, ns.length = l ∧ ∀ (i : Nat) n, ns[i]? = some n → (Lit.int k n).wf = true ∧ w.cell? (a'.add i) = some (.int k n) := by
      intro l
      induction l with
      | zero => intro _; exact ⟨[], rfl, by simp⟩
      | succ l ih =>
        intro hle
        obtain ⟨ns, h1, h2⟩ := ih (by omega)
        obtain ⟨n, h3⟩ := each l (by omega)
        refine ⟨ns ++ [n], by simp [h1], fun i ms hms => ?_⟩
        rw [List.getElem?_append] at hms
        split at hms
        · exact h2 i ms hms
        · rename_i hge
          have : i = l := by
            have := (List.getElem?_eq_some_iff.1 hms).1
            simp at this; omega
          subst this
          have : n = ms := by simpa [h1] using hms
          subst this
          exact h3
    obtain ⟨ns, hr1, hr2⟩ := hrows len (Nat.le_refl _)
    refine ⟨some a', ns, cap, by rw [hr1], by omega, hm, fun n hns => ?_, ?_⟩
    · obtain ⟨i, hi'⟩ := List.getElem?_of_mem hns
      exact (hr2 i n hi').1
    · rcases ns with _ | ⟨n0, rest⟩
      · exact .inl rfl
      · right
        have hc0 := (hr2 0 n0 rfl).2
        have hsp := World.cell?_spot hc0
        obtain ⟨b, off, spot⟩ := a'
        have hsp' : spot = none := by simpa [Addr.add] using hsp
        subst hsp'
        have hblk : b < w.heap.size := by
          rcases Nat.lt_or_ge b w.heap.size with h' | h'
          · exact h'
          · have hx : w.heap[b]? = none := Array.getElem?_eq_none h'
            simp [World.cell?, Addr.add, hx] at hc0
        refine ⟨b, off, rfl, hblk, fun i n hi' => ?_⟩
        have := (hr2 i n hi').2
        by_cases h0 : i = 0
        · subst h0; simpa [Addr.add] using this
        · rwa [Addr.add, if_neg h0] at this
end
end Go.Proofs.Ythejomcibobieaa
