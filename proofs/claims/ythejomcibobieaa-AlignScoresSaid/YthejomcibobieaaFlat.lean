/- How the arguments of the statements are read: arrays and structs of numbers, nested, by value. -/
import Derived.Test.YthejomcibobieaaOpen
namespace Go.Proofs.Ythejomcibobieaa
open Go.Joins Go.ChangeShapes Go.WideShapes Go.RowKit Go.Deep Go.ChangeAt

/-- The cells of the type t are numbers of the kinds ks. -/
def flatB (P : Program) (t : TypeId) (ks : List IntKind) : Bool :=
  (match P.underlying t with | some (.struct _) | some (.array _ _) => true | _ => false) && decide (P.cellsOf t = ks.length) &&
    (match P.cellTypes P.depth t with
      | some ts => decide (ts.length = ks.length) && (List.range ks.length).all fun i => match ts[i]?, ks[i]? with | some u, some k => (match P.underlying u with | some (.int k') => decide (k' = k) | _ => false) | _, _ => false
      | none => false)
theorem open_flat {P : Program} {w : World} {r : Reach} {b0 : Nat} {t : TypeId} {ks : List IntKind} {v : Value} (hk : flatB P t ks = true) (hv : Value.okWide P w r b0 t v) :
    ∃ ns : List Int, ns.length = ks.length ∧ v = Value.agg (List.zipWith Value.int ks ns).toArray ∧ ∀ (i : Nat) k n, ks[i]? = some k → ns[i]? = some n → (Lit.int k n).wf = true := by
  unfold flatB at hk
  simp only [Bool.and_eq_true, decide_eq_true_eq] at hk
  obtain ⟨⟨h1, h2⟩, h3⟩ := hk
  have hv' : ∃ cs, v = .agg cs ∧ cs.size = P.cellsOf t ∧ Row.okWide P w r b0 t cs := by
    unfold Value.okWide at hv
    cases hu : P.underlying t with
    | none => rw [hu] at h1; cases h1
    | some u =>
      rw [hu] at h1 hv
      cases u <;> first | exact hv | cases h1
  obtain ⟨cs, rfl, hsz, ts, hts, _, hc⟩ := hv'
  rw [hts] at h3
  simp only [Bool.and_eq_true, decide_eq_true_eq, List.all_eq_true, List.mem_range] at h3
  obtain ⟨h3, h4⟩ := h3
  have hcs : cs.size = ks.length := hsz.trans h2
  have each : ∀ (i : Nat) (k : IntKind), ks[i]? = some k → ∃ m : Int, cs[i]? = some (Value.int k m) ∧ (Lit.int k m).wf = true := by
    intro i k hi
    have hil : i < ks.length := (List.getElem?_eq_some_iff.1 hi).1
    have hci : cs[i]? = some (cs[i]'(by omega)) := Array.getElem?_eq_getElem _
    obtain ⟨u, hu, hok⟩ := hc i _ hci
    rw [Nat.mod_eq_of_lt (by omega)] at hu
    have hk := h4 i hil
    rw [hu, hi] at hk
    dsimp only at hk
    split at hk
    · rename_i k' hk'
      obtain rfl : k' = k := of_decide_eq_true hk
      simp only [Cell.okWide, Cell.ok, hk'] at hok
      rw [hci]
      generalize cs[i]'(by omega) = c at *
      cases c <;> simp at hok
      obtain ⟨rfl, hh⟩ := hok
      exact ⟨_, rfl, by simpa [Lit.wf, IntKind.has] using hh⟩
    · cases hk
  refine ⟨(List.range ks.length).map fun i => match cs[i]? with | some (Value.int _ m) => m | _ => 0, by simp, ?_, fun i k n hi hn => ?_⟩
  · congr 1
    apply Array.ext'
    apply List.ext_getElem?
    intro i
    rcases Nat.lt_or_ge i ks.length with hil | hil
    · obtain ⟨m, hm, _⟩ := each i ks[i] (List.getElem?_eq_getElem hil)
      rw [Array.getElem?_toList, hm, List.getElem?_zipWith, List.getElem?_eq_getElem hil]
      simp [hil, hm]
    · rw [List.getElem?_eq_none (by simp [hcs]; exact hil), List.getElem?_eq_none (by simp; omega)]
  · obtain ⟨m, hm, h5⟩ := each i k hi
    have hil : i < ks.length := (List.getElem?_eq_some_iff.1 hi).1
    simp [hil, hm] at hn
    exact hn ▸ h5
end Go.Proofs.Ythejomcibobieaa
