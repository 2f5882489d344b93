/- How the arguments of the statements are read: structs of numbers by value. -/
import Derived.WalkKit
import Derived.ProofKit
import Derived.OpenShut
import Derived.ShutString
import Derived.ChangeOld
import Derived.Below
import Derived.Lib.SmallJoins
import Derived.Deep.Slices
import Derived.Deep.Fields
import Derived.ChangeSame
import Derived.Test.YtchplmenkdghcaaTopSmp
import Derived.Test.YtchplmenkdghcaaFoundLaw
import Derived.Test.YtchplmenkdghcaaTopPix
import Derived.Test.YtchplmenkdghcaaRows
namespace Go.Proofs.Ytchplmenkdghcaa
open Go.Joins Go.ChangeShapes Go.WideShapes Go.RowKit Go.Deep Go.ChangeAt

section
variable {H : Type} {enc : TypeId × Value → H} {P : Program} {w : World} {base : Nat} {spare : Nat → Bool} {held : Bool}

/-- The fields of a struct of numbers, of the kinds ks. -/
def kindsOf (P : Program) (fs : Array Field) (ks : List IntKind) : Prop := fs.size = ks.length ∧ ∀ (i : Nat) f k, fs[i]? = some f → ks[i]? = some k → P.underlying f.type = some (.int k)

/-- The same as a Bool, to be computed. -/
def kindsB (P : Program) (fs : Array Field) (ks : List IntKind) : Bool :=
  decide (fs.size = ks.length) && (List.range ks.length).all fun i => match fs[i]?, ks[i]? with | some f, some k => (match P.underlying f.type with | some (.int k') => decide (k' = k) | _ => false) | _, _ => true
theorem kindsOf_of {P : Program} {fs : Array Field} {ks : List IntKind} (h : kindsB P fs ks = true) : kindsOf P fs ks := by
  simp only [kindsB, Bool.and_eq_true, decide_eq_true_eq, List.all_eq_true, List.mem_range] at h
  refine ⟨h.1, fun i f k hf hk => ?_⟩
  have := h.2 i (List.getElem?_eq_some_iff.1 hk).1
  rw [hf, hk] at this
  dsimp only at this
  split at this
  · rename_i k' hk'; rw [hk', of_decide_eq_true this]
  · cases this
theorem wf_u64 {n : Int} (h : (Lit.int .u64 n).wf = true) : 0 ≤ n ∧ n < 18446744073709551616 := by
  simp [Lit.wf, IntKind.min, IntKind.max, IntKind.signed, IntKind.bits] at h; omega
theorem wf_i64 {n : Int} (h : (Lit.int .i64 n).wf = true) : -9223372036854775808 ≤ n ∧ n ≤ 9223372036854775807 := by
  simp [Lit.wf, IntKind.min, IntKind.max, IntKind.signed, IntKind.bits] at h; omega
theorem wf_u8 {n : Int} (h : (Lit.int .u8 n).wf = true) : 0 ≤ n ∧ n < 256 := by
  simp [Lit.wf, IntKind.min, IntKind.max, IntKind.signed, IntKind.bits] at h; omega

/-- A number that is one cell, read: it is of its kind, and fits. -/
theorem trod_num {t : TypeId} {k : IntKind} {fuel : Nat} {v : Value} {x : DataW H × List MemPlace} (ht : P.underlying t = some (.int k)) (h : DataW.trod enc P w base spare held fuel t [v] = some x) : ∃ n : Int, v = Value.int k n ∧ (Lit.int k n).wf = true := by
  obtain ⟨n, hv, _, hw⟩ := DataW.trod_int ht h
  exact ⟨n, by simpa using hv, hw⟩

/-- A struct of numbers by value. -/
theorem open_nums {r : Reach} {b0 : Nat} {t : TypeId} {fs : Array Field} {ks : List IntKind} {v : Value} {d : DataW H} {p : List MemPlace} (hs : P.underlying t = some (.struct fs)) (hone : oneCellFields P fs = true) (hC : P.cellsOf t = fs.size) (hk : kindsOf P fs ks)
    (hv : Value.okWide P w r b0 t v) (h : DataW.Trod enc P w base spare held t v d p) :
    ∃ ns : List Int, ns.length = ks.length ∧ v = Value.agg (List.zipWith Value.int ks ns).toArray ∧ ∀ (i : Nat) k n, ks[i]? = some k → ns[i]? = some n → (Lit.int k n).wf = true := by
  obtain ⟨cs, rfl, hsz⟩ := okWide_struct hs hv
  obtain ⟨fuel, hf⟩ := h
  obtain ⟨xs, n, _, hx, _, hlen, hg⟩ := DataW.trod_struct hs hf
  have hcs : cs.size = ks.length := hsz.trans (hC.trans hk.1)
  have each : ∀ (i : Nat) (k : IntKind), ks[i]? = some k → ∃ m : Int, cs[i]? = some (Value.int k m) ∧ (Lit.int k m).wf = true := by
    intro i k hi
    have hil : i < ks.length := (List.getElem?_eq_some_iff.1 hi).1
    have hfl : i < fs.size := by rw [hk.1]; exact hil
    have hfi : fs[i]? = some fs[i] := Array.getElem?_eq_getElem hfl
    obtain ⟨o1, o2⟩ := hone_of hone i fs[i] hfi
    have h1 := hg i fs[i] hfi
    rw [o1, o2] at h1
    have hcl : i < cs.toList.length := by simpa [hcs] using hil
    have hcell : ((Value.agg cs).cells.toList.drop i).take 1 = [cs.toList[i]] := by
      simp only [Value.cells]
      rw [List.drop_eq_getElem_cons hcl]; rfl
    rw [hcell] at h1
    have hxl : i < xs.length := by rw [hlen]; exact hfl
    rw [List.getElem?_eq_getElem hxl] at h1
    obtain ⟨m, hm, hw⟩ := trod_num (hk.2 i _ k hfi hi) h1
    exact ⟨m, by rw [← Array.getElem?_toList, List.getElem?_eq_getElem hcl, hm], hw⟩
  have hall : ∃ ns : List Int, ns.length = ks.length ∧ ∀ (i : Nat) (k : IntKind), ks[i]? = some k → ∃ m : Int, ns[i]? = some m ∧ cs[i]? = some (Value.int k m) ∧ (Lit.int k m).wf = true := by
    refine ⟨(List.range ks.length).map fun i => match cs[i]? with | some (Value.int _ m) => m | _ => 0, by simp, fun i k hi => ?_⟩
    obtain ⟨m, hm, hw⟩ := each i k hi
    have hil : i < ks.length := (List.getElem?_eq_some_iff.1 hi).1
    exact ⟨m, by simp [hil, hm], hm, hw⟩
  obtain ⟨ns, hnl, hns⟩ := hall
  refine ⟨ns, hnl, ?_, fun i k n hi hn => ?_⟩
  · congr 1
    apply Array.ext'
    apply List.ext_getElem?
    intro i
    rcases Nat.lt_or_ge i ks.length with hil | hil
    · obtain ⟨m, h1, h2, _⟩ := hns i ks[i] (List.getElem?_eq_getElem hil)
      rw [Array.getElem?_toList, h2, List.getElem?_zipWith, List.getElem?_eq_getElem hil, h1]
    · rw [List.getElem?_eq_none (by simp [hcs]; exact hil), List.getElem?_eq_none (by simp; omega)]
  · obtain ⟨m, h1, _, h3⟩ := hns i k hi
    rw [h1] at hn
    injection hn with hn
    exact hn ▸ h3

/-- The cells of a struct of numbers, read. -/
theorem trod_nums {e : TypeId} {fs : Array Field} {ks : List IntKind} {fuel : Nat} {cs : List Value} {x : DataW H × List MemPlace} (he : P.underlying e = some (.struct fs)) (hone : oneCellFields P fs = true) (hk : kindsOf P fs ks)
    (hcl : cs.length = fs.size) (h : DataW.trod enc P w base spare held fuel e cs = some x) :
    ∃ ns : List Int, ns.length = ks.length ∧ cs = List.zipWith Value.int ks ns ∧ ∀ (i : Nat) k n, ks[i]? = some k → ns[i]? = some n → (Lit.int k n).wf = true := by
  obtain ⟨xs, n, _, hx, _, hlen, hg⟩ := DataW.trod_struct he h
  have hcs : cs.length = ks.length := hcl.trans hk.1
  have each : ∀ (i : Nat) (k : IntKind), ks[i]? = some k → ∃ m : Int, cs[i]? = some (Value.int k m) ∧ (Lit.int k m).wf = true := by
    intro i k hi
    have hil : i < ks.length := (List.getElem?_eq_some_iff.1 hi).1
    have hfl : i < fs.size := by rw [hk.1]; exact hil
    have hfi : fs[i]? = some fs[i] := Array.getElem?_eq_getElem hfl
    obtain ⟨o1, o2⟩ := hone_of hone i fs[i] hfi
    have h1 := hg i fs[i] hfi
    rw [o1, o2] at h1
    have hcl' : i < cs.length := by omega
    have hcell : (cs.drop i).take 1 = [cs[i]] := by
      rw [List.drop_eq_getElem_cons hcl']; rfl
    rw [hcell] at h1
    have hxl : i < xs.length := by rw [hlen]; exact hfl
    rw [List.getElem?_eq_getElem hxl] at h1
    obtain ⟨m, hm, hw⟩ := trod_num (hk.2 i _ k hfi hi) h1
    exact ⟨m, by rw [List.getElem?_eq_getElem hcl', hm], hw⟩
  refine ⟨(List.range ks.length).map fun i => match cs[i]? with | some (Value.int _ m) => m | _ => 0, by simp, ?_, fun i k n hi hn => ?_⟩
  · apply List.ext_getElem?
    intro i
    rcases Nat.lt_or_ge i ks.length with hil | hil
    · obtain ⟨m, h2, _⟩ := each i ks[i] (List.getElem?_eq_getElem hil)
      rw [List.getElem?_zipWith, List.getElem?_eq_getElem hil]
      simp [hil, h2]
    · rw [List.getElem?_eq_none (by omega), List.getElem?_eq_none (by simp; omega)]
  · obtain ⟨m, h2, h3⟩ := each i k hi
    have hil : i < ks.length := (List.getElem?_eq_some_iff.1 hi).1
    simp [hil, h2] at hn
    exact hn ▸ h3

/-- A slice of structs of numbers: its rows. -/
theorem open_rows {r : Reach} {b0 : Nat} {t e : TypeId} {fs : Array Field} {ks : List IntKind} {v : Value} {d : DataW H} {p : List MemPlace} (ht : P.underlying t = some (.slice e)) (he : P.underlying e = some (.struct fs)) (hone : oneCellFields P fs = true) (hC : P.cellsOf e = fs.size) (hk : kindsOf P fs ks) (hpos : 0 < fs.size)
    (hv : Value.okWide P w r b0 t v) (h : DataW.Trod enc P w base spare held t v d p) :
    ∃ (A : Option Addr) (rows : List (List Int)) (cap : Nat), v = .slice A rows.length cap ∧ rows.length ≤ cap ∧ cap ≤ maxLen ∧
      (∀ ns ∈ rows, ns.length = ks.length ∧ ∀ (i : Nat) k n, ks[i]? = some k → ns[i]? = some n → (Lit.int k n).wf = true) ∧
      (rows = [] ∨ ∃ b off, A = some ⟨b, off, none⟩ ∧ b < w.heap.size ∧ ∀ (i : Nat) ns, rows[i]? = some ns → ∀ (j : Nat) u, (List.zipWith Value.int ks ns)[j]? = some u → w.cell? ⟨b, off + i * ks.length + j, none⟩ = some u) := by
  obtain ⟨a, len, cap, rfl⟩ := okWide_slice ht hv
  obtain ⟨fuel, hf⟩ := h
  rcases open_slice ht hf with ⟨hcs, _⟩ | ⟨a', len', cap', m, n, D, Pl, hcs, _, hl, hm, hmm, _, hi⟩
  · simp [Value.cells] at hcs
    obtain ⟨rfl, rfl, rfl⟩ := hcs
    exact ⟨none, [], 0, rfl, Nat.le_refl _, by simp [maxLen], by simp, .inl rfl⟩
  · simp [Value.cells] at hcs
    obtain ⟨rfl, rfl, rfl⟩ := hcs
    have hlm : len ≤ m := by rw [hmm]; split <;> omega
    have each : ∀ i, i < len → ∃ ns : List Int, ns.length = ks.length ∧ (∀ (i : Nat) k n, ks[i]? = some k → ns[i]? = some n → (Lit.int k n).wf = true) ∧ ∀ (j : Nat) u, (List.zipWith Value.int ks ns)[j]? = some u → w.cell? (a'.add (i * ks.length + j)) = some u := by
      intro i hil
      obtain ⟨cs', hc, ht'⟩ := hi i (by omega)
      obtain ⟨_, hcl, hat⟩ := World.cells?_some hc
      rw [hC] at hcl
      obtain ⟨ns, h1, h2, h3⟩ := trod_nums he hone hk hcl ht'
      refine ⟨ns, h1, h3, fun j u hu => ?_⟩
      rw [← h2] at hu
      have hj : j < P.cellsOf e := by rw [hC, ← hcl]; exact (List.getElem?_eq_some_iff.1 hu).1
      have := hat j hj
      rw [hu, Go.Deep.add_add, hC, hk.1] at this
      exact this
    have hrows : ∀ l, l ≤ len → ∃ rows : List (List Int), rows.length = l ∧ ∀ i ns, rows[i]? = some ns → ns.length = ks.length ∧ (∀ (i : Nat) k n, ks[i]? = some k → ns[i]? = some n → (Lit.int k n).wf = true) ∧ ∀ (j : Nat) u, (List.zipWith Value.int ks ns)[j]? = some u → w.cell? (a'.add (i * ks.length + j)) = some u := by
      intro l
      induction l with
      | zero => intro _; exact ⟨[], rfl, by simp⟩
      | succ l ih =>
        intro hle
        obtain ⟨rows, h1, h2⟩ := ih (by omega)
        obtain ⟨ns, h3⟩ := each l (by omega)
        refine ⟨rows ++ [ns], by simp [h1], fun i ms hms => ?_⟩
        rw [List.getElem?_append] at hms
        split at hms
        · exact h2 i ms hms
        · rename_i hge
          have : i = l := by
            have := (List.getElem?_eq_some_iff.1 hms).1
            simp at this; omega
          subst this
          have : ns = ms := by simpa [h1] using hms
          subst this
          exact h3
    obtain ⟨rows, hr1, hr2⟩ := hrows len (Nat.le_refl _)
    refine ⟨some a', rows, cap, by rw [hr1], by omega, hm, fun ns hns => ?_, ?_⟩
    · obtain ⟨i, hi'⟩ := List.getElem?_of_mem hns
      exact ⟨(hr2 i ns hi').1, (hr2 i ns hi').2.1⟩
    · rcases rows with _ | ⟨n0, rest⟩
      · exact .inl rfl
      · right
        have hkp : 0 < ks.length := by rw [← hk.1]; exact hpos
        obtain ⟨e1, _, e3⟩ := hr2 0 n0 rfl
        have hz : (List.zipWith Value.int ks n0)[0]? = some ((List.zipWith Value.int ks n0)[0]'(by simp; omega)) := List.getElem?_eq_getElem _
        have hc0 := e3 0 _ hz
        have hsp := World.cell?_spot hc0
        obtain ⟨b, off, spot⟩ := a'
        have hsp' : spot = none := by simpa [Addr.add] using hsp
        subst hsp'
        have hblk : b < w.heap.size := by
          rcases Nat.lt_or_ge b w.heap.size with h' | h'
          · exact h'
          · have hx : w.heap[b]? = none := Array.getElem?_eq_none h'
            simp [World.cell?, Addr.add, hx] at hc0
        refine ⟨b, off, rfl, hblk, fun i ns hi' j u hu => ?_⟩
        have := (hr2 i ns hi').2.2 j u hu
        by_cases h0 : i * ks.length + j = 0
        · simp only [h0, Addr.add, if_true] at this
          have e : off + i * ks.length + j = off := by omega
          rw [e]; exact this
        · rw [Addr.add, if_neg h0] at this
          rw [Nat.add_assoc]
          exact this
end
end Go.Proofs.Ytchplmenkdghcaa
/- How the arguments of the statements are read: slices of numbers. -/
namespace Go.Proofs.Ytchplmenkdghcaa
open Go.Joins Go.ChangeShapes Go.WideShapes Go.RowKit Go.Deep Go.ChangeAt

section
variable {H : Type} {enc : TypeId × Value → H} {P : Program} {w : World} {base : Nat} {spare : Nat → Bool} {held : Bool}

/-- A slice of numbers. -/
theorem open_nslice {r : Reach} {b0 : Nat} {t e : TypeId} {k : IntKind} {v : Value} {d : DataW H} {p : List MemPlace} (ht : P.underlying t = some (.slice e)) (he : P.underlying e = some (.int k)) (hC : P.cellsOf e = 1)
    (hv : Value.okWide P w r b0 t v) (h : DataW.Trod enc P w base spare held t v d p) :
    ∃ (A : Option Addr) (ns : List Int) (cap : Nat), v = .slice A ns.length cap ∧ ns.length ≤ cap ∧ cap ≤ maxLen ∧
      (∀ n ∈ ns, (Lit.int k n).wf = true) ∧
      (ns = [] ∨ ∃ b off, A = some ⟨b, off, none⟩ ∧ b < w.heap.size ∧ ∀ (i : Nat) n, ns[i]? = some n → w.cell? ⟨b, off + i, none⟩ = some (.int k n)) := by
  obtain ⟨a, len, cap, rfl⟩ := okWide_slice ht hv
  obtain ⟨fuel, hf⟩ := h
  rcases open_slice ht hf with ⟨hcs, _⟩ | ⟨a', len', cap', m, n, D, Pl, hcs, _, hl, hm, hmm, _, hi⟩
  · simp [Value.cells] at hcs
    obtain ⟨rfl, rfl, rfl⟩ := hcs
    exact ⟨none, [], 0, rfl, Nat.le_refl _, by simp [maxLen], by simp, .inl rfl⟩
  · simp [Value.cells] at hcs
    obtain ⟨rfl, rfl, rfl⟩ := hcs
    have hlm : len ≤ m := by rw [hmm]; split <;> omega
    have each : ∀ i, i < len → ∃ n : Int, (Lit.int k n).wf = true ∧ w.cell? (a'.add i) = some (.int k n) := by
      intro i hil
      obtain ⟨cs', hc, ht'⟩ := hi i (by omega)
      obtain ⟨_, hcl, hat⟩ := World.cells?_some hc
      rw [hC] at hcl
      rcases cs' with _ | ⟨u, r⟩
      · cases hcl
      obtain rfl : r = [] := by simpa using hcl
      obtain ⟨n, hn, hw⟩ := trod_num he ht'
      have := hat 0 (by rw [hC]; omega)
      rw [Go.Deep.add_add, hC, hn] at this
      exact ⟨n, hw, by simpa using this⟩
    have hrows : ∀ l, l ≤ len → ∃ ns : List Int, ns.length = l ∧ ∀ (i : Nat) n, ns[i]? = some n → (Lit.int k n).wf = true ∧ w.cell? (a'.add i) = some (.int k n) := by
      intro l
      induction l with
      | zero => intro _; exact ⟨[], rfl, by simp⟩
      | succ l ih =>
        intro hle
        obtain ⟨ns, h1, h2⟩ := ih (by omega)
        obtain ⟨n, h3⟩ := each l (by omega)
        refine ⟨ns ++ [n], by simp [h1], fun i ms hms => ?_⟩
        rw [List.getElem?_append] at hms
        split at hms
        · exact h2 i ms hms
        · rename_i hge
          have : i = l := by
            have := (List.getElem?_eq_some_iff.1 hms).1
            simp at this; omega
          subst this
          have : n = ms := by simpa [h1] using hms
          subst this
          exact h3
    obtain ⟨ns, hr1, hr2⟩ := hrows len (Nat.le_refl _)
    refine ⟨some a', ns, cap, by rw [hr1], by omega, hm, fun n hns => ?_, ?_⟩
    · obtain ⟨i, hi'⟩ := List.getElem?_of_mem hns
      exact (hr2 i n hi').1
    · rcases ns with _ | ⟨n0, rest⟩
      · exact .inl rfl
      · right
        have hc0 := (hr2 0 n0 rfl).2
        have hsp := World.cell?_spot hc0
        obtain ⟨b, off, spot⟩ := a'
        have hsp' : spot = none := by simpa [Addr.add] using hsp
        subst hsp'
        have hblk : b < w.heap.size := by
          rcases Nat.lt_or_ge b w.heap.size with h' | h'
          · exact h'
          · have hx : w.heap[b]? = none := Array.getElem?_eq_none h'
            simp [World.cell?, Addr.add, hx] at hc0
        refine ⟨b, off, rfl, hblk, fun i n hi' => ?_⟩
        have := (hr2 i n hi').2
        by_cases h0 : i = 0
        · subst h0; simpa [Addr.add] using this
        · rwa [Addr.add, if_neg h0] at this
end
end Go.Proofs.Ytchplmenkdghcaa
/- How the arguments of the statements are read: arrays and structs of numbers, nested, by value. -/
namespace Go.Proofs.Ytchplmenkdghcaa
open Go.Joins Go.ChangeShapes Go.WideShapes Go.RowKit Go.Deep Go.ChangeAt

/-- The cells of the type t are numbers of the kinds ks. -/
def flatB (P : Program) (t : TypeId) (ks : List IntKind) : Bool :=
  (match P.underlying t with | some (.struct _) | some (.array _ _) => true | _ => false) && decide (P.cellsOf t = ks.length) &&
    (match P.cellTypes P.depth t with
      | some ts => decide (ts.length = ks.length) && (List.range ks.length).all fun i => match ts[i]?, ks[i]? with | some u, some k => (match P.underlying u with | some (.int k') => decide (k' = k) | _ => false) | _, _ => false
      | none => false)
theorem open_flat {P : Program} {w : World} {r : Reach} {b0 : Nat} {t : TypeId} {ks : List IntKind} {v : Value} (hk : flatB P t ks = true) (hv : Value.okWide P w r b0 t v) :
    ∃ ns : List Int, ns.length = ks.length ∧ v = Value.agg (List.zipWith Value.int ks ns).toArray ∧ ∀ (i : Nat) k n, ks[i]? = some k → ns[i]? = some n → (Lit.int k n).wf = true := by
  unfold flatB at hk
  simp only [Bool.and_eq_true, decide_eq_true_eq] at hk
  obtain ⟨⟨h1, h2⟩, h3⟩ := hk
  have hv' : ∃ cs, v = .agg cs ∧ cs.size = P.cellsOf t ∧ Row.okWide P w r b0 t cs := by
    unfold Value.okWide at hv
    cases hu : P.underlying t with
    | none => rw [hu] at h1; cases h1
    | some u =>
      rw [hu] at h1 hv
      cases u <;> first | exact hv | cases h1
  obtain ⟨cs, rfl, hsz, ts, hts, _, hc⟩ := hv'
  rw [hts] at h3
  simp only [Bool.and_eq_true, decide_eq_true_eq, List.all_eq_true, List.mem_range] at h3
  obtain ⟨h3, h4⟩ := h3
  have hcs : cs.size = ks.length := hsz.trans h2
  have each : ∀ (i : Nat) (k : IntKind), ks[i]? = some k → ∃ m : Int, cs[i]? = some (Value.int k m) ∧ (Lit.int k m).wf = true := by
    intro i k hi
    have hil : i < ks.length := (List.getElem?_eq_some_iff.1 hi).1
    have hci : cs[i]? = some (cs[i]'(by omega)) := Array.getElem?_eq_getElem _
    obtain ⟨u, hu, hok⟩ := hc i _ hci
    rw [Nat.mod_eq_of_lt (by omega)] at hu
    have hk := h4 i hil
    rw [hu, hi] at hk
    dsimp only at hk
    split at hk
    · rename_i k' hk'
      obtain rfl : k' = k := of_decide_eq_true hk
      simp only [Cell.okWide, Cell.ok, hk'] at hok
      rw [hci]
      generalize cs[i]'(by omega) = c at *
      cases c <;> simp at hok
      obtain ⟨rfl, hh⟩ := hok
      exact ⟨_, rfl, by simpa [Lit.wf, IntKind.has] using hh⟩
    · cases hk
  refine ⟨(List.range ks.length).map fun i => match cs[i]? with | some (Value.int _ m) => m | _ => 0, by simp, ?_, fun i k n hi hn => ?_⟩
  · congr 1
    apply Array.ext'
    apply List.ext_getElem?
    intro i
    rcases Nat.lt_or_ge i ks.length with hil | hil
    · obtain ⟨m, hm, _⟩ := each i ks[i] (List.getElem?_eq_getElem hil)
      rw [Array.getElem?_toList, hm, List.getElem?_zipWith, List.getElem?_eq_getElem hil]
      simp [hil, hm]
    · rw [List.getElem?_eq_none (by simp [hcs]; exact hil), List.getElem?_eq_none (by simp; omega)]
  · obtain ⟨m, hm, h5⟩ := each i k hi
    have hil : i < ks.length := (List.getElem?_eq_some_iff.1 hi).1
    simp [hil, hm] at hn
    exact hn ▸ h5
end Go.Proofs.Ytchplmenkdghcaa
/- How a trace and the other arguments are read. -/
namespace Go.Proofs.Ytchplmenkdghcaa
open Go.Joins Go.ChangeShapes Go.WideShapes Go.RowKit Go.Deep Go.ChangeAt

theorem own : ownKnob Try.prog.godebug = none := by kernel_rfl
theorem laidOut : laidOutB Try.prog = true := by kernel_rfl
theorem cells_3 : Try.prog.cellsOf 3 = 1 := by kernel_rfl
theorem cells_4 : Try.prog.cellsOf 4 = 1 := by kernel_rfl
theorem cells_22 : Try.prog.cellsOf 22 = 1 := by kernel_rfl
theorem cells_24 : Try.prog.cellsOf 24 = 3 := by kernel_rfl
theorem len1 : ∀ {cs : List Value}, cs.length = 1 → ∃ a, cs = [a]
  | [a], _ => ⟨a, rfl⟩
theorem len3 : ∀ {cs : List Value}, cs.length = 3 → ∃ a b c, cs = [a, b, c]
  | [a, b, c], _ => ⟨a, b, c, rfl⟩
theorem byte_in {n : Int} (h : (Lit.int .u8 n).wf = true) : 0 ≤ n ∧ n < 256 := by
  simp [Lit.wf, IntKind.min, IntKind.max, IntKind.signed, IntKind.bits] at h; omega
theorem i8_in {n : Int} (h : (Lit.int .i8 n).wf = true) : -128 ≤ n ∧ n ≤ 127 := by
  simp [Lit.wf, IntKind.min, IntKind.max, IntKind.signed, IntKind.bits] at h; omega
theorem i64_wf {n : Int} (h : (Lit.int .i64 n).wf = true) : -9223372036854775808 ≤ n ∧ n ≤ 9223372036854775807 := by
  simp [Lit.wf, IntKind.min, IntKind.max, IntKind.signed, IntKind.bits] at h; omega
theorem cl_of {ns : List Int} (hl : ns.length = [IntKind.i64, .i64, .i64, .i64, .i64].length) :
    ∃ c : Cl, Value.agg (List.zipWith Value.int [IntKind.i64, .i64, .i64, .i64, .i64] ns).toArray = c.val := by
  match ns, hl with
  | [n0, n1, n2, n3, n4], _ => exact ⟨⟨n0, n1, n2, n3, n4⟩, rfl⟩
theorem ns_of {w : World} {A : Option Addr} {ns : List Int} (h : ns = [] ∨ ∃ b off, A = some ⟨b, off, none⟩ ∧ b < w.heap.size ∧ ∀ (i : Nat) n, ns[i]? = some n → w.cell? ⟨b, off + i, none⟩ = some (.int .i8 n)) : Ns w A ns := by
  rcases h with h | ⟨b, off, h1, h2, h3⟩
  · exact .inl h
  · refine .inr ⟨b, off, h1, h2, fun k x hx j u hu => ?_⟩
    have hj : j < 1 := (List.getElem?_eq_some_iff.1 hu).1
    obtain rfl : j = 0 := by omega
    injection hu with hu
    subst hu
    have := h3 k x hx
    simpa using this
section
variable {H : Type} {enc : TypeId × Value → H} {w : World} {base : Nat} {spare : Nat → Bool} {held : Bool}
theorem trod_bl {fuel : Nat} {cs : List Value} {x : DataW H × List MemPlace} (_hcl : cs.length = 1) (h : DataW.trod enc Try.prog w base spare held fuel 4 cs = some x) : ∃ b : Bool, cs = blF b ∧ True := by
  obtain ⟨b, h1, -⟩ := DataW.trod_bool Try.underlying4 h
  exact ⟨b, h1, trivial⟩
/-- a slice that is read: its elements -/
theorem trod_sl {α : Type} {f : α → List Value} {sz : Nat} (hf : ∀ x, (f x).length = sz) (hpos : 0 < sz) {W : α → Prop} {t e : TypeId} (ht : Try.prog.underlying t = some (.slice e)) (hC : Try.prog.cellsOf e = sz)
    (hel : ∀ {fuel : Nat} {cs : List Value} {x : DataW H × List MemPlace}, cs.length = sz → DataW.trod enc Try.prog w base spare held fuel e cs = some x → ∃ a : α, cs = f a ∧ W a)
    {fuel : Nat} {cs : List Value} {x : DataW H × List MemPlace} (h : DataW.trod enc Try.prog w base spare held fuel t cs = some x) :
    ∃ (A : Option Addr) (l : List α) (cap : Nat), cs = [.slice A l.length cap] ∧ l.length ≤ cap ∧ cap ≤ maxLen ∧ (∀ a ∈ l, W a) ∧ Sl sz f w A l := by
  rcases open_slice ht h with ⟨hcs, _⟩ | ⟨a', len, cap, m, n, D, Pl, hcs, _, hl, hm, hmm, _, hi⟩
  · exact ⟨none, [], 0, hcs, Nat.le_refl _, by simp [maxLen], by simp, .inl rfl⟩
  · have hlm : len ≤ m := by rw [hmm]; split <;> omega
    have each : ∀ i, i < len → ∃ a : α, W a ∧ ∀ (j : Nat) u, (f a)[j]? = some u → w.cell? (a'.add (i * sz + j)) = some u := by
      intro i hil
      obtain ⟨cs', hc, ht'⟩ := hi i (by omega)
      obtain ⟨_, hcl, hat⟩ := World.cells?_some hc
      rw [hC] at hcl
      obtain ⟨a, h1, h2⟩ := hel hcl ht'
      refine ⟨a, h2, fun j u hu => ?_⟩
      rw [← h1] at hu
      have hj : j < Try.prog.cellsOf e := by rw [hC, ← hcl]; exact (List.getElem?_eq_some_iff.1 hu).1
      have := hat j hj
      rw [hu, Go.Deep.add_add, hC] at this
      exact this
    have hrows : ∀ l, l ≤ len → ∃ rows : List α, rows.length = l ∧ ∀ i a, rows[i]? = some a → W a ∧ ∀ (j : Nat) u, (f a)[j]? = some u → w.cell? (a'.add (i * sz + j)) = some u := by
      intro l
      induction l with
      | zero => intro _; exact ⟨[], rfl, by simp⟩
      | succ l ih =>
        intro hle
        obtain ⟨rows, h1, h2⟩ := ih (by omega)
        obtain ⟨a, h3⟩ := each l (by omega)
        refine ⟨rows ++ [a], by simp [h1], fun i ms hms => ?_⟩
        rw [List.getElem?_append] at hms
        split at hms
        · exact h2 i ms hms
        · rename_i hge
          have : i = l := by
            have := (List.getElem?_eq_some_iff.1 hms).1
            simp at this; omega
          subst this
          have : a = ms := by simpa [h1] using hms
          subst this
          exact h3
    obtain ⟨rows, hr1, hr2⟩ := hrows len (Nat.le_refl _)
    refine ⟨some a', rows, cap, by rw [hr1]; exact hcs, by omega, hm, fun a ha => ?_, ?_⟩
    · obtain ⟨i, hi'⟩ := List.getElem?_of_mem ha
      exact (hr2 i a hi').1
    · rcases rows with _ | ⟨n0, rest⟩
      · exact .inl rfl
      · right
        obtain ⟨_, e3⟩ := hr2 0 n0 rfl
        have hz : (f n0)[0]? = some ((f n0)[0]'(by rw [hf]; exact hpos)) := List.getElem?_eq_getElem _
        have hc0 := e3 0 _ hz
        have hsp := World.cell?_spot hc0
        obtain ⟨b, off, spot⟩ := a'
        have hsp' : spot = none := by simpa [Addr.add] using hsp
        subst hsp'
        have hblk : b < w.heap.size := by
          rcases Nat.lt_or_ge b w.heap.size with h' | h'
          · exact h'
          · have hx : w.heap[b]? = none := Array.getElem?_eq_none h'
            simp [World.cell?, Addr.add, hx] at hc0
        refine ⟨b, off, rfl, hblk, fun i a hi' j u hu => ?_⟩
        have := (hr2 i a hi').2 j u hu
        rw [addr_add, ← Nat.add_assoc] at this
        exact this
set_option maxRecDepth 100000 in
/-- A trace that is an argument. -/
theorem open_tr {r : Reach} {b0 : Nat} {v : Value} {d : DataW H} {p : List MemPlace} (hv : Value.okWide Try.prog w r b0 24 v) (h : DataW.Trod enc Try.prog w base spare held 24 v d p) :
    ∃ (W H : Int) (A : Option Addr) (R : List Bool) (c : Nat), v = .agg #[.int .i64 W, .int .i64 H, .slice A R.length c] ∧ (-9223372036854775808 ≤ W ∧ W ≤ 9223372036854775807) ∧ (-9223372036854775808 ≤ H ∧ H ≤ 9223372036854775807) ∧ Bls w A R ∧ R.length ≤ maxLen := by
  obtain ⟨cs, rfl, hsz⟩ := okWide_struct Try.underlying24 hv
  obtain ⟨fuel, hf⟩ := h
  obtain ⟨xs, n, _, _, hcl, hxl, hg⟩ := DataW.trod_struct Try.underlying24 hf
  rw [cells_24] at hcl
  simp only [Value.cells] at hcl hg
  obtain ⟨l, rfl⟩ : ∃ l : List Value, cs = l.toArray := ⟨cs.toList, by simp⟩
  simp only at hcl hg
  obtain ⟨a0, a1, a2, rfl⟩ := len3 hcl
  have g0 : DataW.trod enc Try.prog w base spare held n 3 ((([a0, a1, a2] : List Value).drop 0).take (Try.prog.cellsOf 3)) = xs[0]? := hg 0 _ rfl
  have g1 : DataW.trod enc Try.prog w base spare held n 3 ((([a0, a1, a2] : List Value).drop 1).take (Try.prog.cellsOf 3)) = xs[1]? := hg 1 _ rfl
  have g2 : DataW.trod enc Try.prog w base spare held n 22 ((([a0, a1, a2] : List Value).drop 2).take (Try.prog.cellsOf 22)) = xs[2]? := hg 2 _ rfl
  have hx : xs.length = 3 := hxl
  rw [cells_3, List.getElem?_eq_getElem (by omega)] at g0
  rw [cells_3, List.getElem?_eq_getElem (by omega)] at g1
  rw [cells_22, List.getElem?_eq_getElem (by omega)] at g2
  obtain ⟨W, e0, w0⟩ := trod_num Try.underlying3 g0
  obtain ⟨H', e1, w1⟩ := trod_num Try.underlying3 g1
  obtain ⟨A, R, c, e2, l1, l2, -, s1⟩ := trod_sl (f := blF) (W := fun _ => True) (fun _ => rfl) (Nat.zero_lt_one) Try.underlying22 cells_4 trod_bl g2
  simp only [List.drop_succ_cons, List.drop_zero, List.take_succ_cons, List.take_zero, List.cons.injEq, and_true] at e2
  subst e0 e1 e2
  exact ⟨W, H', A, R, c, rfl, i64_wf w0, i64_wf w1, s1, Nat.le_trans l1 l2⟩
end
end Go.Proofs.Ytchplmenkdghcaa
