/- append of a slice of any length that the form reaches; slices of codes. -/
import Derived.Test.YtcacbolbedhcoaaSlices
import Derived.Test.YtcacbolbedhcoaaTurns
import Derived.Test.YtcacbolbedhcoaaArgs
import Derived.SizedLaws
namespace Go.Proofs.Ytcacbolbedhcoaa
open Go.Joins Go.ChangeShapes Go.WideShapes Go.RowKit Go.Deep Go.ChangeAt

theorem run_append_big {P : Program} {W0 W : World} (hW : Ext W0 W) {t e : TypeId} {size bytes : Nat} (hI : ElemInfo P t e size bytes) (ty : TypeId)
    {v : Value} {n : Nat} {xs : List Value} (hown : W.ownsRow W0.heap.size e size v n xs) {A : Option Addr} {m : Nat} (c : Nat) {news : List Value} (hr : Slc W size A m news) (h1 : ∀ u ∈ news, u.oneCell' = true)
    (hml : n + m ≤ maxLen) (hb2 : (n + m) * bytes ≤ 140737488355328) :
    ∃ A' c' w', (Builtin.append_ #[t, t] ty #[v, .slice A m c]).run P W = .ok (.slice A' (n + m) c') w' ∧ w'.ownsRow W0.heap.size e size (.slice A' (n + m) c') (n + m) (xs ++ news) ∧ Ext W0 w' := by
  obtain ⟨ht, i, z, hi, hz, hsize, hbytes, hzs, hpos⟩ := hI
  have hold : ∀ k, v.ownBlock = some k → W0.heap.size ≤ k := fun k hk => (hown.lt k hk).1
  rcases A with _ | ad
  · have hm : m = 0 := by
      rcases Nat.eq_zero_or_pos m with h0 | h0
      · exact h0
      · obtain ⟨b, off, h, _⟩ := hr.2 h0
        cases h
    subst hm
    have hn : news = [] := List.eq_nil_of_length_eq_zero (by simpa using hr.1)
    subst hn
    obtain ⟨A', c', rfl⟩ := own_slice hown
    exact ⟨A', c', W, run_append_nil ht hi hown c, by simpa using hown, hW⟩
  · have hcells : ∀ j u, news[j]? = some u → W.cell? (ad.add j) = some u := by
      intro j u hu
      rcases Nat.eq_zero_or_pos m with h0 | h0
      · subst h0
        have hn : news = [] := List.eq_nil_of_length_eq_zero (by simpa using hr.1)
        subst hn
        simp at hu
      · obtain ⟨b, off, h, _, hc⟩ := hr.2 h0
        injection h with h
        subst h
        rw [addr_add]
        exact hc j u hu
    obtain ⟨v', w', hrun, h2, h3, _, _⟩ := run_append_own_at (P := P) W W0.heap.size t ty e i z size bytes ht hi hz hsize hbytes hzs hpos v n xs hown ad m c news hr.1 hcells h1 hml hb2 hW.size
    obtain ⟨A', c', rfl⟩ := own_slice h2
    exact ⟨A', c', w', hrun, h2, hW.grown h3 hold⟩
section
variable {P : Program} {o : Oper} {a : Act} {w : World} {K : Act → World → Prop} {Q : Exit → Act → World → Prop}
theorem wp_append_big (W0 : World) (hW : Ext W0 w) {t e : TypeId} {size bytes : Nat} (hI : ElemInfo P t e size bytes) (s x : Operand)
    (ho : o.op = .call { callee := .builtin .append, args := #[s, x], argTypes := #[t, t] })
    (v : Value) (n : Nat) (xs : List Value) (hs : a.eval s = v) (hown : w.ownsRow W0.heap.size e size v n xs)
    (A : Option Addr) (m c : Nat) (news : List Value) (hx : a.eval x = .slice A m c) (hr : Slc w size A m news) (h1 : ∀ u ∈ news, u.oneCell' = true)
    (hml : n + m ≤ maxLen) (hb2 : (n + m) * bytes ≤ 140737488355328)
    (h : ∀ A' c' z, (ext W0 z).ownsRow W0.heap.size e size (.slice A' (n + m) c') (n + m) (xs ++ news) → K (a.put o.dst (.slice A' (n + m) c')) (ext W0 z)) : o.wp P a w K Q := by
  obtain ⟨A', c', w', hrun, h2, h3⟩ := run_append_big hW hI o.type hown c hr h1 hml hb2
  unfold Oper.wp execOp
  simp only [ho, resolve, invoke, builtin, Sem.run_bind, Sem.run_pure, Result.andThen_ok, List.map_toArray, List.map_cons, List.map_nil, hs, hx, hrun]
  have := h A' c' w'
  rw [ext_of h3] at this
  exact this h2
theorem wpList_append_big {ops : Array Oper} {rest : List Oper} (hgd : o.guard = none) (W0 : World) (hW : Ext W0 w) {t e : TypeId} {size bytes : Nat} (hI : ElemInfo P t e size bytes) (s x : Operand)
    (ho : o.op = .call { callee := .builtin .append, args := #[s, x], argTypes := #[t, t] })
    (v : Value) (n : Nat) (xs : List Value) (hs : a.eval s = v) (hown : w.ownsRow W0.heap.size e size v n xs)
    (A : Option Addr) (m c : Nat) (news : List Value) (hx : a.eval x = .slice A m c) (hr : Slc w size A m news) (h1 : ∀ u ∈ news, u.oneCell' = true)
    (hml : n + m ≤ maxLen) (hb2 : (n + m) * bytes ≤ 140737488355328)
    (h : ∀ A' c' z, (ext W0 z).ownsRow W0.heap.size e size (.slice A' (n + m) c') (n + m) (xs ++ news) → wpList P ops Q rest (a.put o.dst (.slice A' (n + m) c')) (ext W0 z)) : wpList P ops Q (o :: rest) a w :=
  wpList_plain hgd fun _ hK => wp_append_big W0 hW hI s x ho v n xs hs hown A m c news hx hr h1 hml hb2 fun A' c' z h2 => hK _ _ (h A' c' z h2)
end

def Ir.cellsL (x : Ir) : List Value := [.int .u64 (uw x.code), .int .u64 (uw x.mask)]
def flatI (l : List Ir) : List Value := l.flatMap Ir.cellsL
theorem flatI_cons (x : Ir) (l : List Ir) : flatI (x :: l) = x.cellsL ++ flatI l := by simp [flatI]
theorem flatI_append (l m : List Ir) : flatI (l ++ m) = flatI l ++ flatI m := by simp [flatI]
theorem flatI_len (l : List Ir) : (flatI l).length = l.length * 2 := by
  induction l with
  | nil => rfl
  | cons x r ih => rw [flatI_cons, List.length_append, ih]; simp [Ir.cellsL]; omega
theorem flatI_at (l : List Ir) (k : Nat) (x : Ir) (h : l[k]? = some x) (j : Nat) (hj : j < 2) : (flatI l)[k * 2 + j]? = x.cellsL[j]? := by
  induction l generalizing k with
  | nil => simp at h
  | cons y r ih =>
    have hy : y.cellsL.length = 2 := rfl
    cases k with
    | zero =>
      obtain rfl : y = x := by simpa using h
      rw [flatI_cons, List.getElem?_append_left (by rw [hy]; omega), Nat.zero_mul, Nat.zero_add]
    | succ k =>
      rw [flatI_cons, List.getElem?_append_right (by rw [hy]; omega), hy]
      have := ih k (by simpa using h)
      rw [← this]
      congr 1
      omega
theorem flatI_one (l : List Ir) : ∀ u ∈ flatI l, u.oneCell' = true := by
  intro u hu
  obtain ⟨x, _, hx⟩ := List.mem_flatMap.1 hu
  simp only [Ir.cellsL, List.mem_cons, List.not_mem_nil, or_false] at hx
  rcases hx with rfl | rfl <;> rfl
theorem Irs.slc {w : World} {A : Option Addr} {l : List Ir} (h : Irs w A l) : Slc w 2 A l.length (flatI l) := by
  refine ⟨flatI_len l, fun hn => ?_⟩
  rcases h with rfl | ⟨b, off, rfl, hb, hc⟩
  · simp at hn
  · refine ⟨b, off, rfl, hb, fun j u hu => ?_⟩
    have hj : j < l.length * 2 := by rw [← flatI_len l]; exact (List.getElem?_eq_some_iff.1 hu).1
    have hk : j / 2 < l.length := by omega
    have hx := List.getElem?_eq_getElem hk
    obtain ⟨c0, c1⟩ := hc (j / 2) l[j / 2] hx
    have e : j = j / 2 * 2 + j % 2 := by omega
    have hat := flatI_at l (j / 2) _ hx (j % 2) (by omega)
    rw [← e] at hat
    rw [hat] at hu
    have : j % 2 = 0 ∨ j % 2 = 1 := by omega
    rcases this with h0 | h0
    · rw [h0] at hu
      have hu' : Value.int .u64 (uw l[j / 2].code) = u := by simpa [Ir.cellsL] using hu
      rw [← hu', ← c0]; congr 2; omega
    · rw [h0] at hu
      have hu' : Value.int .u64 (uw l[j / 2].mask) = u := by simpa [Ir.cellsL] using hu
      rw [← hu', ← c1]; congr 2; omega
theorem Slc.irs {w : World} {A : Option Addr} {l : List Ir} (h : Slc w 2 A l.length (flatI l)) : Irs w A l := by
  rcases l with _ | ⟨x0, r⟩
  · exact .inl rfl
  · obtain ⟨b, off, rfl, hb, hc⟩ := h.2 (by simp)
    refine .inr ⟨b, off, rfl, hb, fun k x hk => ?_⟩
    have h0 := hc (k * 2 + 0) (.int .u64 (uw x.code)) (by rw [flatI_at _ k x hk 0 (by omega)]; rfl)
    have h1 := hc (k * 2 + 1) (.int .u64 (uw x.mask)) (by rw [flatI_at _ k x hk 1 (by omega)]; rfl)
    exact ⟨h0, h1⟩
theorem infoIr : ElemInfo Try.prog 58 27 2 16 := elemInfo Try.underlying58 (z := .agg #[.int .u64 0, .int .u64 0]) (by kernel_rfl) rfl (by omega)
theorem bytes27 : Try.prog.bytesOf 27 = 16 := by kernel_rfl

/-- the elements of a slice in the datum -/
theorem trod_len {H : Type} {enc : TypeId × Value → H} {P : Program} {w : World} {base : Nat} {spare : Nat → Bool} {held : Bool} {t e : TypeId} {A : Option Addr} {n cap : Nat} {d : DataW H} {p : List MemPlace} (ht : P.underlying t = some (.slice e))
    (h : DataW.Trod enc P w base spare held t (.slice A n cap) d p) : n = 0 ∨ ∃ es sp, d = .slice es sp ∧ es.length = n := by
  obtain ⟨fuel, hf⟩ := h
  rcases open_slice ht hf with ⟨hcs, _⟩ | ⟨a', len', cap', m, k, D, Pl, hcs, _, hl, hm, hmm, hx, hi⟩
  · simp [Value.cells] at hcs
    exact .inl hcs.2.1
  · simp [Value.cells] at hcs
    obtain ⟨rfl, rfl, rfl⟩ := hcs
    injection hx with hx1 hx2
    exact .inr ⟨_, _, hx1, by simp⟩
end Go.Proofs.Ytcacbolbedhcoaa
