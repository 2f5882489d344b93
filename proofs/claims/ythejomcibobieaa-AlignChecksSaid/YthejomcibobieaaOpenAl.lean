/- How a result that is an argument is read: its numbers and its two slices. -/
import Derived.Test.YthejomcibobieaaTops
import Derived.Test.YthejomcibobieaaEqAt
import Derived.OpenShut
import Derived.Test.YthejomcibobieaaOpen
namespace Go.Proofs.Ythejomcibobieaa
open Go.Joins Go.ChangeShapes Go.WideShapes Go.RowKit Go.Deep Go.ChangeAt

theorem len4 : ∀ {cs : List Value}, cs.length = 4 → ∃ a b c d, cs = [a, b, c, d]
  | [a, b, c, d], _ => ⟨a, b, c, d, rfl⟩
theorem len6 : ∀ {cs : List Value}, cs.length = 6 → ∃ a b c d e f, cs = [a, b, c, d, e, f]
  | [a, b, c, d, e, f], _ => ⟨a, b, c, d, e, f, rfl⟩
theorem len8 : ∀ {cs : List Value}, cs.length = 8 → ∃ a b c d e f g h, cs = [a, b, c, d, e, f, g, h]
  | [a, b, c, d, e, f, g, h], _ => ⟨a, b, c, d, e, f, g, h, rfl⟩
section
variable {H : Type} {enc : TypeId × Value → H} {w : World} {base : Nat} {spare : Nat → Bool} {held : Bool}

theorem trod_mv {fuel : Nat} {cs : List Value} {x : DataW H × List MemPlace} (hcl : cs.length = 3) (h : DataW.trod enc Try.prog w base spare held fuel 26 cs = some x) :
    ∃ m : Mv, cs = [.int .i64 m.turn, .int .i64 m.dx, .int .i64 m.dy] ∧ wfI m.turn ∧ wfI m.dx ∧ wfI m.dy := by
  obtain ⟨ns, h1, h2, h3⟩ := trod_nums (ks := [.i64, .i64, .i64]) Try.underlying26 (by kernel_rfl) (kindsOf_of (by kernel_rfl)) hcl h
  match ns, h1 with
  | [a, b, c], _ => exact ⟨⟨a, b, c⟩, h2, h3 0 _ _ rfl rfl, h3 1 _ _ rfl rfl, h3 2 _ _ rfl rfl⟩
theorem trod_bk {fuel : Nat} {cs : List Value} {x : DataW H × List MemPlace} (hcl : cs.length = 5) (h : DataW.trod enc Try.prog w base spare held fuel 40 cs = some x) :
    ∃ m : Bk, cs = [.int .i64 m.turn, .int .i64 m.x0, .int .i64 m.y0, .int .i64 m.x1, .int .i64 m.y1] ∧ wfI m.turn ∧ wfI m.x0 ∧ wfI m.y0 ∧ wfI m.x1 ∧ wfI m.y1 := by
  obtain ⟨ns, h1, h2, h3⟩ := trod_nums (ks := [.i64, .i64, .i64, .i64, .i64]) Try.underlying40 (by kernel_rfl) (kindsOf_of (by kernel_rfl)) hcl h
  match ns, h1 with
  | [a, b, c, d, e], _ => exact ⟨⟨a, b, c, d, e⟩, h2, h3 0 _ _ rfl rfl, h3 1 _ _ rfl rfl, h3 2 _ _ rfl rfl, h3 3 _ _ rfl rfl, h3 4 _ _ rfl rfl⟩
theorem trod_bd {fuel : Nat} {cs : List Value} {x : DataW H × List MemPlace} (hcl : cs.length = 4) (h : DataW.trod enc Try.prog w base spare held fuel 28 cs = some x) :
    ∃ m : Bd, cs = [.int .i64 m.a, .int .i64 m.b, .int .i64 m.c, .int .i64 m.d] ∧ wfI m.a ∧ wfI m.b ∧ wfI m.c ∧ wfI m.d := by
  obtain ⟨xs, n, _, _, _, hxl, hg⟩ := DataW.trod_array Try.underlying28 h
  obtain ⟨a, b, c, d, rfl⟩ := len4 hcl
  have g : ∀ (i : Nat) (v : Value), i < 4 → (([a, b, c, d] : List Value).drop (i * Try.prog.cellsOf 3)).take (Try.prog.cellsOf 3) = [v] → ∃ m : Int, v = .int .i64 m ∧ wfI m := by
    intro i v hi hv
    have h1 := hg i hi
    rw [hv, List.getElem?_eq_getElem (by omega)] at h1
    exact trod_num Try.underlying3 h1
  rw [cells_3] at g
  obtain ⟨m0, rfl, w0⟩ := g 0 a (by omega) rfl
  obtain ⟨m1, rfl, w1⟩ := g 1 b (by omega) rfl
  obtain ⟨m2, rfl, w2⟩ := g 2 c (by omega) rfl
  obtain ⟨m3, rfl, w3⟩ := g 3 d (by omega) rfl
  exact ⟨⟨m0, m1, m2, m3⟩, rfl, w0, w1, w2, w3⟩
theorem trod_at {fuel : Nat} {cs : List Value} {x : DataW H × List MemPlace} (hcl : cs.length = 8) (h : DataW.trod enc Try.prog w base spare held fuel 46 cs = some x) :
    ∃ a : At, cs = a.cellsL ∧ a.wf := by
  obtain ⟨xs, n, _, _, _, hxl, hg⟩ := DataW.trod_struct Try.underlying46 h
  obtain ⟨a0, a1, a2, a3, a4, a5, a6, a7, rfl⟩ := len8 hcl
  have g0 : DataW.trod enc Try.prog w base spare held n 26 ((([a0, a1, a2, a3, a4, a5, a6, a7] : List Value).drop 0).take (Try.prog.cellsOf 26)) = xs[0]? := hg 0 _ rfl
  have g1 : DataW.trod enc Try.prog w base spare held n 28 ((([a0, a1, a2, a3, a4, a5, a6, a7] : List Value).drop 3).take (Try.prog.cellsOf 28)) = xs[1]? := hg 1 _ rfl
  have g2 : DataW.trod enc Try.prog w base spare held n 3 ((([a0, a1, a2, a3, a4, a5, a6, a7] : List Value).drop 7).take (Try.prog.cellsOf 3)) = xs[2]? := hg 2 _ rfl
  have hx : xs.length = 3 := hxl
  rw [cells_26, List.getElem?_eq_getElem (by omega)] at g0
  rw [cells_28, List.getElem?_eq_getElem (by omega)] at g1
  rw [cells_3, List.getElem?_eq_getElem (by omega)] at g2
  obtain ⟨m, e0, w0, w1, w2⟩ := trod_mv (by rfl) g0
  obtain ⟨b, e1, w3, w4, w5, w6⟩ := trod_bd (by rfl) g1
  obtain ⟨s, e2, w7⟩ := trod_num Try.underlying3 g2
  simp only [List.drop_zero, List.drop_succ_cons, List.take_succ_cons, List.take_zero, List.cons.injEq, and_true] at e0 e1
  obtain ⟨rfl, rfl, rfl⟩ := e0
  obtain ⟨rfl, rfl, rfl, rfl⟩ := e1
  subst e2
  exact ⟨⟨m, b, s⟩, rfl, ⟨w0, w1, w2, w3, w4, w5, w6, w7⟩⟩
theorem trod_rs {fuel : Nat} {cs : List Value} {x : DataW H × List MemPlace} (hcl : cs.length = 6) (h : DataW.trod enc Try.prog w base spare held fuel 105 cs = some x) :
    ∃ a : Rs, cs = a.cellsL ∧ a.wf := by
  obtain ⟨xs, n, _, _, _, hxl, hg⟩ := DataW.trod_struct Try.underlying105 h
  obtain ⟨a0, a1, a2, a3, a4, a5, rfl⟩ := len6 hcl
  have g0 : DataW.trod enc Try.prog w base spare held n 40 ((([a0, a1, a2, a3, a4, a5] : List Value).drop 0).take (Try.prog.cellsOf 40)) = xs[0]? := hg 0 _ rfl
  have g1 : DataW.trod enc Try.prog w base spare held n 3 ((([a0, a1, a2, a3, a4, a5] : List Value).drop 5).take (Try.prog.cellsOf 3)) = xs[1]? := hg 1 _ rfl
  have hx : xs.length = 2 := hxl
  rw [cells_40, List.getElem?_eq_getElem (by omega)] at g0
  rw [cells_3, List.getElem?_eq_getElem (by omega)] at g1
  obtain ⟨m, e0, w0, w1, w2, w3, w4⟩ := trod_bk (by rfl) g0
  obtain ⟨s, e1, w5⟩ := trod_num Try.underlying3 g1
  simp only [List.drop_zero, List.take_succ_cons, List.take_zero, List.cons.injEq, and_true] at e0
  obtain ⟨rfl, rfl, rfl, rfl, rfl⟩ := e0
  subst e1
  exact ⟨⟨m, s⟩, rfl, ⟨w0, w1, w2, w3, w4, w5⟩⟩
/-- a slice that is read: its elements -/
theorem trod_sl {α : Type} {f : α → List Value} {sz : Nat} (hf : ∀ x, (f x).length = sz) (hpos : 0 < sz) {W : α → Prop} {t e : TypeId} (ht : Try.prog.underlying t = some (.slice e)) (hC : Try.prog.cellsOf e = sz)
    (hel : ∀ {fuel : Nat} {cs : List Value} {x : DataW H × List MemPlace}, cs.length = sz → DataW.trod enc Try.prog w base spare held fuel e cs = some x → ∃ a : α, cs = f a ∧ W a)
    {fuel : Nat} {cs : List Value} {x : DataW H × List MemPlace} (h : DataW.trod enc Try.prog w base spare held fuel t cs = some x) :
    ∃ (A : Option Addr) (l : List α) (cap : Nat), cs = [.slice A l.length cap] ∧ l.length ≤ cap ∧ cap ≤ maxLen ∧ (∀ a ∈ l, W a) ∧ Sl sz f w A l := by
  rcases open_slice ht h with ⟨hcs, _⟩ | ⟨a', len, cap, m, n, D, Pl, hcs, _, hl, hm, hmm, _, hi⟩
  · exact ⟨none, [], 0, hcs, Nat.le_refl _, by simp [maxLen], by simp, .inl rfl⟩
  · have hlm : len ≤ m := by rw [hmm]; split <;> omega
    have each : ∀ i, i < len → ∃ a : α, W a ∧ ∀ (j : Nat) u, (f a)[j]? = some u → w.cell? (a'.add (i * sz + j)) = some u := by
      intro i hil
      obtain ⟨cs', hc, ht'⟩ := hi i (by omega)
      obtain ⟨_, hcl, hat⟩ := World.cells?_some hc
      rw [hC] at hcl
      obtain ⟨a, h1, h2⟩ := hel hcl ht'
      refine ⟨a, h2, fun j u hu => ?_⟩
      rw [← h1] at hu
      have hj : j < Try.prog.cellsOf e := by rw [hC, ← hcl]; exact (List.getElem?_eq_some_iff.1 hu).1
      have := hat j hj
      rw [hu, Go.Deep.add_add, hC] at this
      exact this
    have hrows : ∀ l, l ≤ len → ∃ rows : List α, rows.length = l ∧ ∀ i a, rows[i]? = some a → W a ∧ ∀ (j : Nat) u, (f a)[j]? = some u → w.cell? (a'.add (i * sz + j)) = some u := by
      intro l
      induction l with
      | zero => intro _; exact ⟨[], rfl, by simp⟩
      | succ l ih =>
        intro hle
        obtain ⟨rows, h1, h2⟩ := ih (by omega)
        obtain ⟨a, h3⟩ := each l (by omega)
        refine ⟨rows ++ [a], by simp [h1], fun i ms hms => ?_⟩
        rw [List.getElem?_append] at hms
        split at hms
        · exact h2 i ms hms
        · rename_i hge
          have : i = l := by
            have := (List.getElem?_eq_some_iff.1 hms).1
            simp at this; omega
          subst this
          have : a = ms := by simpa [h1] using hms
          subst this
          exact h3
    obtain ⟨rows, hr1, hr2⟩ := hrows len (Nat.le_refl _)
    refine ⟨some a', rows, cap, by rw [hr1]; exact hcs, by omega, hm, fun a ha => ?_, ?_⟩
    · obtain ⟨i, hi'⟩ := List.getElem?_of_mem ha
      exact (hr2 i a hi').1
    · rcases rows with _ | ⟨n0, rest⟩
      · exact .inl rfl
      · right
        obtain ⟨_, e3⟩ := hr2 0 n0 rfl
        have hz : (f n0)[0]? = some ((f n0)[0]'(by rw [hf]; exact hpos)) := List.getElem?_eq_getElem _
        have hc0 := e3 0 _ hz
        have hsp := World.cell?_spot hc0
        obtain ⟨b, off, spot⟩ := a'
        have hsp' : spot = none := by simpa [Addr.add] using hsp
        subst hsp'
        have hblk : b < w.heap.size := by
          rcases Nat.lt_or_ge b w.heap.size with h' | h'
          · exact h'
          · have hx : w.heap[b]? = none := Array.getElem?_eq_none h'
            simp [World.cell?, Addr.add, hx] at hc0
        refine ⟨b, off, rfl, hblk, fun i a hi' j u hu => ?_⟩
        have := (hr2 i a hi').2 j u hu
        rw [addr_add, ← Nat.add_assoc] at this
        exact this
theorem cells_55 : Try.prog.cellsOf 55 = 1 := by kernel_rfl
theorem cells_58 : Try.prog.cellsOf 58 = 4 := by kernel_rfl
theorem cells_56 : Try.prog.cellsOf 56 = 1 := by kernel_rfl
set_option maxRecDepth 100000 in
/-- A result that is an argument. -/
theorem open_al {r : Reach} {b0 : Nat} {v : Value} {d : DataW H} {p : List MemPlace} (hv : Value.okWide Try.prog w r b0 58 v) (h : DataW.Trod enc Try.prog w base spare held 58 v d p) :
    ∃ (sc bd : Int) (A1 : Option Addr) (att : List At) (c1 : Nat) (A2 : Option Addr) (left : List Rs) (c2 : Nat),
      v = .agg #[.int .i64 sc, .int .i64 bd, .slice A1 att.length c1, .slice A2 left.length c2] ∧ wfI sc ∧ wfI bd ∧ att.length ≤ c1 ∧ left.length ≤ c2 ∧ (∀ x ∈ att, x.wf) ∧ (∀ x ∈ left, x.wf) ∧ Ats w A1 att ∧ Rss w A2 left := by
  obtain ⟨cs, rfl, hsz⟩ := okWide_struct Try.underlying58 hv
  obtain ⟨fuel, hf⟩ := h
  obtain ⟨xs, n, _, _, hcl, hxl, hg⟩ := DataW.trod_struct Try.underlying58 hf
  rw [cells_58] at hcl
  simp only [Value.cells] at hcl hg
  obtain ⟨l, rfl⟩ : ∃ l : List Value, cs = l.toArray := ⟨cs.toList, by simp⟩
  simp only at hcl hg
  obtain ⟨a0, a1, a2, a3, rfl⟩ := len4 hcl
  have g0 : DataW.trod enc Try.prog w base spare held n 3 ((([a0, a1, a2, a3] : List Value).drop 0).take (Try.prog.cellsOf 3)) = xs[0]? := hg 0 _ rfl
  have g1 : DataW.trod enc Try.prog w base spare held n 3 ((([a0, a1, a2, a3] : List Value).drop 1).take (Try.prog.cellsOf 3)) = xs[1]? := hg 1 _ rfl
  have g2 : DataW.trod enc Try.prog w base spare held n 55 ((([a0, a1, a2, a3] : List Value).drop 2).take (Try.prog.cellsOf 55)) = xs[2]? := hg 2 _ rfl
  have g3 : DataW.trod enc Try.prog w base spare held n 56 ((([a0, a1, a2, a3] : List Value).drop 3).take (Try.prog.cellsOf 56)) = xs[3]? := hg 3 _ rfl
  have hx : xs.length = 4 := hxl
  rw [cells_3, List.getElem?_eq_getElem (by omega)] at g0
  rw [cells_3, List.getElem?_eq_getElem (by omega)] at g1
  rw [cells_55, List.getElem?_eq_getElem (by omega)] at g2
  rw [cells_56, List.getElem?_eq_getElem (by omega)] at g3
  obtain ⟨sc, e0, w0⟩ := trod_num Try.underlying3 g0
  obtain ⟨bd, e1, w1⟩ := trod_num Try.underlying3 g1
  obtain ⟨A1, att, c1, e2, l1, -, w2, s1⟩ := trod_sl at_len (by omega) Try.underlying55 cells_46 trod_at g2
  obtain ⟨A2, left, c2, e3, l2, -, w3, s2⟩ := trod_sl rs_len (by omega) Try.underlying56 cells_105 trod_rs g3
  simp only [List.drop_zero, List.drop_succ_cons, List.take_succ_cons, List.take_zero, List.cons.injEq, and_true] at e2 e3
  subst e0 e1 e2 e3
  exact ⟨sc, bd, A1, att, c1, A2, left, c2, rfl, w0, w1, l1, l2, w2, w3, s1, s2⟩
end
end Go.Proofs.Ythejomcibobieaa
