/- The way back of an explanation leads to the first deal: plain laws. -/
import Derived.Test.YtfdcapblgdlkaaaExplHead
namespace Go.Proofs.Ytfdcapblgdlkaaa
open Go.RowKit

theorem cnt_congr (f : Nat → Int) {g h : Nat → Int} : ∀ k, (∀ i, i < k → g i = h i) → cntS f g k = cntS f h k := by
  intro k
  induction k with
  | zero => intro _; rfl
  | succ k ih =>
    intro hh
    rw [cntS, cntS, ih fun i hi => hh i (by omega), hh k (by omega)]
theorem dl_cells {d d' : Dl} (ha : ∀ i, i < 15 → d.a i = d'.a i) (hb : ∀ i, i < 15 → d.b i = d'.b i) (hu : ∀ i, i < 15 → d.u i = d'.u i) (hrc : d.rc = d'.rc) (hrs : d.rs = d'.rs) (ht : ∀ i, i < 31 → d.t i = d'.t i) : d.cells = d'.cells := by
  apply Array.ext_getElem?
  intro j
  rcases Nat.lt_or_ge j 15 with h | h
  · rw [Dl.at_a _ j h, Dl.at_a _ j h, ha j h]
  · rcases Nat.lt_or_ge j 30 with h' | h'
    · obtain ⟨i, rfl⟩ : ∃ i, j = 15 + i := ⟨j - 15, by omega⟩
      rw [Dl.at_b _ i (by omega), Dl.at_b _ i (by omega), hb i (by omega)]
    · rcases Nat.lt_or_ge j 45 with h'' | h''
      · obtain ⟨i, rfl⟩ : ∃ i, j = 30 + i := ⟨j - 30, by omega⟩
        rw [Dl.at_u _ i (by omega), Dl.at_u _ i (by omega), hu i (by omega)]
      · by_cases e : j = 45
        · subst e; rw [Dl.at_rc, Dl.at_rc, hrc]
        · by_cases e2 : j = 46
          · subst e2; rw [Dl.at_rs, Dl.at_rs, hrs]
          · rcases Nat.lt_or_ge j 78 with h7 | h7
            · obtain ⟨i, rfl⟩ : ∃ i, j = 47 + i := ⟨j - 47, by omega⟩
              rw [Dl.at_t _ i (by omega), Dl.at_t _ i (by omega), ht i (by omega)]
            · rw [Array.getElem?_eq_none (by rw [Dl.size]; omega), Array.getElem?_eq_none (by rw [Dl.size]; omega)]
/-- what the sums say, without the shift -/
theorem sayC_is (d : Dl) (lim : Int) (x y : BitVec 16) : sayC (ptyP d) (ptyQ d lim) x y = (cntS (bitI x) (prodP (ptyP d) (ptyQ d lim) y) 15 % 31 + d.rc) % 31 := rfl
theorem sayS_is (d : Dl) (lim : Int) (x y : BitVec 16) : sayS (ptyP d) (ptyQ d lim) x y = (cntS (bitI y) (prodQ (ptyP d) (ptyQ d lim) x y) 15 % 31 + d.rs) % 31 := rfl
theorem backA {d : Dl} (h : d.fine) (lim : Int) (x y o : BitVec 16) : (outA (outA d lim x y o) lim o y x).cells = d.cells := by
  obtain ⟨-, -, h3, -, -, hq⟩ := outA_law d lim x y o
  have hC : sayC (ptyP (outA d lim x y o)) (ptyQ (outA d lim x y o) lim) o y = sayC (ptyP d) (ptyQ d lim) x y := h3
  have ha : ∀ i, i < 15 → ((outA d lim x y o).a i + bitI x i - bitI o i) % 31 = d.a i := fun i hi => by
    have := h.a i hi
    show ((d.a i + bitI o i - bitI x i) % 31 + bitI x i - bitI o i) % 31 = d.a i
    omega
  have hs : ∀ i, ((outA d lim x y o).a i * (outA d lim x y o).b i - (outA d lim x y o).u i) % 31 = (d.a i * d.b i - d.u i) % 31 := fun i => congrFun (congrArg Pty.s hq) i
  have hu : ∀ i, i < 15 → (d1A (outA d lim x y o) o x).u i = d.u i := fun i hi => by
    have h1 := h.u i hi
    show (((outA d lim x y o).a i + bitI x i - bitI o i) % 31 * d.b i - ((outA d lim x y o).a i * (outA d lim x y o).b i - (outA d lim x y o).u i) % 31) % 31 = d.u i
    rw [hs, ha i hi]
    generalize d.a i * d.b i = e
    omega
  have hrc : rcA (outA d lim x y o) lim o y x = d.rc := by
    have hcn : cntS (bitI x) (prodP (ptyP (d1A (outA d lim x y o) o x)) (ptyQ (d1A (outA d lim x y o) o x) lim) y) 15 = cntS (bitI x) (prodP (ptyP d) (ptyQ d lim) y) 15 := by
      refine cnt_congr _ 15 fun i hi => ?_
      show ((((outA d lim x y o).a i + bitI x i - bitI o i) % 31 * ((bitI y i - d.b i) % 31)) % 31 + (d1A (outA d lim x y o) o x).u i) % 31 = ((d.a i * ((bitI y i - d.b i) % 31)) % 31 + d.u i) % 31
      rw [ha i hi, hu i hi]
    have e1 := sayC_is (d1A (outA d lim x y o) o x) lim x y
    have e2 := sayC_is d lim x y
    rw [hcn] at e1
    have h4 := h.rc
    unfold rcA
    rw [hC, e1, e2]
    have e3 : (d1A (outA d lim x y o) o x).rc = (outA d lim x y o).rc := rfl
    rw [e3]
    omega
  refine dl_cells ha (fun _ _ => rfl) hu hrc rfl fun i hi => ?_
  show tabO (tabO (outA d lim x y o).t (outA d lim x y o).rc (outA d lim x y o).rs lim) (rcA (outA d lim x y o) lim o y x) d.rs lim i = d.t i
  have ht : tabO (outA d lim x y o).t (outA d lim x y o).rc (outA d lim x y o).rs lim = tabO d.t d.rc d.rs lim := congrArg Pty.t hq
  rw [ht, hrc]
  show vv (rowN (bt (tabO d.t d.rc d.rs lim) i) (nearB d.rc d.rs lim i) 31) = d.t i
  rw [bt_tabO, rowN_back]
  exact bt_ok h.ok i hi
theorem backB {d : Dl} (h : d.fine) (lim : Int) (x y o : BitVec 16) : (outB (outB d lim x y o) lim x o y).cells = d.cells := by
  obtain ⟨-, -, -, h4, -⟩ := outB_law d lim x y o
  have hS : sayS (ptyP (outB d lim x y o)) (ptyQ (outB d lim x y o) lim) x o = sayS (ptyP d) (ptyQ d lim) x y := h4
  have hb : ∀ i, i < 15 → ((outB d lim x y o).b i + bitI y i - bitI o i) % 31 = d.b i := fun i hi => by
    have := h.b i hi
    show ((d.b i + bitI o i - bitI y i) % 31 + bitI y i - bitI o i) % 31 = d.b i
    omega
  have hrs : ((outB d lim x y o).rs + sayS (ptyP (outB d lim x y o)) (ptyQ (outB d lim x y o) lim) x o - sayS (ptyP (d1B (outB d lim x y o) o y)) (ptyQ (d1B (outB d lim x y o) o y) lim) x y) % 31 = d.rs := by
    have hcn : cntS (bitI y) (prodQ (ptyP (d1B (outB d lim x y o) o y)) (ptyQ (d1B (outB d lim x y o) o y) lim) x y) 15 = cntS (bitI y) (prodQ (ptyP d) (ptyQ d lim) x y) 15 := by
      refine cnt_congr _ 15 fun i hi => ?_
      show (((bitI x i - d.a i) % 31 * ((((outB d lim x y o).b i + bitI y i - bitI o i) % 31 + (bitI y i - ((outB d lim x y o).b i + bitI y i - bitI o i) % 31) % 31) % 31)) % 31 + (d.a i * (((outB d lim x y o).b i + bitI y i - bitI o i) % 31) - d.u i) % 31) % 31 = (((bitI x i - d.a i) % 31 * ((d.b i + (bitI y i - d.b i) % 31) % 31)) % 31 + (d.a i * d.b i - d.u i) % 31) % 31
      rw [hb i hi]
    have e1 := sayS_is (d1B (outB d lim x y o) o y) lim x y
    have e2 := sayS_is d lim x y
    rw [hcn] at e1
    have h5 := h.rs
    rw [hS, e1, e2]
    have e3 : (d1B (outB d lim x y o) o y).rs = (outB d lim x y o).rs := rfl
    rw [e3]
    omega
  exact dl_cells (fun _ _ => rfl) hb (fun _ _ => rfl) rfl hrs fun _ _ => rfl
end Go.Proofs.Ytfdcapblgdlkaaa
