/- Lists in a block of their own: made, filled, read. -/
import Derived.Test.YtfdcapblgdlkaaaOrder
import Derived.Test.YtfdcapblgdlkaaaRest
import Derived.OwnWalk
namespace Go.Proofs.Ytfdcapblgdlkaaa
open Go.RowKit

/-- The values xs stand at the head of block g, of capacity c. -/
def Lst (t : TypeId) (w : World) (g c : Nat) (xs : List Value) : Prop := ∃ cur : Array Value, Blk w g t cur ∧ xs.length ≤ c ∧ c ≤ maxLen ∧ ∀ j, j < xs.length → cur[j]? = xs[j]?
section
variable {t : TypeId} {w w' : World} {g c : Nat} {xs : List Value}
theorem Lst.grow (h : Lst t w g c xs) (he : Ext w w') : Lst t w' g c xs := by
  obtain ⟨cur, hB, r⟩ := h
  exact ⟨cur, hB.grow he, r⟩
theorem Lst.at_ (h : Lst t w g c xs) (j : Nat) (hj : j < xs.length) : w.cell? ⟨g, j, none⟩ = xs[j]? := by
  obtain ⟨cur, hB, _, _, hat⟩ := h
  exact (hB.cell j).trans (hat j hj)
theorem Lst.lt (h : Lst t w g c xs) : g < w.heap.size := by obtain ⟨cur, hB, _⟩ := h; exact hB.lt
theorem Lst.of_blk {xs : List Value} (h : Blk w g t xs.toArray) (hm : xs.length ≤ maxLen) : Lst t w g xs.length xs := ⟨_, h, Nat.le_refl _, hm, fun j _ => by simp⟩
theorem lst_of_own {base : Nat} {A : Option Addr} {n : Nat} (hl : 0 < n) (hn : xs.length = n) (h : w.ownsRow base t 1 (.slice A n c) n xs) : ∃ g, A = some ⟨g, 0, none⟩ ∧ base ≤ g ∧ Lst t w g c xs := by
  obtain ⟨_, h | ⟨g, cap, cur, hv, hb, hh, hn2, hm, hs, ht⟩⟩ := h
  · omega
  · injection hv with h1 h2 h3
    subst h1 h3
    refine ⟨g, rfl, hb, cur, hh, by omega, hm, fun j hj => ?_⟩
    have h4 : (cur.toList.take (n * 1))[j]? = xs[j]? := by rw [ht]
    rw [List.getElem?_take, if_pos (by omega)] at h4
    simpa using h4
end
def ZInfo (P : Program) (t e : TypeId) (z : Value) : Prop := P.underlying t = some (.slice e) ∧ ∃ i, P.info? e = some i ∧ i.zero = some z ∧ i.size = 1 ∧ i.bytes ≤ 8 ∧ z.cells = #[z]
theorem zInfo {P : Program} {t e : TypeId} {z : Value} {bytes : Nat} (ht : P.underlying t = some (.slice e)) (h : (P.info? e).map (fun i => (i.zero, i.size, i.bytes)) = some (some z, 1, bytes)) (hb : bytes ≤ 8) (hz : z.cells = #[z]) : ZInfo P t e z := by
  obtain ⟨i, h1, h2, h3, h4⟩ := info_parts h
  exact ⟨ht, i, h1, h2, h3, by omega, hz⟩
theorem made_one (z : Value) (n : Nat) : madeCells #[z] n = Array.replicate n z := by
  unfold madeCells
  apply Array.ext
  · simp
  · intro i h1 h2
    simp [Nat.mod_one]
theorem wpList_make_blk {P : Program} (w : World) {ops : Array Oper} {rest : List Oper} {o : Oper} {a : Act} {Q : Exit → Act → World → Prop}
    (hg : o.guard = none) (l c : Operand) (t : TypeId) (hop : o.op = Op.makeSlice t l c) (e : TypeId) (z : Value) (hI : ZInfo P t e z) (n : Nat) (hn : n ≤ 65536) (hl : a.eval l = .int .i64 (n : Int)) (hc : a.eval c = .int .i64 (n : Int))
    (hK : ∀ x, Blk (ext w x) w.heap.size e (Array.replicate n z) → wpList P ops Q rest (a.put o.dst (.slice (some ⟨w.heap.size, 0, none⟩) n n)) (ext w x)) : wpList P ops Q (o :: rest) a w := by
  obtain ⟨h1, i, h2, h3, h4, h5, h6⟩ := hI
  refine wpList_make_full w hg l c t hop w.heap.size e i z 1 h1 h2 h3 h4 .i64 .i64 n n n hl hc rfl rfl ?_ (by unfold maxLen; omega) (Nat.le_refl _) ?_
  · have := Nat.mul_le_mul h5 hn; omega
  · intro w' hown hgr
    have hE : Ext w w' := (Ext.refl w).grown hgr (fun k h => by cases h)
    have := hK w'
    rw [ext_of hE] at this
    refine this ?_
    obtain ⟨_, ⟨h, _⟩ | ⟨g, cap, cur, hv, hb, hh, hn2, hm, hs, ht⟩⟩ := hown
    · injection h with h; cases h
    · injection hv with e1 e2 e3
      injection e1 with e1
      injection e1 with e1
      subst e1 e3
      have hcur : cur = Array.replicate n z := by
        have h7 : cur.toList.take (n * 1) = cur.toList := List.take_of_length_le (by simp; omega)
        rw [h7, h6, made_one, Nat.mul_one] at ht
        exact Array.toList_inj.1 ht
      rw [← hcur]; exact hh
/-- the first k cells of n are filled -/
def fillA (n : Nat) (z : Value) (f : Nat → Value) (k : Nat) : Array Value := ((List.range n).map fun i => if i < k then f i else z).toArray
theorem fill_size (n : Nat) (z : Value) (f : Nat → Value) (k : Nat) : (fillA n z f k).size = n := by simp [fillA]
theorem fill_at (n : Nat) (z : Value) (f : Nat → Value) (k i : Nat) (h : i < n) : (fillA n z f k)[i]? = some (if i < k then f i else z) := by
  simp [fillA, h]
theorem fill_zero (n : Nat) (z : Value) (f : Nat → Value) : fillA n z f 0 = Array.replicate n z := by
  apply Array.ext
  · simp [fillA]
  · intro i h1 h2; simp [fillA]
theorem fill_set (n : Nat) (z : Value) (f : Nat → Value) (k : Nat) (v : Value) (hv : v = f k) : (fillA n z f k).setIfInBounds k v = fillA n z f (k + 1) := by
  subst hv
  apply Array.ext
  · simp [fillA]
  · intro i h1 h2
    have hi : i < n := by simpa [fillA] using h2
    rw [Array.getElem_setIfInBounds (by simpa [fillA] using hi)]
    simp only [fillA, List.getElem_toArray, List.getElem_map, List.getElem_range]
    by_cases h : k = i
    · subst h; simp
    · rw [if_neg h]
      have : (i < k + 1) ↔ (i < k) := by omega
      simp only [this]
def valL (n : Nat) (f : Nat → Value) : List Value := (List.range n).map f
theorem valL_len (n : Nat) (f : Nat → Value) : (valL n f).length = n := by simp [valL]
theorem valL_at (n : Nat) (f : Nat → Value) (i : Nat) (h : i < n) : (valL n f)[i]? = some (f i) := by simp [valL, h]
theorem fill_full (n : Nat) (z : Value) (f : Nat → Value) : fillA n z f n = (valL n f).toArray := by
  unfold fillA valL
  congr 1
  apply List.map_congr_left
  intro i hi
  rw [if_pos (List.mem_range.1 hi)]
/-- A call returns a list of its own, full. -/
def RetL (t : TypeId) (xs : List Value) (w : World) (en : Ending) (w' : World) : Prop :=
  ∃ g, en = .returned (.slice (some ⟨g, 0, none⟩) xs.length xs.length) ∧ w.heap.size ≤ g ∧ Blk w' g t xs.toArray ∧ Ext w w'
theorem calls_list {P : Program} {f : FuncId} {args : Array Value} {w : World} {t : TypeId} {xs : List Value} {R : Ending → World → Prop}
    (h : Calls P f args w (RetL t xs w)) (hR : ∀ g z, w.heap.size ≤ g → Blk (ext w z) g t xs.toArray → R (.returned (.slice (some ⟨g, 0, none⟩) xs.length xs.length)) (ext w z)) : Calls P f args w R :=
  h.mono fun en w' ⟨g, he, hg, hb, hw⟩ => by
    subst he
    have := hR g w' hg
    rw [ext_of hw] at this
    exact this hb
theorem zInfo16 : ZInfo Try.prog 123 27 (.int .u16 0) := zInfo (bytes := 2) Try.underlying123 (by kernel_rfl) (by omega) rfl
theorem zInfoI : ZInfo Try.prog 56 3 (.int .i64 0) := zInfo (bytes := 8) Try.underlying56 (by kernel_rfl) (by omega) rfl

/-- a word out of bits -/
def wordF : Nat → (Nat → Bool) → BitVec 16
  | 0, _ => 0#16
  | n + 1, f => wordF n f ||| ((if f n then 1#16 else 0#16) <<< n)
theorem wordF_at (n : Nat) (f : Nat → Bool) (i : Nat) (hi : i < 16) : (wordF n f).getLsbD i = (decide (i < n) && f i) := by
  induction n with
  | zero => simp [wordF]
  | succ n ih =>
    rw [wordF, BitVec.getLsbD_or, ih, BitVec.getLsbD_shiftLeft]
    by_cases h : i = n
    · subst h
      cases hf : f i <;> simp [hi]
    · have e : (if f n = true then 1#16 else 0#16).getLsbD (i - n) = true → i < n ∨ i = n := by
        intro h2
        cases hf : f n <;> simp [hf] at h2
        omega
      rcases Nat.lt_or_ge i n with h1 | h1
      · simp [h1, show i < n + 1 by omega]
      · have e2 : (if f n = true then 1#16 else 0#16).getLsbD (i - n) = false := by
          cases hq : (if f n = true then 1#16 else 0#16).getLsbD (i - n) with
          | false => rfl
          | true => have := e hq; omega
        rw [e2]
        simp [show ¬ i < n by omega, show ¬ i < n + 1 by omega]
end Go.Proofs.Ytfdcapblgdlkaaa
