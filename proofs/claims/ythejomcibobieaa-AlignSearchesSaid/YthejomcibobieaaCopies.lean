/- Lists of structs in slices, flat; prints that are copied, prints that are equal (SamePrint, 27). -/
import Derived.Test.YthejomcibobieaaAlike
namespace Go.Proofs.Ythejomcibobieaa
open Go.RowKit

section
variable {α : Type} {sz : Nat} {f : α → List Value}
def flatG (f : α → List Value) (l : List α) : List Value := l.flatMap f
theorem flatG_len (hf : ∀ x, (f x).length = sz) (l : List α) : (flatG f l).length = l.length * sz := by
  induction l with
  | nil => simp [flatG]
  | cons x r ih => unfold flatG at ih ⊢; rw [List.flatMap_cons, List.length_append, ih, hf, List.length_cons, Nat.succ_mul]; omega
theorem flatG_at (hf : ∀ x, (f x).length = sz) (l : List α) (k : Nat) (x : α) (h : l[k]? = some x) (j : Nat) (hj : j < sz) : (flatG f l)[k * sz + j]? = (f x)[j]? := by
  induction l generalizing k with
  | nil => simp at h
  | cons y r ih =>
    have hy := hf y
    cases k with
    | zero =>
      obtain rfl : y = x := by simpa using h
      unfold flatG
      rw [List.flatMap_cons, List.getElem?_append_left (by rw [hy]; omega), Nat.zero_mul, Nat.zero_add]
    | succ k =>
      have e : (k + 1) * sz + j = sz + (k * sz + j) := by rw [Nat.succ_mul]; omega
      unfold flatG
      rw [List.flatMap_cons, List.getElem?_append_right (by rw [hy, e]; omega), hy]
      have := ih k (by simpa using h)
      unfold flatG at this
      rw [← this]
      congr 1
      omega
theorem flatG_app (l r : List α) : flatG f (l ++ r) = flatG f l ++ flatG f r := by simp [flatG]
theorem flatG_one (h1 : ∀ x, ∀ u ∈ f x, u.oneCell' = true) (l : List α) : ∀ u ∈ flatG f l, u.oneCell' = true := by
  intro u hu
  obtain ⟨x, _, hx⟩ := List.mem_flatMap.1 hu
  exact h1 x u hx
/-- a slice that holds structs -/
def Sl (sz : Nat) (f : α → List Value) (w : World) (A : Option Addr) (l : List α) : Prop :=
  l = [] ∨ ∃ b off, A = some ⟨b, off, none⟩ ∧ b < w.heap.size ∧ ∀ (k : Nat) (x : α), l[k]? = some x → ∀ j u, (f x)[j]? = some u → w.cell? ⟨b, off + k * sz + j, none⟩ = some u
theorem Sl.grow {w w' : World} {A : Option Addr} {l : List α} (h : Sl sz f w A l) (hg : Ext w w') : Sl sz f w' A l := by
  rcases h with rfl | ⟨b, off, rfl, hb, hc⟩
  · exact .inl rfl
  · exact .inr ⟨b, off, rfl, Nat.lt_of_lt_of_le hb hg.size, fun k m hm j u hu => by rw [hg.cell (by exact hb)]; exact hc k m hm j u hu⟩
theorem Sl.slc {w : World} {A : Option Addr} {l : List α} (hf : ∀ x, (f x).length = sz) (h : Sl sz f w A l) : Slc w sz A l.length (flatG f l) := by
  refine ⟨flatG_len hf l, fun hn => ?_⟩
  rcases h with rfl | ⟨b, off, rfl, hb, hc⟩
  · simp at hn
  · refine ⟨b, off, rfl, hb, fun j u hu => ?_⟩
    have hj : j < l.length * sz := by rw [← flatG_len hf l]; exact (List.getElem?_eq_some_iff.1 hu).1
    have hs : 0 < sz := by
      rcases Nat.eq_zero_or_pos sz with h | h
      · rw [h] at hj; omega
      · exact h
    have hk : j / sz < l.length := by rw [Nat.div_lt_iff_lt_mul hs]; exact hj
    have hx := List.getElem?_eq_getElem hk
    have e : j = j / sz * sz + j % sz := by rw [Nat.mul_comm]; exact (Nat.div_add_mod j sz).symm
    have hat := flatG_at hf l (j / sz) _ hx (j % sz) (Nat.mod_lt _ hs)
    rw [← e] at hat
    rw [hat] at hu
    have := hc _ _ hx _ _ hu
    rw [← this]
    congr 2
    omega
theorem Slc.sl {w : World} {A : Option Addr} {l : List α} (hf : ∀ x, (f x).length = sz) (h : Slc w sz A l.length (flatG f l)) : Sl sz f w A l := by
  rcases l with _ | ⟨x0, r⟩
  · exact .inl rfl
  · obtain ⟨b, off, rfl, hb, hc⟩ := h.2 (by simp)
    refine .inr ⟨b, off, rfl, hb, fun k x hk j u hu => ?_⟩
    have hj : j < sz := by rw [← hf x]; exact (List.getElem?_eq_some_iff.1 hu).1
    have := hc (k * sz + j) u (by rw [flatG_at hf _ k x hk j hj]; exact hu)
    rwa [← Nat.add_assoc] at this
end
abbrev Mi.cellsL (m : Mi) : List Value := [.int .i64 m.x, .int .i64 m.y, .int .u8 m.kind, .int .u8 m.dir]
theorem mi_len (m : Mi) : m.cellsL.length = 4 := rfl
theorem mi_one (m : Mi) : ∀ u ∈ m.cellsL, u.oneCell' = true := by
  intro u hu
  simp only [Mi.cellsL, List.mem_cons, List.not_mem_nil, or_false] at hu
  rcases hu with rfl | rfl | rfl | rfl <;> rfl
theorem Pts.sl {w : World} {A : Option Addr} {l : List Mi} (h : Pts w A l) : Sl 4 Mi.cellsL w A l := by
  rcases h with rfl | ⟨b, off, rfl, hb, hc⟩
  · exact .inl rfl
  · refine .inr ⟨b, off, rfl, hb, fun k m hm j u hu => ?_⟩
    obtain ⟨h0, h1, h2, h3⟩ := hc k m hm
    have hj : j < 4 := (List.getElem?_eq_some_iff.1 hu).1
    rcases (show j = 0 ∨ j = 1 ∨ j = 2 ∨ j = 3 by omega) with rfl | rfl | rfl | rfl
    · exact h0.trans hu
    · exact h1.trans hu
    · exact h2.trans hu
    · exact h3.trans hu
theorem Sl.pts {w : World} {A : Option Addr} {l : List Mi} (h : Sl 4 Mi.cellsL w A l) : Pts w A l := by
  rcases h with rfl | ⟨b, off, rfl, hb, hc⟩
  · exact .inl rfl
  · exact .inr ⟨b, off, rfl, hb, fun k m hm => ⟨hc k m hm 0 _ rfl, hc k m hm 1 _ rfl, hc k m hm 2 _ rfl, hc k m hm 3 _ rfl⟩⟩
theorem infoM : ElemInfo Try.prog 22 24 4 24 := elemInfo (z := .agg #[.int .i64 0, .int .i64 0, .int .u8 0, .int .u8 0]) Try.underlying22 (by kernel_rfl) rfl (by decide)
theorem pts_own {w : World} {base : Nat} {l : List Mi} {A : Option Addr} {c : Nat} (h : w.ownsRow base 24 4 (.slice A l.length c) l.length (flatG Mi.cellsL l)) : Pts w A l := (Slc.sl mi_len (Slc.of_own h)).pts
set_option maxHeartbeats 1000000 in
theorem samePrint_any (A B : Option Addr) (c d : Nat) (l : List Mi) (w : World) (ha : Pts w A l) (hb : Pts w B l) (hn : l.length ≤ 100) :
    Calls Try.prog 27 #[.slice A l.length c, .slice B l.length d] w fun e w' => e = .returned (.bool true) ∧ Ext w w' := by
  have hnn : ((l.length : Int) != (l.length : Int)) = false := by simp
  go_enter Try.func27, Try.ntmps27
  go_wp2_with fail
  go_loopw [5] (fun i wr => ∃ (k : Nat) (z : World), k ≤ l.length ∧ i = .int .i64 k ∧ wr = ext w z) (fun i _ => l.length - (intOf i).toNat)
  case atStart => exact ⟨0, w, Nat.zero_le _, rfl, (ext_of (Ext.refl w)).symm⟩
  case round =>
    obtain ⟨k, z, hk, rfl, rfl⟩ := hrel
    by_cases hlt : k < l.length
    · rcases ha with rfl | ⟨b, off, rfl, hb1, hc⟩
      · simp at hlt
      rcases hb with rfl | ⟨b2, off2, rfl, hb2, hc2⟩
      · simp at hlt
      have hki : (k : Int) < l.length := by omega
      have ho1 := Old.mk hb1
      have ho2 := Old.mk hb2
      obtain ⟨c0, c1, c2, c3⟩ := hc k l[k] (List.getElem?_eq_getElem hlt)
      obtain ⟨d0, d1, d2, d3⟩ := hc2 k l[k] (List.getElem?_eq_getElem hlt)
      clear hc hc2
      generalize l[k] = x at *
      go_wp2_with fail
      refine wp_region_ext (by kernel_rfl) (by kernel_rfl) ?_
      repeat (go_big_quiet_step (fail))
      refine wpQuiet_nil ?_
      rintro _ ⟨z2, rfl⟩
      go_wp2_with fail
      exact ⟨⟨k + 1, _, by omega, by go_num, (ext_of (((Ext.refl w).ext z).ext z2)).symm⟩, by simp [intOf]; omega⟩
    · obtain rfl : k = l.length := by omega
      go_wp2_with fail
      go_ret
      exact ⟨rfl, (Ext.refl w).ext z⟩
end Go.Proofs.Ythejomcibobieaa
