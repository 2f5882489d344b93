/- Plain facts: logs that differ in a person's details. -/
import Derived.Test.YtkhmjkhgmggjcaaPure2
namespace Go.Proofs.Ytkhmjkhgmggjcaa
open Go.RowKit

/-- an entry with another detail, and the salt for it -/
def redetail (x : E) (d : Int) : E := ⟨x.time, x.kind, x.person, d, bits .xor .u64 x.seal_ d, x.seal_, x.link⟩
def otherE (p : Int) (ds : List Int) (i : Nat) (x : E) : E := if x.person = p then match ds[i]? with | some d => redetail x d | none => x else x
def otherK (l : List E) (p : Int) (ds : List Int) : Nat → List E
  | 0 => l
  | k + 1 => (otherK l p ds k).set k (otherE p ds k (l.getD k E.zero))
theorem otherK_len (l : List E) (p : Int) (ds : List Int) (k : Nat) : (otherK l p ds k).length = l.length := by
  induction k with
  | zero => rfl
  | succ k ih => simp [otherK, ih]
theorem otherK_at (l : List E) (p : Int) (ds : List Int) (k i : Nat) (h : i < l.length) : (otherK l p ds k)[i]? = some (if i < k then otherE p ds i l[i] else l[i]) := by
  induction k with
  | zero => simp [otherK, h]
  | succ k ih =>
    rw [otherK, List.getElem?_set]
    by_cases hik : k = i
    · subst hik
      rw [if_pos rfl, if_pos (by rw [otherK_len]; exact h), if_pos (by omega)]
      simp [List.getElem?_eq_getElem h]
    · rw [if_neg hik, ih]
      congr 1
      by_cases h1 : i < k
      · rw [if_pos h1, if_pos (by omega)]
      · rw [if_neg h1, if_neg (by omega)]

/-- x and x' differ in the detail of the person p at most -/
structure Twin (p : Int) (x x' : E) : Prop where
  time : x'.time = x.time
  kind : x'.kind = x.kind
  person : x'.person = x.person
  sl : x'.seal_ = x.seal_
  link : x'.link = x.link
  fits : fitsB x = true → fitsB x' = true
  same : x.person ≠ p → x' = x
inductive Twins (p : Int) : List E → List E → Prop
  | nil : Twins p [] []
  | cons {x x' l l'} : Twin p x x' → Twins p l l' → Twins p (x :: l) (x' :: l')
theorem twins_of (p : Int) : ∀ (l l' : List E), l'.length = l.length → (∀ (i : Nat) x, l[i]? = some x → ∃ x', l'[i]? = some x' ∧ Twin p x x') → Twins p l l'
  | [], [], _, _ => .nil
  | [], _ :: _, h, _ => by simp at h
  | _ :: _, [], h, _ => by simp at h
  | x :: l, x' :: l', h, ht => by
    obtain ⟨y, hy, t⟩ := ht 0 x rfl
    obtain rfl : x' = y := by simpa using hy
    refine .cons t (twins_of p l l' (by simpa using h) fun i z hz => ?_)
    obtain ⟨z', h1, h2⟩ := ht (i + 1) z (by simpa using hz)
    exact ⟨z', by simpa using h1, h2⟩
theorem Twin.linkI {p : Int} {x x' : E} (h : Twin p x x') (a : Int) : linkI a x' = linkI a x := by
  unfold Go.Proofs.Ytkhmjkhgmggjcaa.linkI; rw [h.time, h.kind, h.sl]
theorem Twins.chk {p : Int} {l l' : List E} (h : Twins p l l') : ∀ q q' : E, q'.time = q.time → q'.link = q.link → chkB q l = true → chkB q' l' = true := by
  induction h with
  | nil => intro _ _ _ _ _; rfl
  | @cons x x' l l' t _ ih =>
    intro q q' h1 h2 hc
    simp only [chkB, Bool.and_eq_true] at hc ⊢
    obtain ⟨⟨⟨c1, c2⟩, c3⟩, c4⟩ := hc
    refine ⟨⟨⟨t.fits c1, ?_⟩, ?_⟩, ih x x' t.time t.link c4⟩
    · rw [h1, t.time]; exact c2
    · rw [h2, t.link, t.linkI]; exact c3
theorem Twins.len {p : Int} {l l' : List E} (h : Twins p l l') : l'.length = l.length := by
  induction h with
  | nil => rfl
  | cons _ _ ih => simp [ih]
theorem Twins.ok {p : Int} {l l' : List E} (h : Twins p l l') (hg : okB l = true) : okB l' = true := by
  simp only [okB, Bool.and_eq_true, decide_eq_true_eq] at hg ⊢
  exact ⟨by rw [h.len]; exact hg.1, h.chk _ _ rfl rfl hg.2⟩
theorem Twins.erase {p : Int} {l l' : List E} (h : Twins p l l') : eraseL l' p = eraseL l p := by
  induction h with
  | nil => rfl
  | @cons x x' l l' t _ ih =>
    simp only [eraseL, List.map_cons] at ih ⊢
    rw [ih]
    congr 1
    by_cases hp : x.person = p
    · rw [if_pos hp, if_pos (by rw [t.person]; exact hp)]
      simp [eraseE, t.time, t.kind, t.sl, t.link]
    · rw [t.same hp]
theorem Twins.cnt {p : Int} {l l' : List E} (h : Twins p l l') : cntL l' p = cntL l p := by
  induction h with
  | nil => rfl
  | @cons x x' l l' t _ ih =>
    simp only [cntL, List.filter_cons, t.person] at ih ⊢
    split <;> simp [ih]
theorem xor3 (a b : Int) (ha0 : 0 ≤ a) (ha1 : a < 18446744073709551616) (hb0 : 0 ≤ b) (hb1 : b < 18446744073709551616) : bits .xor .u64 (bits .xor .u64 a b) (bits .xor .u64 a b) = 0 := by
  have hab : a.toNat ^^^ b.toNat < 18446744073709551616 := Nat.xor_lt_two_pow (n := 64) (by omega) (by omega)
  have hx : bits .xor .u64 a b = ((a.toNat ^^^ b.toNat : Nat) : Int) := u64_xor a b ha0 ha1 hb0 hb1
  rw [hx, u64_xor _ _ (by omega) (by omega) (by omega) (by omega)]
  simp
theorem twin_redetail (p : Int) (x : E) (d : Int) (hx : x.ok) (hp : x.person = p) (hp0 : 0 ≤ p) (hd0 : 0 ≤ d) (hd1 : d < 18446744073709551616) : Twin p x (redetail x d) := by
  refine ⟨rfl, rfl, rfl, rfl, rfl, fun h => ?_, fun h => absurd hp h⟩
  simp only [fitsB, Bool.and_eq_true] at h
  obtain ⟨⟨⟨h1, h2⟩, h3⟩, _⟩ := h
  have hn : ¬ x.person < 0 := by omega
  simp only [fitsB, redetail, h1, h2, h3, hn, if_false]
  rw [xor3 x.seal_ d hx.2.2.2.2.1 hx.2.2.2.2.2 hd0 hd1]
  rfl
theorem twins_other (l : List E) (p : Int) (ds : List Int) (hl : ∀ x ∈ l, x.ok) (hp0 : 0 ≤ p) (hd : ∀ d ∈ ds, 0 ≤ d ∧ d < 18446744073709551616) : Twins p l (otherK l p ds l.length) := by
  refine twins_of p _ _ (otherK_len _ _ _ _) fun i x hx => ?_
  have hil : i < l.length := (List.getElem?_eq_some_iff.1 hx).1
  have hxe : l[i] = x := (List.getElem?_eq_some_iff.1 hx).2
  refine ⟨_, otherK_at l p ds l.length i hil, ?_⟩
  rw [if_pos hil, hxe]
  unfold otherE
  have refl : Twin p x x := ⟨rfl, rfl, rfl, rfl, rfl, id, fun _ => rfl⟩
  split
  · rename_i hp
    split
    · rename_i d hd'
      have := hd d (List.mem_of_getElem? hd')
      exact twin_redetail p x d (hl x (List.mem_of_getElem? hx)) hp hp0 this.1 this.2
    · exact refl
  · exact refl

theorem flat_set1 (l : List E) (k : Nat) (x : E) (h : l[k]? = some x) (d s : Int) :
    ((flat l).set (k * 7 + 3) (.int .u64 d)).set (k * 7 + 4) (.int .u64 s) = flat (l.set k ⟨x.time, x.kind, x.person, d, s, x.seal_, x.link⟩) := by
  induction l generalizing k with
  | nil => simp at h
  | cons y r ih =>
    cases k with
    | zero =>
      obtain rfl : y = x := by simpa using h
      simp [flat_cons, E.cellsL]
    | succ k =>
      have hk := ih k (by simpa using h)
      rw [List.set_cons_succ, flat_cons, flat_cons, ← hk]
      have hy : y.cellsL.length = 7 := rfl
      rw [List.set_append_right _ _ (by rw [hy]; omega), List.set_append_right _ _ (by rw [hy]; omega), hy]
      congr 2
      · congr 1; omega
      · omega

theorem about_erased (l : List E) (p : Int) (hp0 : 0 ≤ p) : aboutL (eraseL l p) p = [] := by
  have : ∀ n, n ≤ (eraseL l p).length → aboutK (eraseL l p) p n = [] := by
    intro n
    induction n with
    | zero => intro _; simp [aboutK]
    | succ n ih =>
      intro hn
      rw [aboutK_succ _ _ n (by omega), ih (by omega)]
      have : ¬ ((eraseL l p)[n]).person = p := by
        simp only [eraseL, List.getElem_map]
        split
        · simp only [eraseE]; omega
        · assumption
      simp [this]
  exact this _ (Nat.le_refl _)
end Go.Proofs.Ytkhmjkhgmggjcaa
