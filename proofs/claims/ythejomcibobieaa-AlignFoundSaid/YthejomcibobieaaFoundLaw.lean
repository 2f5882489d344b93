/- A print that is shifted and bent: what is found (plain). -/
import Derived.Test.YthejomcibobieaaSorted
import Derived.Test.YthejomcibobieaaAlive
import Derived.Test.YthejomcibobieaaGrowLaw
import Derived.Test.YthejomcibobieaaOneLaw
namespace Go.Proofs.Ythejomcibobieaa
open Go.RowKit

theorem found0X (m : Mi) : turnX m 0 = m.x := by
  unfold turnX cosI sinI
  simp only [if_true]
  omega
theorem found0Y (m : Mi) : turnY m 0 = m.y := by
  unfold turnY cosI sinI
  simp only [if_true]
  omega
theorem found0D {m : Mi} (h : 0 ≤ m.dir ∧ m.dir ≤ 7) : turnD m 0 = 2 * m.dir := by
  unfold turnD
  omega
/-- the image of a point -/
def imgF (dx dy : Int) (b : Nat → Int) (m : Mi) : Mi := ⟨m.x + dx, m.y + dy + b (m.x / 16).toNat, m.kind, m.dir⟩
def inP (m : Mi) : Bool := decide (0 ≤ m.x) && decide (m.x < 64) && decide (0 ≤ m.y) && decide (m.y < 64)
theorem inP_iff {m : Mi} : inP m = true ↔ 0 ≤ m.x ∧ m.x < 64 ∧ 0 ≤ m.y ∧ m.y < 64 := by simp [inP, and_assoc]
def qOf (dx dy : Int) (b : Nat → Int) (l : List Mi) : List Mi := (l.map (imgF dx dy b)).filter inP
theorem qOf_app (dx dy : Int) (b : Nat → Int) (l : List Mi) (m : Mi) : qOf dx dy b (l ++ [m]) = if inP (imgF dx dy b m) then qOf dx dy b l ++ [imgF dx dy b m] else qOf dx dy b l := by
  unfold qOf
  rw [List.map_append, List.filter_append]
  cases h : inP (imgF dx dy b m) <;> simp [h]
theorem qOf_len (dx dy : Int) (b : Nat → Int) (l : List Mi) : (qOf dx dy b l).length ≤ l.length := by
  have := List.length_filter_le inP (l.map (imgF dx dy b))
  simpa [qOf] using this
def kyM (m : Mi) : Int := m.y * 64 + m.x
theorem chP_pair : ∀ (l : List Mi) (x : Int), chP x l = true → (∀ m ∈ l, x < kyM m ∧ okM m = true) ∧ l.Pairwise (fun a b => kyM a < kyM b)
  | [], _, _ => ⟨by simp, List.Pairwise.nil⟩
  | y :: r, x, h => by
    simp only [chP, Bool.and_eq_true, decide_eq_true_eq] at h
    obtain ⟨h1, h2⟩ := chP_pair r _ h.2
    refine ⟨fun m hm => ?_, List.pairwise_cons.2 ⟨fun m hm => (h1 m hm).1, h2⟩⟩
    rcases List.mem_cons.1 hm with rfl | hm
    · exact ⟨h.1.2, h.1.1⟩
    · have h3 := h1 m hm
      have h4 := h.1.2
      exact ⟨by unfold kyM at *; omega, h3.2⟩
theorem chP_of : ∀ (l : List Mi) (x : Int), (∀ m ∈ l, x < kyM m ∧ okM m = true) → l.Pairwise (fun a b => kyM a < kyM b) → chP x l = true
  | [], _, _, _ => rfl
  | y :: r, x, h1, h2 => by
    obtain ⟨p1, p2⟩ := List.pairwise_cons.1 h2
    simp only [chP, Bool.and_eq_true, decide_eq_true_eq]
    obtain ⟨a1, a2⟩ := h1 y (by simp)
    exact ⟨⟨a2, a1⟩, chP_of r _ (fun m hm => ⟨p1 m hm, (h1 m (by simp [hm])).2⟩) p2⟩
theorem img_inj {dx dy : Int} {b : Nat → Int} {m n : Mi} (h1 : inP (imgF dx dy b m) = true) (h2 : inP (imgF dx dy b n) = true) (hm : okM m = true) (hn : okM n = true) (h : kyM (imgF dx dy b m) = kyM (imgF dx dy b n)) : kyM m = kyM n := by
  have a1 := inP_iff.1 h1
  have a2 := inP_iff.1 h2
  unfold kyM imgF at *
  dsimp only at *
  have hx : m.x = n.x := by omega
  rw [hx] at h ⊢
  omega
theorem qOf_mem {dx dy : Int} {b : Nat → Int} {l : List Mi} {x : Mi} : x ∈ qOf dx dy b l ↔ (∃ m ∈ l, imgF dx dy b m = x) ∧ inP x = true := by
  unfold qOf
  rw [List.mem_filter, List.mem_map]
theorem qOf_keys {dx dy : Int} {b : Nat → Int} : ∀ {l : List Mi}, (∀ m ∈ l, okM m = true) → l.Pairwise (fun a b => kyM a < kyM b) → (qOf dx dy b l).Pairwise (fun a b => kyM a ≠ kyM b)
  | [], _, _ => List.Pairwise.nil
  | y :: r, h1, h2 => by
    obtain ⟨p1, p2⟩ := List.pairwise_cons.1 h2
    have ih := qOf_keys (dx := dx) (dy := dy) (b := b) (fun m hm => h1 m (by simp [hm])) p2
    unfold qOf at *
    rw [List.map_cons, List.filter_cons]
    split
    · rename_i hin
      refine List.pairwise_cons.2 ⟨fun x hx => ?_, ih⟩
      obtain ⟨⟨m, hm, rfl⟩, hx2⟩ := qOf_mem.1 hx
      intro e
      have := img_inj hin hx2 (h1 y (by simp)) (h1 m (by simp [hm])) e
      have := p1 m hm
      omega
    · exact ih
/-- what is sorted is a print -/
theorem found_ok {dx dy : Int} {b : Nat → Int} {l r : List Mi} (hl : okP l = true) (hp : r.Perm (qOf dx dy b l)) (hs : r.Pairwise leR) : okP r = true ∧ r.Pairwise (fun a b => kyM a < kyM b) := by
  simp only [okP, Bool.and_eq_true, decide_eq_true_eq] at hl
  obtain ⟨c1, c2⟩ := chP_pair l _ hl.2
  have hk := qOf_keys (dx := dx) (dy := dy) (b := b) (fun m hm => (c1 m hm).2) c2
  have hk2 : r.Pairwise (fun a b => kyM a ≠ kyM b) := (hp.pairwise_iff (fun h => fun e => h e.symm)).2 hk
  have hin : ∀ x ∈ r, inP x = true ∧ okM x = true := fun x hx => by
    obtain ⟨⟨m, hm, rfl⟩, h2⟩ := qOf_mem.1 (hp.mem_iff.1 hx)
    refine ⟨h2, ?_⟩
    have a1 := inP_iff.1 h2
    have a2 := (c1 m hm).2
    simp only [okM, Bool.and_eq_true, inB_iff] at a2 ⊢
    exact ⟨⟨⟨⟨a1.1, by omega⟩, ⟨a1.2.2.1, by omega⟩⟩, a2.1.2⟩, a2.2⟩
  have hlt : r.Pairwise (fun a b => kyM a < kyM b) := by
    refine List.Pairwise.imp_of_mem ?_ (hs.and hk2)
    intro a b ha hb h
    have a1 := inP_iff.1 (hin a ha).1
    have a2 := inP_iff.1 (hin b hb).1
    have h1 := ltM_not.1 h.1
    have h2 := h.2
    unfold kyM at *
    omega
  refine ⟨?_, hlt⟩
  simp only [okP, Bool.and_eq_true, decide_eq_true_eq]
  refine ⟨?_, chP_of r _ (fun m hm => ⟨?_, (hin m hm).2⟩) hlt⟩
  · have := hp.length_eq
    have := qOf_len dx dy b l
    omega
  · have a1 := inP_iff.1 (hin m hm).1
    unfold kyM
    omega
/-- all of its points are found -/
theorem found_score {c : Cl} (hc : c.ok) {dx dy : Int} {b : Nat → Int} {l r : List Mi} (hl : ∀ m ∈ l, m.ok) (hp : r.Perm (qOf dx dy b l)) (hr : r.Pairwise (fun a b => kyM a < kyM b)) : scrK c l r ⟨0, dx, dy⟩ b = r.length := by
  have hm := mmk_max (nbF r.length (mayL c l r ⟨0, dx, dy⟩ b)) l.length
  have hub := isMax_right (n := r.length) (fun i j _ hj => (mem_nbF.1 hj).1) hm
  have hex : ∀ j, ∃ i, j < r.length → i < l.length ∧ ∃ m x, l[i]? = some m ∧ r[j]? = some x ∧ imgF dx dy b m = x := by
    intro j
    by_cases hj : j < r.length
    · obtain ⟨⟨m, hm, e⟩, -⟩ := qOf_mem.1 (hp.mem_iff.1 (List.getElem_mem hj))
      obtain ⟨i, hi⟩ := List.getElem?_of_mem hm
      exact ⟨i, fun _ => ⟨(List.getElem?_eq_some_iff.1 hi).1, m, _, hi, List.getElem?_eq_getElem hj, e⟩⟩
    · exact ⟨0, fun h => absurd h hj⟩
  obtain ⟨f, hf⟩ := Classical.axiomOfChoice hex
  have hinj : ∀ j j', j < r.length → j' < r.length → f j = f j' → j = j' := by
    intro j j' h1 h2 e
    obtain ⟨-, m, x, a1, a2, a3⟩ := hf j h1
    obtain ⟨-, m', x', b1, b2, b3⟩ := hf j' h2
    rw [e, b1] at a1
    injection a1 with a1
    subst a1
    have e2 : x' = x := b3.symm.trans a3
    subst e2
    rw [List.getElem?_eq_getElem h1] at a2
    rw [List.getElem?_eq_getElem h2] at b2
    injection a2 with a2
    injection b2 with b2
    have hpi := List.pairwise_iff_getElem.1 hr
    rcases Nat.lt_trichotomy j j' with h | h | h
    · have := hpi j j' h1 h2 h
      rw [a2, b2] at this
      omega
    · exact h
    · have := hpi j' j h2 h1 h
      rw [a2, b2] at this
      omega
  have hmat : Mat (nbF r.length (mayL c l r ⟨0, dx, dy⟩ b)) l.length ((List.range r.length).map fun j => (f j, j)) := by
    refine ⟨?_, ?_, ?_⟩
    · rw [List.map_map]
      exact nodup_map_of (f := id) (List.range r.length) (by rw [List.map_id]; exact List.nodup_range) fun x hx y hy h => hinj x y (List.mem_range.1 hx) (List.mem_range.1 hy) h
    · rw [List.map_map]
      have : ((fun p : Nat × Nat => p.2) ∘ fun j => (f j, j)) = id := by funext j; rfl
      rw [this, List.map_id]
      exact List.nodup_range
    · intro p hpp
      obtain ⟨j, hj, rfl⟩ := List.mem_map.1 hpp
      obtain ⟨h1, m, x, a1, a2, a3⟩ := hf j (List.mem_range.1 hj)
      refine ⟨h1, mem_nbF.2 ⟨List.mem_range.1 hj, ?_⟩⟩
      unfold mayL
      rw [a1, a2]
      dsimp only
      have hmo := hl m (List.mem_of_getElem? a1)
      unfold alikeB placeX placeY turnO absD
      rw [found0X, found0Y, found0D hmo.dir]
      subst a3
      unfold imgF
      have c1 := hc.reach
      have c2 := hc.spread
      simp only [Bool.and_eq_true, decide_eq_true_eq]
      refine ⟨⟨⟨trivial, ?_⟩, ?_⟩, ?_⟩
      · show max (m.x + dx - (m.x + dx)) (-(m.x + dx - (m.x + dx))) ≤ c.reach
        omega
      · show max (m.y + dy + b (m.x / 16).toNat - (m.y + dy + b (m.x / 16).toNat)) (-(m.y + dy + b (m.x / 16).toNat - (m.y + dy + b (m.x / 16).toNat))) ≤ c.reach
        omega
      · show min (max (2 * m.dir - 2 * m.dir) (-(2 * m.dir - 2 * m.dir))) (16 - max (2 * m.dir - 2 * m.dir) (-(2 * m.dir - 2 * m.dir))) ≤ c.spread
        omega
  have := hm.most _ hmat
  rw [List.length_map, List.length_range] at this
  unfold scrK
  omega
theorem found_best {c : Cl} (hc : c.ok) {dx dy : Int} {b : Bd} {l r : List Mi} (hl : ∀ m ∈ l, m.ok) (hmv : isMove c ⟨0, dx, dy⟩ = true) (hb : isBend c.elastic b.f = true) (hsc : scrK c l r ⟨0, dx, dy⟩ b.f = r.length) {s : St} (hs : s = runS (bndK c l r) (trK c l r) 2000 (startS (bndK c l r) c)) : scoreS s = r.length ∧ boundS s = r.length := by
  obtain ⟨h1, h2, h3⟩ := full_law hc hl hs
  have h4 := h2 _ hmv
  have h5 := (trK_best hc l r ⟨0, dx, dy⟩).1 b hb
  rw [hsc] at h5
  have h6 : scoreS s ≤ r.length := by
    rcases h3 with h3 | ⟨v, hv, h3⟩
    · omega
    · obtain ⟨-, -, -, -, h7, -⟩ := trK_best hc l r v
      have := (scrK_le c l r v (trK c l r v).bd.f).2
      omega
  omega
end Go.Proofs.Ythejomcibobieaa
