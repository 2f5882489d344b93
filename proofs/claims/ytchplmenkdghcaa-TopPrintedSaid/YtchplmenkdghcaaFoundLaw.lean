/- The full search; a greater class. -/
import Derived.Test.YtchplmenkdghcaaProm
import Derived.Test.YtchplmenkdghcaaScores
import Derived.Test.YtchplmenkdghcaaMm
import Derived.Test.YtchplmenkdghcaaTops
import Derived.Test.YtchplmenkdghcaaAlive
import Derived.Test.YtchplmenkdghcaaTopLaw
namespace Go.Proofs.Ytchplmenkdghcaa
open Go.RowKit
/-- the full search finds the best -/
theorem full_law {c : Cl} (hc : c.ok) {lp lq : List Mi} (hp : ∀ m ∈ lp, m.ok) {s : St} (hs : s = runS (bndK c lp lq) (trK c lp lq) 2000 (startS (bndK c lp lq) c)) :
    boundS s = scoreS s ∧ (∀ v, isMove c v = true → (trK c lp lq v).score ≤ scoreS s) ∧ (scoreS s = 0 ∨ ∃ v, isMove c v = true ∧ scoreS s = (trK c lp lq v).score) := by
  have P := prom hc lp lq hp
  have I0 : Inv c (bndK c lp lq) (trK c lp lq) (startS (bndK c lp lq) c) := inv_start hc
  obtain ⟨h1, -, -, -, h2⟩ := run_inv P 2000 _ I0
  rw [← hs] at h1 h2
  have h3 := stop_eq (h2 (by have := meas_start (bnd := bndK c lp lq) hc; omega))
  refine ⟨h3, fun v hv => ?_, inv_score h1⟩
  rw [← h3]
  exact inv_le P h1 hv
end Go.Proofs.Ytchplmenkdghcaa
/- Taking one point out of a print: the scores' law. -/
namespace Go.Proofs.Ytchplmenkdghcaa
open Go.RowKit
theorem nodup_map_of {α β γ : Type} {f : α → β} {g : α → γ} : ∀ (l : List α), (l.map f).Nodup → (∀ x ∈ l, ∀ y ∈ l, g x = g y → f x = f y) → (l.map g).Nodup
  | [], _, _ => by simp
  | x :: l, h, hg => by
    simp only [List.map_cons, List.nodup_cons, List.mem_map, not_exists, not_and] at h ⊢
    refine ⟨fun y hy e => h.1 y hy (hg y (.tail _ hy) x (.head _) e), nodup_map_of l h.2 fun y hy z hz e => hg y (.tail _ hy) z (.tail _ hz) e⟩
end Go.Proofs.Ytchplmenkdghcaa
/- A print that is shifted and bent: what is found (plain). -/
namespace Go.Proofs.Ytchplmenkdghcaa
open Go.RowKit
theorem found0X (m : Mi) : turnX m 0 = m.x := by
  unfold turnX cosI sinI
  simp only [if_true]
  omega
theorem found0Y (m : Mi) : turnY m 0 = m.y := by
  unfold turnY cosI sinI
  simp only [if_true]
  omega
theorem found0D {m : Mi} (h : 0 ≤ m.dir ∧ m.dir ≤ 7) : turnD m 0 = 2 * m.dir := by
  unfold turnD
  omega
/-- the image of a point -/
def imgF (dx dy : Int) (b : Nat → Int) (m : Mi) : Mi := ⟨m.x + dx, m.y + dy + b (m.x / 16).toNat, m.kind, m.dir⟩
def inP (m : Mi) : Bool := decide (0 ≤ m.x) && decide (m.x < 64) && decide (0 ≤ m.y) && decide (m.y < 64)
theorem inP_iff {m : Mi} : inP m = true ↔ 0 ≤ m.x ∧ m.x < 64 ∧ 0 ≤ m.y ∧ m.y < 64 := by simp [inP, and_assoc]
def qOf (dx dy : Int) (b : Nat → Int) (l : List Mi) : List Mi := (l.map (imgF dx dy b)).filter inP
theorem qOf_len (dx dy : Int) (b : Nat → Int) (l : List Mi) : (qOf dx dy b l).length ≤ l.length := by
  have := List.length_filter_le inP (l.map (imgF dx dy b))
  simpa [qOf] using this
def kyM (m : Mi) : Int := m.y * 64 + m.x
theorem chP_pair : ∀ (l : List Mi) (x : Int), chP x l = true → (∀ m ∈ l, x < kyM m ∧ okM m = true) ∧ l.Pairwise (fun a b => kyM a < kyM b)
  | [], _, _ => ⟨by simp, List.Pairwise.nil⟩
  | y :: r, x, h => by
    simp only [chP, Bool.and_eq_true, decide_eq_true_eq] at h
    obtain ⟨h1, h2⟩ := chP_pair r _ h.2
    refine ⟨fun m hm => ?_, List.pairwise_cons.2 ⟨fun m hm => (h1 m hm).1, h2⟩⟩
    rcases List.mem_cons.1 hm with rfl | hm
    · exact ⟨h.1.2, h.1.1⟩
    · have h3 := h1 m hm
      have h4 := h.1.2
      exact ⟨by unfold kyM at *; omega, h3.2⟩
theorem chP_of : ∀ (l : List Mi) (x : Int), (∀ m ∈ l, x < kyM m ∧ okM m = true) → l.Pairwise (fun a b => kyM a < kyM b) → chP x l = true
  | [], _, _, _ => rfl
  | y :: r, x, h1, h2 => by
    obtain ⟨p1, p2⟩ := List.pairwise_cons.1 h2
    simp only [chP, Bool.and_eq_true, decide_eq_true_eq]
    obtain ⟨a1, a2⟩ := h1 y (by simp)
    exact ⟨⟨a2, a1⟩, chP_of r _ (fun m hm => ⟨p1 m hm, (h1 m (by simp [hm])).2⟩) p2⟩
theorem img_inj {dx dy : Int} {b : Nat → Int} {m n : Mi} (h1 : inP (imgF dx dy b m) = true) (h2 : inP (imgF dx dy b n) = true) (_hm : okM m = true) (_hn : okM n = true) (h : kyM (imgF dx dy b m) = kyM (imgF dx dy b n)) : kyM m = kyM n := by
  have a1 := inP_iff.1 h1
  have a2 := inP_iff.1 h2
  unfold kyM imgF at *
  dsimp only at *
  have hx : m.x = n.x := by omega
  rw [hx] at h ⊢
  omega
theorem qOf_mem {dx dy : Int} {b : Nat → Int} {l : List Mi} {x : Mi} : x ∈ qOf dx dy b l ↔ (∃ m ∈ l, imgF dx dy b m = x) ∧ inP x = true := by
  unfold qOf
  rw [List.mem_filter, List.mem_map]
theorem qOf_keys {dx dy : Int} {b : Nat → Int} : ∀ {l : List Mi}, (∀ m ∈ l, okM m = true) → l.Pairwise (fun a b => kyM a < kyM b) → (qOf dx dy b l).Pairwise (fun a b => kyM a ≠ kyM b)
  | [], _, _ => List.Pairwise.nil
  | y :: r, h1, h2 => by
    obtain ⟨p1, p2⟩ := List.pairwise_cons.1 h2
    have ih := qOf_keys (dx := dx) (dy := dy) (b := b) (fun m hm => h1 m (by simp [hm])) p2
    unfold qOf at *
    rw [List.map_cons, List.filter_cons]
    split
    · rename_i hin
      refine List.pairwise_cons.2 ⟨fun x hx => ?_, ih⟩
      obtain ⟨⟨m, hm, rfl⟩, hx2⟩ := qOf_mem.1 hx
      intro e
      have := img_inj hin hx2 (h1 y (by simp)) (h1 m (by simp [hm])) e
      have := p1 m hm
      omega
    · exact ih
/-- what is sorted is a print -/
theorem found_ok {dx dy : Int} {b : Nat → Int} {l r : List Mi} (hl : okP l = true) (hp : r.Perm (qOf dx dy b l)) (hs : r.Pairwise leR) : okP r = true ∧ r.Pairwise (fun a b => kyM a < kyM b) := by
  simp only [okP, Bool.and_eq_true, decide_eq_true_eq] at hl
  obtain ⟨c1, c2⟩ := chP_pair l _ hl.2
  have hk := qOf_keys (dx := dx) (dy := dy) (b := b) (fun m hm => (c1 m hm).2) c2
  have hk2 : r.Pairwise (fun a b => kyM a ≠ kyM b) := (hp.pairwise_iff (fun h => fun e => h e.symm)).2 hk
  have hin : ∀ x ∈ r, inP x = true ∧ okM x = true := fun x hx => by
    obtain ⟨⟨m, hm, rfl⟩, h2⟩ := qOf_mem.1 (hp.mem_iff.1 hx)
    refine ⟨h2, ?_⟩
    have a1 := inP_iff.1 h2
    have a2 := (c1 m hm).2
    simp only [okM, Bool.and_eq_true, inB_iff] at a2 ⊢
    exact ⟨⟨⟨⟨a1.1, by omega⟩, ⟨a1.2.2.1, by omega⟩⟩, a2.1.2⟩, a2.2⟩
  have hlt : r.Pairwise (fun a b => kyM a < kyM b) := by
    refine List.Pairwise.imp_of_mem ?_ (hs.and hk2)
    intro a b ha hb h
    have a1 := inP_iff.1 (hin a ha).1
    have a2 := inP_iff.1 (hin b hb).1
    have h1 := ltM_not.1 h.1
    have h2 := h.2
    unfold kyM at *
    omega
  refine ⟨?_, hlt⟩
  simp only [okP, Bool.and_eq_true, decide_eq_true_eq]
  refine ⟨?_, chP_of r _ (fun m hm => ⟨?_, (hin m hm).2⟩) hlt⟩
  · have := hp.length_eq
    have := qOf_len dx dy b l
    omega
  · have a1 := inP_iff.1 (hin m hm).1
    unfold kyM
    omega
/-- all of its points are found -/
theorem found_score {c : Cl} (hc : c.ok) {dx dy : Int} {b : Nat → Int} {l r : List Mi} (hl : ∀ m ∈ l, m.ok) (hp : r.Perm (qOf dx dy b l)) (hr : r.Pairwise (fun a b => kyM a < kyM b)) : scrK c l r ⟨0, dx, dy⟩ b = r.length := by
  have hm := mmk_max (nbF r.length (mayL c l r ⟨0, dx, dy⟩ b)) l.length
  have hub := isMax_right (n := r.length) (fun i j _ hj => (mem_nbF.1 hj).1) hm
  have hex : ∀ j, ∃ i, j < r.length → i < l.length ∧ ∃ m x, l[i]? = some m ∧ r[j]? = some x ∧ imgF dx dy b m = x := by
    intro j
    by_cases hj : j < r.length
    · obtain ⟨⟨m, hm, e⟩, -⟩ := qOf_mem.1 (hp.mem_iff.1 (List.getElem_mem hj))
      obtain ⟨i, hi⟩ := List.getElem?_of_mem hm
      exact ⟨i, fun _ => ⟨(List.getElem?_eq_some_iff.1 hi).1, m, _, hi, List.getElem?_eq_getElem hj, e⟩⟩
    · exact ⟨0, fun h => absurd h hj⟩
  obtain ⟨f, hf⟩ := Classical.axiomOfChoice hex
  have hinj : ∀ j j', j < r.length → j' < r.length → f j = f j' → j = j' := by
    intro j j' h1 h2 e
    obtain ⟨-, m, x, a1, a2, a3⟩ := hf j h1
    obtain ⟨-, m', x', b1, b2, b3⟩ := hf j' h2
    rw [e, b1] at a1
    injection a1 with a1
    subst a1
    have e2 : x' = x := b3.symm.trans a3
    subst e2
    rw [List.getElem?_eq_getElem h1] at a2
    rw [List.getElem?_eq_getElem h2] at b2
    injection a2 with a2
    injection b2 with b2
    have hpi := List.pairwise_iff_getElem.1 hr
    rcases Nat.lt_trichotomy j j' with h | h | h
    · have := hpi j j' h1 h2 h
      rw [a2, b2] at this
      omega
    · exact h
    · have := hpi j' j h2 h1 h
      rw [a2, b2] at this
      omega
  have hmat : Mat (nbF r.length (mayL c l r ⟨0, dx, dy⟩ b)) l.length ((List.range r.length).map fun j => (f j, j)) := by
    refine ⟨?_, ?_, ?_⟩
    · rw [List.map_map]
      exact nodup_map_of (f := id) (List.range r.length) (by rw [List.map_id]; exact List.nodup_range) fun x hx y hy h => hinj x y (List.mem_range.1 hx) (List.mem_range.1 hy) h
    · rw [List.map_map]
      have : ((fun p : Nat × Nat => p.2) ∘ fun j => (f j, j)) = id := by funext j; rfl
      rw [this, List.map_id]
      exact List.nodup_range
    · intro p hpp
      obtain ⟨j, hj, rfl⟩ := List.mem_map.1 hpp
      obtain ⟨h1, m, x, a1, a2, a3⟩ := hf j (List.mem_range.1 hj)
      refine ⟨h1, mem_nbF.2 ⟨List.mem_range.1 hj, ?_⟩⟩
      unfold mayL
      rw [a1, a2]
      dsimp only
      have hmo := hl m (List.mem_of_getElem? a1)
      unfold alikeB placeX placeY turnO absD
      rw [found0X, found0Y, found0D hmo.dir]
      subst a3
      unfold imgF
      have c1 := hc.reach
      have c2 := hc.spread
      simp only [Bool.and_eq_true, decide_eq_true_eq]
      refine ⟨⟨⟨trivial, ?_⟩, ?_⟩, ?_⟩
      · show max (m.x + dx - (m.x + dx)) (-(m.x + dx - (m.x + dx))) ≤ c.reach
        omega
      · show max (m.y + dy + b (m.x / 16).toNat - (m.y + dy + b (m.x / 16).toNat)) (-(m.y + dy + b (m.x / 16).toNat - (m.y + dy + b (m.x / 16).toNat))) ≤ c.reach
        omega
      · show min (max (2 * m.dir - 2 * m.dir) (-(2 * m.dir - 2 * m.dir))) (16 - max (2 * m.dir - 2 * m.dir) (-(2 * m.dir - 2 * m.dir))) ≤ c.spread
        omega
  have := hm.most _ hmat
  rw [List.length_map, List.length_range] at this
  unfold scrK
  omega
theorem found_best {c : Cl} (hc : c.ok) {dx dy : Int} {b : Bd} {l r : List Mi} (hl : ∀ m ∈ l, m.ok) (hmv : isMove c ⟨0, dx, dy⟩ = true) (hb : isBend c.elastic b.f = true) (hsc : scrK c l r ⟨0, dx, dy⟩ b.f = r.length) {s : St} (hs : s = runS (bndK c l r) (trK c l r) 2000 (startS (bndK c l r) c)) : scoreS s = r.length ∧ boundS s = r.length := by
  obtain ⟨h1, h2, h3⟩ := full_law hc hl hs
  have h4 := h2 _ hmv
  have h5 := (trK_best hc l r ⟨0, dx, dy⟩).1 b hb
  rw [hsc] at h5
  have h6 : scoreS s ≤ r.length := by
    rcases h3 with h3 | ⟨v, hv, h3⟩
    · omega
    · obtain ⟨-, -, -, -, h7, -⟩ := trK_best hc l r v
      have := (scrK_le c l r v (trK c l r v).bd.f).2
      omega
  omega
end Go.Proofs.Ytchplmenkdghcaa
/- A moved print is found whole. -/
namespace Go.Proofs.Ytchplmenkdghcaa
open Go.RowKit

theorem found_calls {c : Cl} {dx dy : Int} {b : Bd} {lp r : List Mi} (hp : ∀ m ∈ lp, 0 ≤ m.dir) (hok : okP lp = true) (hc : okC c = true) (hmv : isMove c ⟨0, dx, dy⟩ = true) (hb : isBend c.elastic b.f = true) (h1 : r.Perm (qOf dx dy b.f lp)) (h2 : r.Pairwise leR) :
    ∃ s : St, scoreS s = r.length ∧ boundS s = r.length ∧
      (∀ A A' n n' w, Pts w A lp → Pts w A' r → Calls Try.prog 9 #[.slice A lp.length n, .slice A' r.length n', c.val, .int .i64 2000] w (RetB s 0 w)) ∧
      (∀ A A' n n' w, Pts w A lp → Pts w A' r → Calls Try.prog 10 #[.slice A lp.length n, .slice A' r.length n', c.val, .agg #[.int .i64 0, .int .i64 dx, .int .i64 dy], .agg #[.int .i64 b.a, .int .i64 b.b, .int .i64 b.c, .int .i64 b.d]] w fun e w' => e = .returned (.tuple #[.int .i64 (r.length : Int), .int .i64 0]) ∧ Ext w w') := by
  obtain ⟨hpo, hl12⟩ := okP_ok hok hp
  have hco := okC_ok hc
  obtain ⟨hokr, hlt⟩ := found_ok hok h1 h2
  have h0 : askE c lp r = 0 := by unfold askE; rw [hok, hokr, hc]; rfl
  have hsc := found_score hco (dx := dx) (dy := dy) (b := b.f) hpo h1 hlt
  have hrl : r.length ≤ 12 := by
    have := h1.length_eq
    have := qOf_len dx dy b.f lp
    omega
  have hq : ∀ m ∈ r, 0 ≤ m.dir := fun m hm => by
    obtain ⟨⟨n, hn, rfl⟩, -⟩ := qOf_mem.1 (h1.mem_iff.1 hm)
    exact hp n hn
  have e1 : bestE c lp r 2000 = 0 := by unfold bestE; rw [if_pos h0]; rfl
  obtain ⟨s1, s2⟩ := found_best hco hpo hmv hb hsc (best_ok e1).2.2.2
  refine ⟨bestS c lp r 2000, s1, s2, fun A A' n n' w g1 g2 => ?_, fun A A' n n' w g1 g2 => ?_⟩
  · have := Best_any c lp r 2000 hp hq (by omega) (by omega) A A' n n' w g1 g2
    rw [e1] at this
    exact this
  · have := Score_any c lp r ⟨0, dx, dy⟩ b.f hp hq (by omega) (by omega) A A' n n' w g1 g2
    unfold scoreT at this
    rw [if_pos h0, hmv, hb, hsc] at this
    exact this
theorem chP_of2 : ∀ (l : List Mi) (x : Int), (∀ m ∈ l, okM m = true ∧ x < m.y * 64 + m.x) → l.Pairwise (fun a b => a.y * 64 + a.x < b.y * 64 + b.x) → chP x l = true
  | [], _, _, _ => rfl
  | m :: l, x, h, hp => by
    rw [List.pairwise_cons] at hp
    unfold chP
    rw [(h m (by simp)).1, decide_eq_true (h m (by simp)).2, chP_of2 l _ (fun n hn => ⟨(h n (by simp [hn])).1, hp.1 n hn⟩) hp.2]
    rfl
/-- the print of a thinned trace, brought to the middle of the plane -/
def printL (w h : Nat) (R : List Bool) : List Mi := (minuL w h R).map (mvM 20 20)
theorem print_in {w h : Nat} {R : List Bool} (hl : R.length = w * h) (hw : w ≤ 20) (hh : h ≤ 20) : (∀ m ∈ printL w h R, (20 ≤ m.x ∧ m.x < 40) ∧ (20 ≤ m.y ∧ m.y < 40) ∧ (m.kind = 1 ∨ m.kind = 2) ∧ 0 ≤ m.dir ∧ m.dir ≤ 7) ∧ (printL w h R).Pairwise (fun a b => a.y * 64 + a.x < b.y * 64 + b.x) := by
  obtain ⟨h1, h2⟩ := minu_ok hl
  constructor
  · intro m hm
    obtain ⟨n, hn, rfl⟩ := List.mem_map.1 hm
    have := h1 n hn
    show (20 ≤ n.x + (20 : Nat) ∧ n.x + (20 : Nat) < 40) ∧ (20 ≤ n.y + (20 : Nat) ∧ n.y + (20 : Nat) < 40) ∧ (n.kind = 1 ∨ n.kind = 2) ∧ 0 ≤ n.dir ∧ n.dir ≤ 7
    omega
  · unfold printL
    rw [List.pairwise_map]
    refine List.Pairwise.imp_of_mem (fun {a b} ha hb hab => ?_) h2
    have q1 := h1 a ha
    have q2 := h1 b hb
    show (a.y + (20 : Nat)) * 64 + (a.x + (20 : Nat)) < (b.y + (20 : Nat)) * 64 + (b.x + (20 : Nat))
    omega
theorem print_ok {w h : Nat} {R : List Bool} (hl : R.length = w * h) (hw : w ≤ 20) (hh : h ≤ 20) (hn : (printL w h R).length ≤ 12) : okP (printL w h R) = true := by
  obtain ⟨h1, h2⟩ := print_in hl hw hh
  unfold okP
  rw [decide_eq_true hn, chP_of2 _ _ (fun m hm => ?_) h2]
  · rfl
  · have := h1 m hm
    refine ⟨?_, by omega⟩
    unfold okM
    rw [inB_iff.2 (by omega), inB_iff.2 (by omega), decide_eq_true (by omega : m.dir ≤ 7)]
    rcases this.2.2.1 with e | e <;> rw [e] <;> rfl
/-- both prints: the second one is the first one, moved -/
theorem print_moved {w h dx dy : Nat} {R R' : List Bool} (s : Sh w h dx dy R R') : printL w h R' = (printL w h R).map (mvM dx dy) := by
  unfold printL
  rw [s.minu, List.map_map, List.map_map]
  refine List.map_congr_left fun m _ => ?_
  show (⟨m.x + dx + (20 : Nat), m.y + dy + (20 : Nat), m.kind, m.dir⟩ : Mi) = ⟨m.x + (20 : Nat) + dx, m.y + (20 : Nat) + dy, m.kind, m.dir⟩
  rw [show m.x + (dx : Int) + (20 : Nat) = m.x + (20 : Nat) + dx by omega, show m.y + (dy : Int) + (20 : Nat) = m.y + (20 : Nat) + dy by omega]
theorem print_found {w h dx dy : Nat} {R R' : List Bool} (s : Sh w h dx dy R R') (hw : w ≤ 20) (hh : h ≤ 20) : (printL w h R').Perm (qOf dx dy (Bd.f ⟨0, 0, 0, 0⟩) (printL w h R)) ∧ (printL w h R').Pairwise leR := by
  obtain ⟨h1, -⟩ := print_in s.l hw hh
  obtain ⟨h3, h4⟩ := print_in s.l' hw hh
  constructor
  · rw [print_moved s]
    unfold qOf
    have hf0 : ∀ j, Bd.f ⟨0, 0, 0, 0⟩ j = 0 := fun j => by
      unfold Bd.f
      split <;> rfl
    have e : (printL w h R).map (imgF dx dy (Bd.f ⟨0, 0, 0, 0⟩)) = (printL w h R).map (mvM dx dy) := List.map_congr_left fun m _ => by
      unfold imgF mvM
      rw [hf0, Int.add_zero]
    rw [e, List.filter_eq_self.2]
    intro m hm
    rw [← print_moved s] at hm
    have := h3 m hm
    exact inP_iff.2 (by omega)
  · refine List.Pairwise.imp_of_mem (fun {a b} ha hb hab => ?_) h4
    have q1 := h3 a ha
    have q2 := h3 b hb
    show ltM b a = false
    unfold ltM
    simp
    omega
end Go.Proofs.Ytchplmenkdghcaa
