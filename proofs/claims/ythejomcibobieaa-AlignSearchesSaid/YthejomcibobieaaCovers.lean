/- Which moves are counted, and how often: the map of the program's proof check, in plain words. -/
import Derived.Test.YthejomcibobieaaInc
import Derived.Test.YthejomcibobieaaProm
import Derived.DeepKeys4
namespace Go.Proofs.Ythejomcibobieaa
open Go.RowKit

theorem keyT26 : Try.prog.keyType 26 = true := by kernel_rfl
theorem wide26 : (match Try.prog.underlying 26 with | some (.array _ _) | some (.struct _) => true | _ => false) = true := by kernel_rfl
theorem laid26 : laidOutB Try.prog = true := by kernel_rfl
set_option maxRecDepth 100000 in
theorem law26 : WideMaps.KeyLaw Try.prog 26 := deep_law_laid laid26 (m := 3) (by omega) (of_decide_eq_true (by kernel_rfl)) (by kernel_rfl) wide26
theorem cells3 : Try.prog.cellsOf 3 = 1 := by kernel_rfl
theorem cells26 : Try.prog.cellsOf 26 = 3 := by kernel_rfl
def klM (v : Mv) : Lit := .string (keyBytes [.int .i64 v.turn, .int .i64 v.dx, .int .i64 v.dy])
/-- a small move -/
def smV (v : Mv) : Prop := (-100 ≤ v.turn ∧ v.turn ≤ 100) ∧ (-100 ≤ v.dx ∧ v.dx ≤ 100) ∧ (-100 ≤ v.dy ∧ v.dy ≤ 100)
theorem wf_small {n : Int} (h : -100 ≤ n ∧ n ≤ 100) : (Lit.int .i64 n).wf = true := WalkArith.wf_i64 (by omega)
set_option maxRecDepth 100000 in
theorem keyM {v : Mv} (h : smV v) : keyOf Try.prog 26 v.val = some (klM v) := by
  have h1 := wf_small h.1
  have h2 := wf_small h.2.1
  have h3 := wf_small h.2.2
  obtain ⟨m, hm⟩ : ∃ m, Try.prog.types.size + 1 = m + 2 := ⟨Try.prog.types.size - 1, by
    have : 1 ≤ Try.prog.types.size := of_decide_eq_true (by kernel_rfl)
    omega⟩
  unfold keyOf
  rw [Try.underlying26]
  have hf : v.val.formed Try.prog 26 = true := by
    simp [Value.formed, Try.underlying26, cells26]
  simp only [keyT26, hf, Bool.and_self, if_true, hm]
  simp [Program.keyLits, Try.underlying26, Try.underlying3, cells26, cells3, Value.cells, h1, h2, h3, klM]
theorem klM_inj {v v' : Mv} (h : smV v) (h' : smV v') (e : klM v = klM v') : v = v' := by
  have := law26.inj (keyM h) (e ▸ keyM h')
  simp only [Value.agg.injEq, Array.mk.injEq, List.cons.injEq, Value.int.injEq, true_and, and_true] at this
  exact Mv.ext_ this.1 this.2.1 this.2.2
theorem klM_key {v : Mv} : WideAt.IsKeyLit (klM v) := trivial
/-- the map D counts the moves of the list l -/
structure MapL {H : Type} (D : DataW H) (l : List Mv) : Prop where
  at_ : ∀ v, smV v → D.atKey (klM v) (.lit (.int .i64 0)) = .lit (.int .i64 (l.count v : Nat))
  has : ∀ kl, Maps.has D kl = true ↔ ∃ v ∈ l, klM v = kl
  sm : ∀ v ∈ l, smV v
  size : ∃ ks : List Mv, ks.Nodup ∧ (∀ v, v ∈ ks ↔ v ∈ l) ∧ Maps.size D = ks.length
theorem MapL.nil {H : Type} : MapL (H := H) (.map []) [] :=
  ⟨fun v _ => rfl, fun kl => by simp [Maps.has], fun v h => (by cases h), [], List.nodup_nil, fun v => Iff.rfl, rfl⟩
theorem MapL.put {H : Type} {D : DataW H} {l : List Mv} (h : MapL D l) (hT : Maps.Tidy D) {v : Mv} (hv : smV v) : MapL (D.put (klM v) (.lit (.int .i64 ((l.count v : Nat) + 1)))) (l ++ [v]) := by
  have hM := hT.isMap
  refine ⟨fun u hu => ?_, fun kl => ?_, fun u hu => ?_, ?_⟩
  · by_cases e : u = v
    · subst e
      rw [Maps.atKey_put_same hM klM_key, List.count_append, List.count_singleton_self]
      push_cast
      rfl
    · have hk : klM u ≠ klM v := fun e2 => e (klM_inj hu hv e2)
      rw [Maps.atKey_put_other hk, h.at_ u hu, List.count_append]
      have : List.count u [v] = 0 := by
        rw [List.count_eq_zero]
        simpa using e
      rw [this, Nat.add_zero]
  · by_cases e : kl = klM v
    · subst e
      rw [Maps.has_put_same hM klM_key]
      exact ⟨fun _ => ⟨v, by simp, rfl⟩, fun _ => rfl⟩
    · rw [Maps.has_put_other e, h.has kl]
      constructor
      · rintro ⟨u, hu, e2⟩
        exact ⟨u, List.mem_append_left _ hu, e2⟩
      · rintro ⟨u, hu, e2⟩
        rcases List.mem_append.1 hu with hu | hu
        · exact ⟨u, hu, e2⟩
        · obtain rfl : u = v := by simpa using hu
          exact absurd e2.symm e
  · rcases List.mem_append.1 hu with hu | hu
    · exact h.sm u hu
    · obtain rfl : u = v := by simpa using hu
      exact hv
  · obtain ⟨ks, k1, k2, k3⟩ := h.size
    have hh : Maps.has D (klM v) = true ↔ v ∈ l := by
      rw [h.has]
      exact ⟨fun ⟨u, hu, e⟩ => klM_inj (h.sm u hu) hv e ▸ hu, fun hv => ⟨v, hv, rfl⟩⟩
    by_cases hm : v ∈ l
    · refine ⟨ks, k1, fun u => ?_, ?_⟩
      · rw [k2, List.mem_append]
        exact ⟨.inl, fun q => q.elim id fun q => by obtain rfl : u = v := by simpa using q
                                                    exact hm⟩
      · rw [Maps.size_put hT, if_pos (hh.2 hm), k3]
    · refine ⟨ks ++ [v], ?_, fun u => ?_, ?_⟩
      · rw [List.nodup_append]
        refine ⟨k1, by simp, fun a ha b hb e => ?_⟩
        obtain rfl : b = v := by simpa using hb
        subst e
        exact hm ((k2 a).1 ha)
      · rw [List.mem_append, k2, List.mem_append]
      · have : ¬ Maps.has D (klM v) = true := fun q => hm (hh.1 q)
        rw [Maps.size_put hT, if_neg this, k3]
        simp
/-- the numbers from a on, n of them -/
def runI (a : Int) (n : Nat) : List Int := (List.range n).map fun (i : Nat) => a + i
theorem runI_zero (a : Int) : runI a 0 = [] := rfl
theorem runI_succ (a : Int) (n : Nat) : runI a (n + 1) = runI a n ++ [a + n] := by simp [runI, List.range_succ]
theorem mem_runI {a : Int} {n : Nat} {x : Int} : x ∈ runI a n ↔ a ≤ x ∧ x < a + n := by
  simp only [runI, List.mem_map, List.mem_range]
  constructor
  · rintro ⟨i, hi, rfl⟩; omega
  · intro h; exact ⟨(x - a).toNat, by omega, by omega⟩
theorem runI_nodup (a : Int) (n : Nat) : (runI a n).Nodup := by
  unfold runI
  rw [List.nodup_iff_pairwise_ne, List.pairwise_map]
  exact List.nodup_range.imp fun h e => h (by omega)
theorem runI_len (a : Int) (n : Nat) : (runI a n).length = n := by simp [runI]
/-- the moves of a block's row, of its rows -/
def rowB (k : Bk) (dy : Int) (n : Nat) : List Mv := (runI k.x0 n).map fun dx => ⟨k.turn, dx, dy⟩
def rowsB (k : Bk) (n : Nat) : List Mv := (runI k.y0 n).flatMap fun dy => rowB k dy (k.x1 - k.x0 + 1).toNat
def movesB (k : Bk) : List Mv := rowsB k (k.y1 - k.y0 + 1).toNat
theorem rowB_succ (k : Bk) (dy : Int) (n : Nat) : rowB k dy (n + 1) = rowB k dy n ++ [⟨k.turn, k.x0 + n, dy⟩] := by simp [rowB, runI_succ]
theorem rowsB_succ (k : Bk) (n : Nat) : rowsB k (n + 1) = rowsB k n ++ rowB k (k.y0 + n) (k.x1 - k.x0 + 1).toNat := by simp [rowsB, runI_succ]
theorem mem_rowB {k : Bk} {dy : Int} {n : Nat} {v : Mv} : v ∈ rowB k dy n ↔ v.turn = k.turn ∧ (k.x0 ≤ v.dx ∧ v.dx < k.x0 + n) ∧ v.dy = dy := by
  unfold rowB
  rw [List.mem_map]
  constructor
  · rintro ⟨x, hx, rfl⟩; exact ⟨rfl, mem_runI.1 hx, rfl⟩
  · rintro ⟨h1, h2, h3⟩; exact ⟨v.dx, mem_runI.2 h2, Mv.ext_ h1.symm rfl h3.symm⟩
theorem mem_movesB {k : Bk} {v : Mv} : v ∈ movesB k ↔ hasB k v = true := by
  rw [hasB_iff]
  unfold movesB rowsB
  rw [List.mem_flatMap]
  constructor
  · rintro ⟨dy, hdy, hv⟩
    have h1 := mem_runI.1 hdy
    obtain ⟨a, b, rfl⟩ := mem_rowB.1 hv
    omega
  · rintro ⟨h1, h2, h3⟩
    exact ⟨v.dy, mem_runI.2 (by omega), mem_rowB.2 ⟨h1.symm, by omega, rfl⟩⟩
theorem nodup_flatMap {α β : Type} {f : α → List β} : ∀ {l : List α}, l.Nodup → (∀ a ∈ l, (f a).Nodup) → (∀ a ∈ l, ∀ b ∈ l, a ≠ b → ∀ x ∈ f a, x ∉ f b) → (l.flatMap f).Nodup
  | [], _, _, _ => by simp
  | a :: r, h, h1, h2 => by
    obtain ⟨n1, n2⟩ := List.nodup_cons.1 h
    rw [List.flatMap_cons, List.nodup_append]
    refine ⟨h1 a List.mem_cons_self, nodup_flatMap n2 (fun b hb => h1 b (List.mem_cons_of_mem _ hb)) (fun b hb c hc => h2 b (List.mem_cons_of_mem _ hb) c (List.mem_cons_of_mem _ hc)), ?_⟩
    intro x hx y hy e
    subst e
    obtain ⟨b, hb, hxb⟩ := List.mem_flatMap.1 hy
    exact h2 a List.mem_cons_self b (List.mem_cons_of_mem _ hb) (fun e => n1 (e ▸ hb)) x hx hxb
theorem rowB_nodup (k : Bk) (dy : Int) (n : Nat) : (rowB k dy n).Nodup := by
  unfold rowB
  rw [List.nodup_iff_pairwise_ne, List.pairwise_map]
  exact (List.nodup_iff_pairwise_ne.1 (runI_nodup k.x0 n)).imp fun h e => h (by injection e)
theorem movesB_nodup (k : Bk) : (movesB k).Nodup := by
  refine nodup_flatMap (runI_nodup _ _) (fun a _ => rowB_nodup _ _ _) fun a _ b _ hab x hx hx2 => ?_
  exact hab ((mem_rowB.1 hx).2.2.symm.trans (mem_rowB.1 hx2).2.2)
theorem count_movesB (k : Bk) (v : Mv) : (movesB k).count v = if hasB k v then 1 else 0 := by
  by_cases h : hasB k v = true
  · rw [if_pos h]
    have h1 : 0 < (movesB k).count v := List.count_pos_iff.2 (mem_movesB.2 h)
    have h2 := List.nodup_iff_count.1 (movesB_nodup k) v
    omega
  · rw [if_neg h, List.count_eq_zero]
    exact fun q => h (mem_movesB.1 q)
/-- all moves that a result covers -/
def covL (att : List At) (left : List Rs) : List Mv := att.map (·.mv) ++ left.flatMap fun r => movesB r.bk
theorem count_covL (s : St) (v : Mv) : (covL s.att s.left).count v = cov s v := by
  obtain ⟨att, left⟩ := s
  unfold covL cov
  rw [List.count_append]
  congr 1
  · induction att with
    | nil => rfl
    | cons a r ih =>
      rw [List.map_cons, List.count_cons, List.countP_cons, ih]
      simp
  · induction left with
    | nil => rfl
    | cons a r ih =>
      rw [List.flatMap_cons, List.count_append, List.countP_cons, ih, count_movesB]
      exact Nat.add_comm _ _
/-- the moves of a class -/
def movesC (c : Cl) : List Mv := (runI (-c.turns) (2 * c.turns + 1).toNat).flatMap fun t => movesB (wholeK c t)
theorem mem_movesC {c : Cl} {v : Mv} : v ∈ movesC c ↔ isMove c v = true := by
  unfold movesC
  rw [List.mem_flatMap, isMove_iff]
  constructor
  · rintro ⟨t, ht, hv⟩
    have h1 := mem_runI.1 ht
    have h2 := hasB_iff.1 (mem_movesB.1 hv)
    unfold wholeK at h2
    dsimp only at h2
    omega
  · rintro ⟨h1, h2, h3⟩
    exact ⟨v.turn, mem_runI.2 (by omega), mem_movesB.2 (hasB_iff.2 ⟨rfl, h2, h3⟩)⟩
theorem movesC_nodup (c : Cl) : (movesC c).Nodup := by
  refine nodup_flatMap (runI_nodup _ _) (fun a _ => movesB_nodup _) fun a _ b _ hab x hx hx2 => ?_
  have h1 := (hasB_iff.1 (mem_movesB.1 hx)).1
  have h2 := (hasB_iff.1 (mem_movesB.1 hx2)).1
  exact hab (h1.trans h2.symm)
theorem len_flatMap {α β : Type} {f : α → List β} {m : Nat} : ∀ {l : List α}, (∀ a ∈ l, (f a).length = m) → (l.flatMap f).length = l.length * m
  | [], _ => by simp
  | a :: r, h => by
    rw [List.flatMap_cons, List.length_append, h a List.mem_cons_self, len_flatMap fun b hb => h b (List.mem_cons_of_mem _ hb), List.length_cons, Nat.succ_mul]
    omega
theorem movesB_len (k : Bk) : (movesB k).length = (k.y1 - k.y0 + 1).toNat * (k.x1 - k.x0 + 1).toNat := by
  unfold movesB rowsB
  rw [len_flatMap (m := (k.x1 - k.x0 + 1).toNat) (fun a _ => by simp [rowB, runI_len]), runI_len]
theorem movesC_len {c : Cl} (hc : c.ok) : (movesC c).length = (2 * c.turns + 1).toNat * ((2 * c.shift + 1).toNat * (2 * c.shift + 1).toNat) := by
  have h := hc.shift
  unfold movesC
  rw [len_flatMap (m := (2 * c.shift + 1).toNat * (2 * c.shift + 1).toNat) (fun a _ => by
    rw [movesB_len]
    unfold wholeK
    dsimp only
    congr 2 <;> omega), runI_len]
/-- every move once: what the map's size and its numbers say -/
theorem once_iff {c : Cl} {l ks : List Mv} (hl : ∀ v ∈ l, isMove c v = true) (k1 : ks.Nodup) (k2 : ∀ v, v ∈ ks ↔ v ∈ l) : (∀ v, isMove c v = true → l.count v = 1) ↔ (∀ v ∈ l, l.count v = 1) ∧ ks.length = (movesC c).length := by
  have hsub : ∀ a ∈ ks, a ∈ movesC c := fun a ha => mem_movesC.2 (hl a ((k2 a).1 ha))
  have hle := len_sub ks (movesC c) k1 hsub
  constructor
  · intro h
    refine ⟨fun v hv => h v (hl v hv), ?_⟩
    have := len_sub (movesC c) ks (movesC_nodup c) fun a ha => (k2 a).2 (List.count_pos_iff.1 (by rw [h a (mem_movesC.1 ha)]; omega))
    omega
  · rintro ⟨h1, h2⟩ v hv
    by_cases hm : v ∈ l
    · exact h1 v hm
    · exfalso
      have := len_sub (v :: ks) (movesC c) (List.nodup_cons.2 ⟨fun q => hm ((k2 v).1 q), k1⟩) fun a ha => by
        rcases List.mem_cons.1 ha with rfl | ha
        · exact mem_movesC.2 hv
        · exact hsub a ha
      simp only [List.length_cons] at this
      omega
/-- a proved result -/
def okA (c : Cl) (tr : Mv → At) (a : At) : Bool := isMove c a.mv && decide (a = tr a.mv)
def okR (c : Cl) (bnd : Bk → Int) (r : Rs) : Bool := isBlk c r.bk && decide (r.bound = bnd r.bk)
def provB (c : Cl) (bnd : Bk → Int) (tr : Mv → At) (s : St) (sc bd : Int) : Bool :=
  s.att.all (okA c tr) && s.left.all (okR c bnd) && (movesC c).all (fun v => decide (cov s v = 1)) && decide (sc = scoreS s) && decide (bd = boundS s)
theorem provB_iff {c : Cl} {bnd : Bk → Int} {tr : Mv → At} {s : St} {sc bd : Int} : provB c bnd tr s sc bd = true ↔ (∀ a ∈ s.att, okA c tr a = true) ∧ (∀ r ∈ s.left, okR c bnd r = true) ∧ (∀ v, isMove c v = true → cov s v = 1) ∧ sc = scoreS s ∧ bd = boundS s := by
  unfold provB
  simp only [Bool.and_eq_true, List.all_eq_true, decide_eq_true_eq, mem_movesC, and_assoc]
end Go.Proofs.Ythejomcibobieaa
