/- The talk of two parties. -/
import Derived.Test.YtfdcapblgdlkaaaPart
namespace Go.Proofs.Ytfdcapblgdlkaaa
open Go.RowKit

structure Tlk where
  d : Nat → Int
  e : Nat → Int
  c : Int
  s : Int
  l : Bool
  r : Bool
  m : Bool
def Tlk.cells (t : Tlk) : Array Value := A15 t.d ++ A15 t.e ++ #[.int .u8 t.c, .int .u8 t.s, .bool t.l, .bool t.r, .bool t.m]
theorem Tlk.size (t : Tlk) : t.cells.size = 35 := by simp [Tlk.cells, A15_size]
theorem Tlk.at_d (t : Tlk) (i : Nat) (h : i < 15) : t.cells[i]? = some (.int .u8 (t.d i)) := by
  unfold Tlk.cells
  rw [Array.getElem?_append_left (by simp [A15_size]; omega), Array.getElem?_append_left (by simp [A15_size]; omega), A15_at _ _ h]
theorem Tlk.at_e (t : Tlk) (i : Nat) (h : i < 15) : t.cells[15 + i]? = some (.int .u8 (t.e i)) := by
  unfold Tlk.cells
  rw [Array.getElem?_append_left (by simp [A15_size]; omega), Array.getElem?_append_right (by simp [A15_size]), A15_size, show 15 + i - 15 = i by omega, A15_at _ _ h]
theorem Tlk.at_x (t : Tlk) (k : Nat) : t.cells[30 + k]? = (#[.int .u8 t.c, .int .u8 t.s, .bool t.l, .bool t.r, .bool t.m] : Array Value)[k]? := by
  unfold Tlk.cells
  rw [Array.getElem?_append_right (by simp [A15_size])]
  simp only [Array.size_append, A15_size]
  congr 1; omega
def Z35 : Array Value := #[.int .u8 0, .int .u8 0, .int .u8 0, .int .u8 0, .int .u8 0, .int .u8 0, .int .u8 0, .int .u8 0, .int .u8 0, .int .u8 0, .int .u8 0, .int .u8 0, .int .u8 0, .int .u8 0, .int .u8 0, .int .u8 0, .int .u8 0, .int .u8 0, .int .u8 0, .int .u8 0, .int .u8 0, .int .u8 0, .int .u8 0, .int .u8 0, .int .u8 0, .int .u8 0, .int .u8 0, .int .u8 0, .int .u8 0, .int .u8 0, .int .u8 0, .int .u8 0, .bool false, .bool false, .bool false]
theorem Z35_size : Z35.size = 35 := rfl
/-- both halves are stored: the talk's cells -/
theorem full_of {T : Nat} {d e : Nat → Int} {w w' : World} {v1 v2 : Value} (hE : RT T 29 (Tlk.cells ⟨d, e, 0, 0, false, false, false⟩) w w') (hB : Blk w T 29 Z35)
    (h1 : isS T 29 (Tlk.cells ⟨d, e, 0, 0, false, false, false⟩) 0 15 v1 w') (h2 : isS T 29 (Tlk.cells ⟨d, e, 0, 0, false, false, false⟩) 15 15 v2 w') : Blk w' T 29 (Tlk.cells ⟨d, e, 0, 0, false, false, false⟩) := by
  obtain ⟨c0, k1, k2, k3⟩ := hE.part Z35 hB (by rw [Tlk.size]; rfl)
  obtain ⟨c1, a1, a2, a3⟩ := h1
  obtain ⟨c2, b1, b2, b3⟩ := h2
  have e1 : c1 = c0 := by unfold Blk at a1 k1; rw [a1] at k1; injection k1 with k1; injection k1
  have e2 : c2 = c0 := by unfold Blk at b1 k1; rw [b1] at k1; injection k1 with k1; injection k1
  subst e1 e2
  have : c2 = Tlk.cells ⟨d, e, 0, 0, false, false, false⟩ := by
    apply Array.ext'
    apply List.ext_getElem?
    intro j
    rw [Array.getElem?_toList, Array.getElem?_toList]
    rcases Nat.lt_or_ge j 15 with h | h
    · exact a3 j (by omega) (by omega)
    · rcases Nat.lt_or_ge j 30 with h' | h'
      · exact b3 j (by omega) (by omega)
      · rcases k3 j with h3 | h3
        · rw [h3]
          obtain ⟨k, rfl⟩ : ∃ k, j = 30 + k := ⟨j - 30, by omega⟩
          rw [Tlk.at_x]
          match k with
          | 0 => rfl
          | 1 => rfl
          | 2 => rfl
          | 3 => rfl
          | 4 => rfl
          | k + 5 => rw [Array.getElem?_eq_none (by rw [Z35_size]; omega), Array.getElem?_eq_none (by simp)]
        · exact h3
  rw [← this]; exact k1
/-- a block whose cells were what they will be -/
theorem keep_of {T : Nat} {w w' : World} (hE : RT T 29 Z35 w w') (hB : Blk w T 29 Z35) : Blk w' T 29 Z35 := by
  obtain ⟨c, k1, k2, k3⟩ := hE.part Z35 hB rfl
  have : c = Z35 := by
    apply Array.ext'
    apply List.ext_getElem?
    intro j
    rw [Array.getElem?_toList, Array.getElem?_toList]
    rcases k3 j with h | h <;> exact h
  rw [← this]; exact k1
theorem full_gen {T : Nat} {t : TypeId} {fin init : Array Value} {w w' : World} (hE : RT T t fin w w') (hB : Blk w T t init) (hsz : init.size = fin.size)
    (hs : ∀ j : Nat, init[j]? = fin[j]? ∨ ∃ o n v, isS T t fin o n v w' ∧ o ≤ j ∧ j < o + n) : Blk w' T t fin := by
  obtain ⟨c0, k1, k2, k3⟩ := hE.part init hB hsz
  have : c0 = fin := by
    apply Array.ext'
    apply List.ext_getElem?
    intro j
    rw [Array.getElem?_toList, Array.getElem?_toList]
    rcases hs j with h | ⟨o, n, v, ⟨c1, a1, a2, a3⟩, h1, h2⟩
    · rcases k3 j with h3 | h3
      · rw [h3, h]
      · exact h3
    · have e1 : c1 = c0 := by unfold Blk at a1 k1; rw [a1] at k1; injection k1 with k1; injection k1
      subst e1
      exact a3 j h1 h2
  rw [← this]; exact k1
theorem tlk_same {d e : Nat → Int} {c s c' s' : Int} {l r m : Bool} (j : Nat) (h1 : j ≠ 30) (h2 : j ≠ 31) : (Tlk.cells ⟨d, e, c, s, l, r, m⟩)[j]? = (Tlk.cells ⟨d, e, c', s', l, r, m⟩)[j]? := by
  rcases Nat.lt_or_ge j 15 with h | h
  · rw [Tlk.at_d _ j h, Tlk.at_d _ j h]
  · rcases Nat.lt_or_ge j 30 with h' | h'
    · obtain ⟨k, rfl⟩ : ∃ k, j = 15 + k := ⟨j - 15, by omega⟩
      rw [Tlk.at_e _ k (by omega), Tlk.at_e _ k (by omega)]
    · obtain ⟨k, rfl⟩ : ∃ k, j = 30 + k := ⟨j - 30, by omega⟩
      rw [Tlk.at_x, Tlk.at_x]
      match k with
      | 0 => exact absurd rfl h1
      | 1 => exact absurd rfl h2
      | k + 2 => rfl
theorem tlk_lr {d e : Nat → Int} {c s : Int} {l r l' r' m : Bool} (j : Nat) (h1 : j ≠ 32) (h2 : j ≠ 33) : (Tlk.cells ⟨d, e, c, s, l, r, m⟩)[j]? = (Tlk.cells ⟨d, e, c, s, l', r', m⟩)[j]? := by
  rcases Nat.lt_or_ge j 15 with h | h
  · rw [Tlk.at_d _ j h, Tlk.at_d _ j h]
  · rcases Nat.lt_or_ge j 30 with h' | h'
    · obtain ⟨k, rfl⟩ : ∃ k, j = 15 + k := ⟨j - 15, by omega⟩
      rw [Tlk.at_e _ k (by omega), Tlk.at_e _ k (by omega)]
    · obtain ⟨k, rfl⟩ : ∃ k, j = 30 + k := ⟨j - 30, by omega⟩
      rw [Tlk.at_x, Tlk.at_x]
      match k with
      | 0 => rfl
      | 1 => rfl
      | 2 => exact absurd rfl h1
      | 3 => exact absurd rfl h2
      | k + 4 => rfl
theorem tlk_set {d e : Nat → Int} {c s : Int} {l r m m' : Bool} : (Tlk.cells ⟨d, e, c, s, l, r, m⟩).setIfInBounds 34 (.bool m') = Tlk.cells ⟨d, e, c, s, l, r, m'⟩ := by
  apply Array.ext'
  apply List.ext_getElem?
  intro j
  rw [Array.getElem?_toList, Array.getElem?_toList, Array.getElem?_setIfInBounds]
  by_cases h : 34 = j
  · subst h
    rw [if_pos rfl, if_pos (by rw [Tlk.size]; omega)]
    exact (Tlk.at_x ⟨d, e, c, s, l, r, m'⟩ 4).symm
  · rw [if_neg h]
    rcases Nat.lt_or_ge j 15 with h1 | h1
    · rw [Tlk.at_d _ j h1, Tlk.at_d _ j h1]
    · rcases Nat.lt_or_ge j 30 with h' | h'
      · obtain ⟨k, rfl⟩ : ∃ k, j = 15 + k := ⟨j - 15, by omega⟩
        rw [Tlk.at_e _ k (by omega), Tlk.at_e _ k (by omega)]
      · obtain ⟨k, rfl⟩ : ∃ k, j = 30 + k := ⟨j - 30, by omega⟩
        rw [Tlk.at_x, Tlk.at_x]
        match k with
        | 0 => rfl
        | 1 => rfl
        | 2 => rfl
        | 3 => rfl
        | 4 => exact absurd rfl h
        | k + 5 => rfl
theorem tlk_one {t : Tlk} : t.cells.all (·.oneCell') = true := by
  unfold Tlk.cells
  rw [Array.all_append, Array.all_append, A15_one, A15_one]
  simp [Value.oneCell']
/-- bit s of a row of a table -/
def tb (t : Int) (s : Nat) : Bool := bits .and .u32 (t / 2 ^ s) 1 == 1
/-- the products that a party has -/
def prodP (p q : Pty) (y : BitVec 16) (i : Nat) : Int := ((p.m i * ((bitI y i - q.m i) % 31)) % 31 + p.s i) % 31
def prodQ (p q : Pty) (x y : BitVec 16) (i : Nat) : Int := (((bitI x i - p.m i) % 31 * ((q.m i + (bitI y i - q.m i) % 31) % 31)) % 31 + q.s i) % 31
def sayC (p q : Pty) (x y : BitVec 16) : Int := (cntS (bitI x) (prodP p q y) 15 % 31 + p.sh) % 31
def sayS (p q : Pty) (x y : BitVec 16) : Int := (cntS (bitI y) (prodQ p q x y) 15 % 31 + q.sh) % 31
/-- the talk of two parties -/
def talkOf (p q : Pty) (x y : BitVec 16) : Tlk :=
  ⟨fun i => (bitI x i - p.m i) % 31, fun i => (bitI y i - q.m i) % 31, sayC p q x y, sayS p q x y, tb (p.t (sayC p q x y).toNat) (sayS p q x y).toNat, tb (q.t (sayC p q x y).toNat) (sayS p q x y).toNat, tb (p.t (sayC p q x y).toNat) (sayS p q x y).toNat != tb (q.t (sayC p q x y).toNat) (sayS p q x y).toNat⟩
theorem info29 : (Try.prog.info? 29).map (·.size) = some 35 := by kernel_rfl
theorem info29t (t : Tlk) : (Try.prog.info? 29).map (·.size) = some t.cells.size := by rw [Tlk.size]; exact info29
theorem z35t (t : Tlk) : Z35.size = t.cells.size := by rw [Tlk.size]; rfl
set_option maxRecDepth 100000 in
set_option maxHeartbeats 4000000 in
theorem play_any (p q : Pty) (x y : BitVec 16) (hpm : ∀ i, i < 15 → 0 ≤ p.m i ∧ p.m i < 256) (hqm : ∀ i, i < 15 → 0 ≤ q.m i ∧ q.m i < 256) (hps : ∀ i, i < 15 → 0 ≤ p.s i ∧ p.s i < 256) (hqs : ∀ i, i < 15 → 0 ≤ q.s i ∧ q.s i < 256) (hph : 0 ≤ p.sh ∧ p.sh < 256) (hqh : 0 ≤ q.sh ∧ q.sh < 256) (w : World) : Calls Try.prog 51 #[p.val, q.val, .int .u16 (uv x), .int .u16 (uv y)] w fun e w' => e = .returned (.agg (talkOf p q x y).cells) ∧ Ext w w' := by
  have hbx : ∀ i, i < 15 → 0 ≤ bitI x i ∧ bitI x i < 256 := fun i _ => by have := bitI_in x i; omega
  have hby : ∀ i, i < 15 → 0 ≤ bitI y i ∧ bitI y i < 256 := fun i _ => by have := bitI_in y i; omega
  have C1 := Lib.hid (fun w => masks_any x w)
  have C2 := Lib.hid (fun w => masks_any y w)
  go_enter Try.func51, Try.ntmps51
  go_wp2_with fail
  have H4 := Lib.hid ((((Blk.new w 26 p.cells).alloc (.cells q.cells 26)).alloc (.cells Z35 29)).alloc (.cells Z35 29))
  have H5 := Lib.hid (((Blk.new' (w.alloc (.cells p.cells 26)) 26 q.cells (w.heap.size + 1) (by simp)).alloc (.cells Z35 29)).alloc (.cells Z35 29))
  have H8 := Lib.hid ((Blk.new' ((w.alloc (.cells p.cells 26)).alloc (.cells q.cells 26)) 29 Z35 (w.heap.size + 1 + 1) (by simp)).alloc (.cells Z35 29))
  have H9 := Lib.hid (Blk.new' (((w.alloc (.cells p.cells 26)).alloc (.cells q.cells 26)).alloc (.cells Z35 29)) 29 Z35 (w.heap.size + 1 + 1 + 1) (by simp))
  have HE := Lib.hid (((((Ext.refl w).alloc (.cells p.cells 26)).alloc (.cells q.cells 26)).alloc (.cells Z35 29)).alloc (.cells Z35 29))
  change Calls _ _ _ ((((w.alloc (.cells p.cells 26)).alloc (.cells q.cells 26)).alloc (.cells Z35 29)).alloc (.cells Z35 29)) _
  generalize (((w.alloc (.cells p.cells 26)).alloc (.cells q.cells 26)).alloc (.cells Z35 29)).alloc (.cells Z35 29) = W at *
  refine Calls.ext (C1.out _) fun z1 => ?_
  go_wp2_with fail
  refine Calls.ext (C2.out _) fun z2 => ?_
  have I4 := Lib.hid ((H4.out.ext z1).ext z2)
  have I5 := Lib.hid ((H5.out.ext z1).ext z2)
  have I8 := Lib.hid ((H8.out.ext z1).ext z2)
  have I9 := Lib.hid ((H9.out.ext z1).ext z2)
  have IE := Lib.hid ((HE.out.ext z1).ext z2)
  clear H4 H5 H8 H9 HE
  generalize ext (ext W z1) z2 = V at *
  have hlt := I9.out.lt
  have J10 := Lib.hid ((Blk.new V 22 Z15).alloc (.cells Z15 22))
  have J11 := Lib.hid ((Blk.new' (V.alloc (.cells Z15 22)) 22 Z15 (V.heap.size + 1) (by simp)).rowFar (k := V.heap.size) (by omega) (A15 (bitI x)))
  have K10 := Lib.hid ((J10.out.row (A15 (bitI x))).rowFar (k := V.heap.size + 1) (by omega) (A15 (bitI y)))
  have K11 := Lib.hid (J11.out.row (A15 (bitI y)))
  have K4 := Lib.hid ((((I4.out.alloc (.cells Z15 22)).alloc (.cells Z15 22)).rowFar (k := V.heap.size) (by have := I4.out.lt; omega) (A15 (bitI x))).rowFar (k := V.heap.size + 1) (by have := I4.out.lt; omega) (A15 (bitI y)))
  have K5 := Lib.hid ((((I5.out.alloc (.cells Z15 22)).alloc (.cells Z15 22)).rowFar (k := V.heap.size) (by have := I5.out.lt; omega) (A15 (bitI x))).rowFar (k := V.heap.size + 1) (by have := I5.out.lt; omega) (A15 (bitI y)))
  have K8 := Lib.hid ((((I8.out.alloc (.cells Z15 22)).alloc (.cells Z15 22)).rowFar (k := V.heap.size) (by have := I8.out.lt; omega) (A15 (bitI x))).rowFar (k := V.heap.size + 1) (by have := I8.out.lt; omega) (A15 (bitI y)))
  have K9 := Lib.hid ((((I9.out.alloc (.cells Z15 22)).alloc (.cells Z15 22)).rowFar (k := V.heap.size) (by have := I9.out.lt; omega) (A15 (bitI x))).rowFar (k := V.heap.size + 1) (by have := I9.out.lt; omega) (A15 (bitI y)))
  have KE := Lib.hid ((((IE.out.alloc (.cells Z15 22)).alloc (.cells Z15 22)).row (g := V.heap.size) (by omega) (A15 (bitI x))).row (g := V.heap.size + 1) (by omega) (A15 (bitI y)))
  go_wp2_with (first | (refine wpList_store_row rfl 22 (.tmp 10) (.tmp 15) rfl V.heap.size rfl 22 Z15 (A15 (bitI x)) rfl J10.out info22 rfl A15_one ?_) | (refine wpList_store_row rfl 22 (.tmp 11) (.tmp 17) rfl (V.heap.size + 1) rfl 22 Z15 (A15 (bitI y)) rfl J11.out info22 rfl A15_one ?_))
  change Code.wp _ _ _ _ ((((V.alloc (.cells Z15 22)).alloc (.cells Z15 22)).setRow V.heap.size (A15 (bitI x))).setRow (V.heap.size + 1) (A15 (bitI y)))
  generalize (((V.alloc (.cells Z15 22)).alloc (.cells Z15 22)).setRow V.heap.size (A15 (bitI x))).setRow (V.heap.size + 1) (A15 (bitI y)) = V3 at *
  clear J10 J11 I4 I5 I8 I9 IE C1 C2
  refine wp_region_rel1 (R := RT (w.heap.size + 1 + 1 + 1) 29 (Tlk.cells ⟨(fun i => (bitI x i - p.m i) % 31), (fun i => (bitI y i - q.m i) % 31), 0, 0, false, false, false⟩)) (Vof [isV (.agg (A15 (bitI x))), isV (.pointer (some ⟨w.heap.size, 0, none⟩)), isV (.agg (A15 p.m)), isV (.agg (A15 (fun i => (bitI x i - p.m i) % 31))), isV (.agg (A15 (bitI y))), isV (.pointer (some ⟨w.heap.size + 1, 0, none⟩)), isV (.agg (A15 q.m)), isV (.agg (A15 (fun i => (bitI y i - q.m i) % 31))), isV (.pointer (some ⟨w.heap.size + 1 + 1 + 1, 0, none⟩)), isS (w.heap.size + 1 + 1 + 1) 29 (Tlk.cells ⟨(fun i => (bitI x i - p.m i) % 31), (fun i => (bitI y i - q.m i) % 31), 0, 0, false, false, false⟩) 0 15, isV (.pointer (some ⟨w.heap.size + 1 + 1 + 1, 15, none⟩)), isS (w.heap.size + 1 + 1 + 1) 29 (Tlk.cells ⟨(fun i => (bitI x i - p.m i) % 31), (fun i => (bitI y i - q.m i) % 31), 0, 0, false, false, false⟩) 15 15]) (by kernel_rfl) (by kernel_rfl) RT.refl RT.trans (Vof_monoR (by simp [isV_monoR, isS_mono])) ?op ?fin
  case op =>
    intro i o ho a V2 _ _ hfrm hE0 hdep
    have hE : RT (w.heap.size + 1 + 1 + 1) 29 (Tlk.cells ⟨(fun i => (bitI x i - p.m i) % 31), (fun i => (bitI y i - q.m i) % 31), 0, 0, false, false, false⟩) V3 V2 := RT.trans _ _ _ (RT.of_ext ((Ext.refl V3).drew)) hE0
    match i, ho with
    | 0, ho =>
      injection ho with ho
      subst ho
      have e1 : a.tmps[10]?.getD undef = .pointer (some ⟨V.heap.size, 0, none⟩) := slot_of (hfrm 10 (frm_of 10 (by kernel_rfl)))
      exact owes_load rfl 22 (.tmp 10) rfl (V.heap.size) 0 (by simpa [Act.eval] using e1) 15 (u8V (bitI x)) _ (fun j hj => by rw [Nat.zero_add]; exact ((hE.blk K10.out (by omega)).cell j).trans (A15_at _ j hj)) Try.underlying22 rfl info22 rfl
    | 1, ho =>
      injection ho with ho
      subst ho
      have e1 : a.tmps[4]?.getD undef = .pointer (some ⟨w.heap.size, 0, none⟩) := slot_of (hfrm 4 (frm_of 4 (by kernel_rfl)))
      exact owes_val rfl (by simp [execOp, go_sem, e1]) rfl
    | 2, ho =>
      injection ho with ho
      subst ho
      have e1 : a.tmps[19]?.getD undef = .pointer (some ⟨w.heap.size, 0, none⟩) := slot_of (hdep ⟨1, .data⟩ (by simp) (by kernel_rfl))
      exact owes_load rfl 22 (.tmp 19) rfl (w.heap.size) 0 (by simpa [Act.eval] using e1) 15 (u8V p.m) _ (fun j hj => by rw [Nat.zero_add]; exact ((hE.blk K4.out (by omega)).cell j).trans (p.at_m j hj)) Try.underlying22 rfl info22 rfl
    | 3, ho =>
      injection ho with ho
      subst ho
      have e1 : a.tmps[18]?.getD undef = .agg (A15 (bitI x)) := slot_of (hdep ⟨0, .data⟩ (by simp) (by kernel_rfl))
      have e2 : a.tmps[20]?.getD undef = .agg (A15 p.m) := slot_of (hdep ⟨2, .data⟩ (by simp) (by kernel_rfl))
      exact owes_call rfl 60 [.func 61, .tmp 18, .tmp 20] #[98, 22, 22] rfl (by kernel_rfl) [.func (.func 61) #[] #[], .agg (A15 (bitI x)), .agg (A15 p.m)] (by simp [Act.eval, e1, e2]) (eachMinus_any (bitI x) p.m hbx hpm _) (fun _ => rfl)
    | 4, ho =>
      injection ho with ho
      subst ho
      have e1 : a.tmps[11]?.getD undef = .pointer (some ⟨V.heap.size + 1, 0, none⟩) := slot_of (hfrm 11 (frm_of 11 (by kernel_rfl)))
      exact owes_load rfl 22 (.tmp 11) rfl (V.heap.size + 1) 0 (by simpa [Act.eval] using e1) 15 (u8V (bitI y)) _ (fun j hj => by rw [Nat.zero_add]; exact ((hE.blk K11.out (by omega)).cell j).trans (A15_at _ j hj)) Try.underlying22 rfl info22 rfl
    | 5, ho =>
      injection ho with ho
      subst ho
      have e1 : a.tmps[5]?.getD undef = .pointer (some ⟨w.heap.size + 1, 0, none⟩) := slot_of (hfrm 5 (frm_of 5 (by kernel_rfl)))
      exact owes_val rfl (by simp [execOp, go_sem, e1]) rfl
    | 6, ho =>
      injection ho with ho
      subst ho
      have e1 : a.tmps[23]?.getD undef = .pointer (some ⟨w.heap.size + 1, 0, none⟩) := slot_of (hdep ⟨5, .data⟩ (by simp) (by kernel_rfl))
      exact owes_load rfl 22 (.tmp 23) rfl (w.heap.size + 1) 0 (by simpa [Act.eval] using e1) 15 (u8V q.m) _ (fun j hj => by rw [Nat.zero_add]; exact ((hE.blk K5.out (by omega)).cell j).trans (q.at_m j hj)) Try.underlying22 rfl info22 rfl
    | 7, ho =>
      injection ho with ho
      subst ho
      have e1 : a.tmps[22]?.getD undef = .agg (A15 (bitI y)) := slot_of (hdep ⟨4, .data⟩ (by simp) (by kernel_rfl))
      have e2 : a.tmps[24]?.getD undef = .agg (A15 q.m) := slot_of (hdep ⟨6, .data⟩ (by simp) (by kernel_rfl))
      exact owes_call rfl 60 [.func 61, .tmp 22, .tmp 24] #[98, 22, 22] rfl (by kernel_rfl) [.func (.func 61) #[] #[], .agg (A15 (bitI y)), .agg (A15 q.m)] (by simp [Act.eval, e1, e2]) (eachMinus_any (bitI y) q.m hby hqm _) (fun _ => rfl)
    | 8, ho =>
      injection ho with ho
      subst ho
      have e1 : a.tmps[9]?.getD undef = .pointer (some ⟨w.heap.size + 1 + 1 + 1, 0, none⟩) := slot_of (hfrm 9 (frm_of 9 (by kernel_rfl)))
      exact owes_val rfl (by simp [execOp, go_sem, e1]) rfl
    | 9, ho =>
      injection ho with ho
      subst ho
      have e1 : a.tmps[26]?.getD undef = .pointer (some ⟨w.heap.size + 1 + 1 + 1, 0, none⟩) := slot_of (hdep ⟨8, .data⟩ (by simp) (by kernel_rfl))
      have e2 : a.tmps[21]?.getD undef = .agg (A15 (fun i => (bitI x i - p.m i) % 31)) := slot_of (hdep ⟨3, .data⟩ (by simp) (by kernel_rfl))
      have hT : ∃ cur, Blk V2 (w.heap.size + 1 + 1 + 1) 29 cur ∧ cur.size = (Tlk.cells ⟨(fun i => (bitI x i - p.m i) % 31), (fun i => (bitI y i - q.m i) % 31), 0, 0, false, false, false⟩).size := by
        obtain ⟨c2, k1, k2, _⟩ := hE.part Z35 K9.out (by rw [Tlk.size]; rfl)
        exact ⟨c2, k1, k2⟩
      exact owes_store rfl 22 (.tmp 26) (.tmp 21) rfl 0 (by simpa [Act.eval] using e1) 15 (u8V (fun i => (bitI x i - p.m i) % 31)) (by simp only [Act.eval, Array.getD_eq_getD_getElem?]; exact e2) info22 (fun _ _ => rfl) hT (fun j hj => by rw [Nat.zero_add]; exact Tlk.at_d _ j hj) (by rw [Tlk.size]; omega) (fun _ h => h)
    | 10, ho =>
      injection ho with ho
      subst ho
      have e1 : a.tmps[9]?.getD undef = .pointer (some ⟨w.heap.size + 1 + 1 + 1, 0, none⟩) := slot_of (hfrm 9 (frm_of 9 (by kernel_rfl)))
      exact owes_val rfl (by simp [execOp, go_sem, e1]) rfl
    | 11, ho =>
      injection ho with ho
      subst ho
      have e1 : a.tmps[27]?.getD undef = .pointer (some ⟨w.heap.size + 1 + 1 + 1, 15, none⟩) := slot_of (hdep ⟨10, .data⟩ (by simp) (by kernel_rfl))
      have e2 : a.tmps[25]?.getD undef = .agg (A15 (fun i => (bitI y i - q.m i) % 31)) := slot_of (hdep ⟨7, .data⟩ (by simp) (by kernel_rfl))
      have hT : ∃ cur, Blk V2 (w.heap.size + 1 + 1 + 1) 29 cur ∧ cur.size = (Tlk.cells ⟨(fun i => (bitI x i - p.m i) % 31), (fun i => (bitI y i - q.m i) % 31), 0, 0, false, false, false⟩).size := by
        obtain ⟨c2, k1, k2, _⟩ := hE.part Z35 K9.out (by rw [Tlk.size]; rfl)
        exact ⟨c2, k1, k2⟩
      exact owes_store rfl 22 (.tmp 27) (.tmp 25) rfl 15 (by simpa [Act.eval] using e1) 15 (u8V (fun i => (bitI y i - q.m i) % 31)) (by simp only [Act.eval, Array.getD_eq_getD_getElem?]; exact e2) info22 (fun _ _ => rfl) hT (fun j hj => Tlk.at_e _ j hj) (by rw [Tlk.size]; omega) (fun _ h => h)
    | k + 12, ho => exact absurd (List.getElem?_eq_some_iff.1 ho).1 (by simp)
  case fin =>
    intro vs V4 hE0 hvs
    have hE : RT (w.heap.size + 1 + 1 + 1) 29 (Tlk.cells ⟨(fun i => (bitI x i - p.m i) % 31), (fun i => (bitI y i - q.m i) % 31), 0, 0, false, false, false⟩) V3 V4 := RT.trans _ _ _ (RT.of_ext ((Ext.refl V3).drew)) hE0
    have s1 := hvs 9 (by simp)
    have s2 := hvs 11 (by simp)
    have L9 := Lib.hid (full_of (v1 := undef) (v2 := undef) hE K9.out s1 s2)
    have L4 := Lib.hid (hE.blk K4.out (by omega))
    have L5 := Lib.hid (hE.blk K5.out (by omega))
    have L8 := Lib.hid (hE.blk K8.out (by omega))
    have L10 := Lib.hid (hE.blk K10.out (by omega))
    have L11 := Lib.hid (hE.blk K11.out (by omega))
    have LE := Lib.hid (hE.below KE.out (by omega))
    clear s1 s2 hE hE0 hvs
    simp [putAll, Act.put]
    go_wp2_with fail
    have hbE : ∀ i, i < 15 → 0 ≤ (fun i => (bitI y i - q.m i) % 31) i ∧ (fun i => (bitI y i - q.m i) % 31) i < 256 := fun i _ => by show 0 ≤ (bitI y i - q.m i) % 31 ∧ (bitI y i - q.m i) % 31 < 256; omega
    have hbD : ∀ i, i < 15 → 0 ≤ (fun i => (bitI x i - p.m i) % 31) i ∧ (fun i => (bitI x i - p.m i) % 31) i < 256 := fun i _ => by show 0 ≤ (bitI x i - p.m i) % 31 ∧ (bitI x i - p.m i) % 31 < 256; omega
    have hb1 : ∀ i, i < 15 → 0 ≤ (fun i => (p.m i * ((bitI y i - q.m i) % 31)) % 31) i ∧ (fun i => (p.m i * ((bitI y i - q.m i) % 31)) % 31) i < 256 := fun i _ => by show 0 ≤ (p.m i * ((bitI y i - q.m i) % 31)) % 31 ∧ (p.m i * ((bitI y i - q.m i) % 31)) % 31 < 256; omega
    have hb2 : ∀ i, i < 15 → 0 ≤ (fun i => ((p.m i * ((bitI y i - q.m i) % 31)) % 31 + p.s i) % 31) i ∧ (fun i => ((p.m i * ((bitI y i - q.m i) % 31)) % 31 + p.s i) % 31) i < 256 := fun i _ => by show 0 ≤ ((p.m i * ((bitI y i - q.m i) % 31)) % 31 + p.s i) % 31 ∧ ((p.m i * ((bitI y i - q.m i) % 31)) % 31 + p.s i) % 31 < 256; omega
    obtain ⟨cm, hcm⟩ : ∃ cm, cm = cntS (bitI x) (fun i => ((p.m i * ((bitI y i - q.m i) % 31)) % 31 + p.s i) % 31) 15 % 31 := ⟨_, rfl⟩
    have hcmb : 0 ≤ cm ∧ cm < 31 := by omega
    have HCM := Lib.hid hcm
    clear hcm
    refine wp_region_rel1 (R := RT (w.heap.size + 1 + 1) 29 (Z35)) (Vof [isV (.agg (A15 (bitI x))), isV (.pointer (some ⟨w.heap.size, 0, none⟩)), isV (.agg (A15 p.m)), isV (.pointer (some ⟨w.heap.size + 1 + 1 + 1, 15, none⟩)), isV (.agg (A15 (fun i => (bitI y i - q.m i) % 31))), isV (.agg (A15 (fun i => (p.m i * ((bitI y i - q.m i) % 31)) % 31))), isV (.pointer (some ⟨w.heap.size, 15, none⟩)), isV (.agg (A15 p.s)), isV (.agg (A15 (fun i => ((p.m i * ((bitI y i - q.m i) % 31)) % 31 + p.s i) % 31))), isV (.int .i64 cm), isV (.int .i64 cm)]) (by kernel_rfl) (by kernel_rfl) RT.refl RT.trans (Vof_monoR (by simp [isV_monoR])) ?op ?fin
    case op =>
      intro i o ho a V2 _ _ hfrm hE0 hdep
      have hE : RT (w.heap.size + 1 + 1) 29 (Z35) V4 V2 := RT.trans _ _ _ (RT.of_ext ((Ext.refl V4).drew)) hE0
      match i, ho with
      | 0, ho =>
        injection ho with ho
        subst ho
        have e1 : a.tmps[10]?.getD undef = .pointer (some ⟨V.heap.size, 0, none⟩) := slot_of (hfrm 10 (frm_of 10 (by kernel_rfl)))
        exact owes_load rfl 22 (.tmp 10) rfl (V.heap.size) 0 (by simpa [Act.eval] using e1) 15 (u8V (bitI x)) _ (fun j hj => by rw [Nat.zero_add]; exact ((hE.blk L10.out (by omega)).cell j).trans (A15_at _ j hj)) Try.underlying22 rfl info22 rfl
      | 1, ho =>
        injection ho with ho
        subst ho
        have e1 : a.tmps[4]?.getD undef = .pointer (some ⟨w.heap.size, 0, none⟩) := slot_of (hfrm 4 (frm_of 4 (by kernel_rfl)))
        exact owes_val rfl (by simp [execOp, go_sem, e1]) rfl
      | 2, ho =>
        injection ho with ho
        subst ho
        have e1 : a.tmps[29]?.getD undef = .pointer (some ⟨w.heap.size, 0, none⟩) := slot_of (hdep ⟨1, .data⟩ (by simp) (by kernel_rfl))
        exact owes_load rfl 22 (.tmp 29) rfl (w.heap.size) 0 (by simpa [Act.eval] using e1) 15 (u8V p.m) _ (fun j hj => by rw [Nat.zero_add]; exact ((hE.blk L4.out (by omega)).cell j).trans (p.at_m j hj)) Try.underlying22 rfl info22 rfl
      | 3, ho =>
        injection ho with ho
        subst ho
        have e1 : a.tmps[9]?.getD undef = .pointer (some ⟨w.heap.size + 1 + 1 + 1, 0, none⟩) := slot_of (hfrm 9 (frm_of 9 (by kernel_rfl)))
        exact owes_val rfl (by simp [execOp, go_sem, e1]) rfl
      | 4, ho =>
        injection ho with ho
        subst ho
        have e1 : a.tmps[31]?.getD undef = .pointer (some ⟨w.heap.size + 1 + 1 + 1, 15, none⟩) := slot_of (hdep ⟨3, .data⟩ (by simp) (by kernel_rfl))
        exact owes_load rfl 22 (.tmp 31) rfl (w.heap.size + 1 + 1 + 1) 15 (by simpa [Act.eval] using e1) 15 (u8V (fun i => (bitI y i - q.m i) % 31)) _ (fun j hj => ((hE.blk L9.out (by omega)).cell (15 + j)).trans (Tlk.at_e _ j hj)) Try.underlying22 rfl info22 rfl
      | 5, ho =>
        injection ho with ho
        subst ho
        have e1 : a.tmps[30]?.getD undef = .agg (A15 p.m) := slot_of (hdep ⟨2, .data⟩ (by simp) (by kernel_rfl))
        have e2 : a.tmps[32]?.getD undef = .agg (A15 (fun i => (bitI y i - q.m i) % 31)) := slot_of (hdep ⟨4, .data⟩ (by simp) (by kernel_rfl))
        exact owes_call rfl 60 [.func 63, .tmp 30, .tmp 32] #[98, 22, 22] rfl (by kernel_rfl) [.func (.func 63) #[] #[], .agg (A15 p.m), .agg (A15 (fun i => (bitI y i - q.m i) % 31))] (by simp [Act.eval, e1, e2]) (eachTimes_any p.m (fun i => (bitI y i - q.m i) % 31) hpm hbE _) (fun _ => rfl)
      | 6, ho =>
        injection ho with ho
        subst ho
        have e1 : a.tmps[4]?.getD undef = .pointer (some ⟨w.heap.size, 0, none⟩) := slot_of (hfrm 4 (frm_of 4 (by kernel_rfl)))
        exact owes_val rfl (by simp [execOp, go_sem, e1]) rfl
      | 7, ho =>
        injection ho with ho
        subst ho
        have e1 : a.tmps[34]?.getD undef = .pointer (some ⟨w.heap.size, 15, none⟩) := slot_of (hdep ⟨6, .data⟩ (by simp) (by kernel_rfl))
        exact owes_load rfl 22 (.tmp 34) rfl (w.heap.size) 15 (by simpa [Act.eval] using e1) 15 (u8V p.s) _ (fun j hj => ((hE.blk L4.out (by omega)).cell (15 + j)).trans (p.at_s j hj)) Try.underlying22 rfl info22 rfl
      | 8, ho =>
        injection ho with ho
        subst ho
        have e1 : a.tmps[33]?.getD undef = .agg (A15 (fun i => (p.m i * ((bitI y i - q.m i) % 31)) % 31)) := slot_of (hdep ⟨5, .data⟩ (by simp) (by kernel_rfl))
        have e2 : a.tmps[35]?.getD undef = .agg (A15 p.s) := slot_of (hdep ⟨7, .data⟩ (by simp) (by kernel_rfl))
        exact owes_call rfl 60 [.func 64, .tmp 33, .tmp 35] #[98, 22, 22] rfl (by kernel_rfl) [.func (.func 64) #[] #[], .agg (A15 (fun i => (p.m i * ((bitI y i - q.m i) % 31)) % 31)), .agg (A15 p.s)] (by simp [Act.eval, e1, e2]) (eachPlus_any (fun i => (p.m i * ((bitI y i - q.m i) % 31)) % 31) p.s hb1 hps _) (fun _ => rfl)
      | 9, ho =>
        injection ho with ho
        subst ho
        have e1 : a.tmps[28]?.getD undef = .agg (A15 (bitI x)) := slot_of (hdep ⟨0, .data⟩ (by simp) (by kernel_rfl))
        have e2 : a.tmps[36]?.getD undef = .agg (A15 (fun i => ((p.m i * ((bitI y i - q.m i) % 31)) % 31 + p.s i) % 31)) := slot_of (hdep ⟨8, .data⟩ (by simp) (by kernel_rfl))
        exact owes_call rfl 86 [.tmp 28, .tmp 36] #[22, 22] rfl (by kernel_rfl) [.agg (A15 (bitI x)), .agg (A15 (fun i => ((p.m i * ((bitI y i - q.m i) % 31)) % 31 + p.s i) % 31))] (by simp [Act.eval, e1, e2]) (HCM.out ▸ count_any (bitI x) (fun i => ((p.m i * ((bitI y i - q.m i) % 31)) % 31 + p.s i) % 31) hbx hb2 _) (fun _ => rfl)
      | 10, ho =>
        injection ho with ho
        subst ho
        have e1 : a.tmps[37]?.getD undef = .int .i64 cm := slot_of (hdep ⟨9, .data⟩ (by simp) (by kernel_rfl))
        exact owes_val rfl (by simp [execOp, go_sem, e1]) rfl
      | k + 11, ho => exact absurd (List.getElem?_eq_some_iff.1 ho).1 (by simp)
    case fin =>
      intro vs2 V5 hE0 hvs
      have hE : RT (w.heap.size + 1 + 1) 29 Z35 V4 V5 := RT.trans _ _ _ (RT.of_ext ((Ext.refl V4).drew)) hE0
      have hc : vs2 10 = .int .i64 cm := hvs 10 (by simp)
      have M9 := Lib.hid (hE.blk L9.out (by omega))
      have M4 := Lib.hid (hE.blk L4.out (by omega))
      have M5 := Lib.hid (hE.blk L5.out (by omega))
      have M10 := Lib.hid (hE.blk L10.out (by omega))
      have M11 := Lib.hid (hE.blk L11.out (by omega))
      have M8 := Lib.hid (keep_of hE L8.out)
      have ME := Lib.hid (hE.below LE.out (by omega))
      clear hE hE0 hvs
      simp [putAll, Act.put, hc]
      clear hc
      go_wp2_with fail
      have hg1 : ∀ i, i < 15 → 0 ≤ (fun i => (q.m i + (bitI y i - q.m i) % 31) % 31) i ∧ (fun i => (q.m i + (bitI y i - q.m i) % 31) % 31) i < 256 := fun i _ => by show 0 ≤ (q.m i + (bitI y i - q.m i) % 31) % 31 ∧ (q.m i + (bitI y i - q.m i) % 31) % 31 < 256; omega
      have hg2 : ∀ i, i < 15 → 0 ≤ (fun i => ((bitI x i - p.m i) % 31 * ((q.m i + (bitI y i - q.m i) % 31) % 31)) % 31) i ∧ (fun i => ((bitI x i - p.m i) % 31 * ((q.m i + (bitI y i - q.m i) % 31) % 31)) % 31) i < 256 := fun i _ => by show 0 ≤ ((bitI x i - p.m i) % 31 * ((q.m i + (bitI y i - q.m i) % 31) % 31)) % 31 ∧ ((bitI x i - p.m i) % 31 * ((q.m i + (bitI y i - q.m i) % 31) % 31)) % 31 < 256; omega
      have hg3 : ∀ i, i < 15 → 0 ≤ (fun i => (((bitI x i - p.m i) % 31 * ((q.m i + (bitI y i - q.m i) % 31) % 31)) % 31 + q.s i) % 31) i ∧ (fun i => (((bitI x i - p.m i) % 31 * ((q.m i + (bitI y i - q.m i) % 31) % 31)) % 31 + q.s i) % 31) i < 256 := fun i _ => by show 0 ≤ (((bitI x i - p.m i) % 31 * ((q.m i + (bitI y i - q.m i) % 31) % 31)) % 31 + q.s i) % 31 ∧ (((bitI x i - p.m i) % 31 * ((q.m i + (bitI y i - q.m i) % 31) % 31)) % 31 + q.s i) % 31 < 256; omega
      obtain ⟨sm, hsm⟩ : ∃ sm, sm = cntS (bitI y) (fun i => (((bitI x i - p.m i) % 31 * ((q.m i + (bitI y i - q.m i) % 31) % 31)) % 31 + q.s i) % 31) 15 % 31 := ⟨_, rfl⟩
      have hsmb : 0 ≤ sm ∧ sm < 31 := by omega
      have HSM := Lib.hid hsm
      clear hsm
      refine wp_region_rel1 (R := RT (w.heap.size + 1 + 1) 29 (Z35)) (Vof [isV (.agg (A15 (bitI y))), isV (.pointer (some ⟨w.heap.size + 1 + 1 + 1, 0, none⟩)), isV (.agg (A15 (fun i => (bitI x i - p.m i) % 31))), isV (.pointer (some ⟨w.heap.size + 1, 0, none⟩)), isV (.agg (A15 q.m)), isV (.pointer (some ⟨w.heap.size + 1 + 1 + 1, 15, none⟩)), isV (.agg (A15 (fun i => (bitI y i - q.m i) % 31))), isV (.agg (A15 (fun i => (q.m i + (bitI y i - q.m i) % 31) % 31))), isV (.agg (A15 (fun i => ((bitI x i - p.m i) % 31 * ((q.m i + (bitI y i - q.m i) % 31) % 31)) % 31))), isV (.pointer (some ⟨w.heap.size + 1, 15, none⟩)), isV (.agg (A15 q.s)), isV (.agg (A15 (fun i => (((bitI x i - p.m i) % 31 * ((q.m i + (bitI y i - q.m i) % 31) % 31)) % 31 + q.s i) % 31))), isV (.int .i64 sm), isV (.int .i64 sm)]) (by kernel_rfl) (by kernel_rfl) RT.refl RT.trans (Vof_monoR (by simp [isV_monoR])) ?op ?fin
      case op =>
        intro i o ho a V2 _ _ hfrm hE0 hdep
        have hE : RT (w.heap.size + 1 + 1) 29 (Z35) V5 V2 := RT.trans _ _ _ (RT.of_ext ((Ext.refl V5).drew)) hE0
        match i, ho with
        | 0, ho =>
          injection ho with ho
          subst ho
          have e1 : a.tmps[11]?.getD undef = .pointer (some ⟨V.heap.size + 1, 0, none⟩) := slot_of (hfrm 11 (frm_of 11 (by kernel_rfl)))
          exact owes_load rfl 22 (.tmp 11) rfl (V.heap.size + 1) 0 (by simpa [Act.eval] using e1) 15 (u8V (bitI y)) _ (fun j hj => by rw [Nat.zero_add]; exact ((hE.blk M11.out (by omega)).cell j).trans (A15_at _ j hj)) Try.underlying22 rfl info22 rfl
        | 1, ho =>
          injection ho with ho
          subst ho
          have e1 : a.tmps[9]?.getD undef = .pointer (some ⟨w.heap.size + 1 + 1 + 1, 0, none⟩) := slot_of (hfrm 9 (frm_of 9 (by kernel_rfl)))
          exact owes_val rfl (by simp [execOp, go_sem, e1]) rfl
        | 2, ho =>
          injection ho with ho
          subst ho
          have e1 : a.tmps[39]?.getD undef = .pointer (some ⟨w.heap.size + 1 + 1 + 1, 0, none⟩) := slot_of (hdep ⟨1, .data⟩ (by simp) (by kernel_rfl))
          exact owes_load rfl 22 (.tmp 39) rfl (w.heap.size + 1 + 1 + 1) 0 (by simpa [Act.eval] using e1) 15 (u8V (fun i => (bitI x i - p.m i) % 31)) _ (fun j hj => by rw [Nat.zero_add]; exact ((hE.blk M9.out (by omega)).cell j).trans (Tlk.at_d _ j hj)) Try.underlying22 rfl info22 rfl
        | 3, ho =>
          injection ho with ho
          subst ho
          have e1 : a.tmps[5]?.getD undef = .pointer (some ⟨w.heap.size + 1, 0, none⟩) := slot_of (hfrm 5 (frm_of 5 (by kernel_rfl)))
          exact owes_val rfl (by simp [execOp, go_sem, e1]) rfl
        | 4, ho =>
          injection ho with ho
          subst ho
          have e1 : a.tmps[41]?.getD undef = .pointer (some ⟨w.heap.size + 1, 0, none⟩) := slot_of (hdep ⟨3, .data⟩ (by simp) (by kernel_rfl))
          exact owes_load rfl 22 (.tmp 41) rfl (w.heap.size + 1) 0 (by simpa [Act.eval] using e1) 15 (u8V q.m) _ (fun j hj => by rw [Nat.zero_add]; exact ((hE.blk M5.out (by omega)).cell j).trans (q.at_m j hj)) Try.underlying22 rfl info22 rfl
        | 5, ho =>
          injection ho with ho
          subst ho
          have e1 : a.tmps[9]?.getD undef = .pointer (some ⟨w.heap.size + 1 + 1 + 1, 0, none⟩) := slot_of (hfrm 9 (frm_of 9 (by kernel_rfl)))
          exact owes_val rfl (by simp [execOp, go_sem, e1]) rfl
        | 6, ho =>
          injection ho with ho
          subst ho
          have e1 : a.tmps[43]?.getD undef = .pointer (some ⟨w.heap.size + 1 + 1 + 1, 15, none⟩) := slot_of (hdep ⟨5, .data⟩ (by simp) (by kernel_rfl))
          exact owes_load rfl 22 (.tmp 43) rfl (w.heap.size + 1 + 1 + 1) 15 (by simpa [Act.eval] using e1) 15 (u8V (fun i => (bitI y i - q.m i) % 31)) _ (fun j hj => ((hE.blk M9.out (by omega)).cell (15 + j)).trans (Tlk.at_e _ j hj)) Try.underlying22 rfl info22 rfl
        | 7, ho =>
          injection ho with ho
          subst ho
          have e1 : a.tmps[42]?.getD undef = .agg (A15 q.m) := slot_of (hdep ⟨4, .data⟩ (by simp) (by kernel_rfl))
          have e2 : a.tmps[44]?.getD undef = .agg (A15 (fun i => (bitI y i - q.m i) % 31)) := slot_of (hdep ⟨6, .data⟩ (by simp) (by kernel_rfl))
          exact owes_call rfl 60 [.func 64, .tmp 42, .tmp 44] #[98, 22, 22] rfl (by kernel_rfl) [.func (.func 64) #[] #[], .agg (A15 q.m), .agg (A15 (fun i => (bitI y i - q.m i) % 31))] (by simp [Act.eval, e1, e2]) (eachPlus_any q.m (fun i => (bitI y i - q.m i) % 31) hqm hbE _) (fun _ => rfl)
        | 8, ho =>
          injection ho with ho
          subst ho
          have e1 : a.tmps[40]?.getD undef = .agg (A15 (fun i => (bitI x i - p.m i) % 31)) := slot_of (hdep ⟨2, .data⟩ (by simp) (by kernel_rfl))
          have e2 : a.tmps[45]?.getD undef = .agg (A15 (fun i => (q.m i + (bitI y i - q.m i) % 31) % 31)) := slot_of (hdep ⟨7, .data⟩ (by simp) (by kernel_rfl))
          exact owes_call rfl 60 [.func 63, .tmp 40, .tmp 45] #[98, 22, 22] rfl (by kernel_rfl) [.func (.func 63) #[] #[], .agg (A15 (fun i => (bitI x i - p.m i) % 31)), .agg (A15 (fun i => (q.m i + (bitI y i - q.m i) % 31) % 31))] (by simp [Act.eval, e1, e2]) (eachTimes_any (fun i => (bitI x i - p.m i) % 31) (fun i => (q.m i + (bitI y i - q.m i) % 31) % 31) hbD hg1 _) (fun _ => rfl)
        | 9, ho =>
          injection ho with ho
          subst ho
          have e1 : a.tmps[5]?.getD undef = .pointer (some ⟨w.heap.size + 1, 0, none⟩) := slot_of (hfrm 5 (frm_of 5 (by kernel_rfl)))
          exact owes_val rfl (by simp [execOp, go_sem, e1]) rfl
        | 10, ho =>
          injection ho with ho
          subst ho
          have e1 : a.tmps[47]?.getD undef = .pointer (some ⟨w.heap.size + 1, 15, none⟩) := slot_of (hdep ⟨9, .data⟩ (by simp) (by kernel_rfl))
          exact owes_load rfl 22 (.tmp 47) rfl (w.heap.size + 1) 15 (by simpa [Act.eval] using e1) 15 (u8V q.s) _ (fun j hj => ((hE.blk M5.out (by omega)).cell (15 + j)).trans (q.at_s j hj)) Try.underlying22 rfl info22 rfl
        | 11, ho =>
          injection ho with ho
          subst ho
          have e1 : a.tmps[46]?.getD undef = .agg (A15 (fun i => ((bitI x i - p.m i) % 31 * ((q.m i + (bitI y i - q.m i) % 31) % 31)) % 31)) := slot_of (hdep ⟨8, .data⟩ (by simp) (by kernel_rfl))
          have e2 : a.tmps[48]?.getD undef = .agg (A15 q.s) := slot_of (hdep ⟨10, .data⟩ (by simp) (by kernel_rfl))
          exact owes_call rfl 60 [.func 64, .tmp 46, .tmp 48] #[98, 22, 22] rfl (by kernel_rfl) [.func (.func 64) #[] #[], .agg (A15 (fun i => ((bitI x i - p.m i) % 31 * ((q.m i + (bitI y i - q.m i) % 31) % 31)) % 31)), .agg (A15 q.s)] (by simp [Act.eval, e1, e2]) (eachPlus_any (fun i => ((bitI x i - p.m i) % 31 * ((q.m i + (bitI y i - q.m i) % 31) % 31)) % 31) q.s hg2 hqs _) (fun _ => rfl)
        | 12, ho =>
          injection ho with ho
          subst ho
          have e1 : a.tmps[38]?.getD undef = .agg (A15 (bitI y)) := slot_of (hdep ⟨0, .data⟩ (by simp) (by kernel_rfl))
          have e2 : a.tmps[49]?.getD undef = .agg (A15 (fun i => (((bitI x i - p.m i) % 31 * ((q.m i + (bitI y i - q.m i) % 31) % 31)) % 31 + q.s i) % 31)) := slot_of (hdep ⟨11, .data⟩ (by simp) (by kernel_rfl))
          exact owes_call rfl 86 [.tmp 38, .tmp 49] #[22, 22] rfl (by kernel_rfl) [.agg (A15 (bitI y)), .agg (A15 (fun i => (((bitI x i - p.m i) % 31 * ((q.m i + (bitI y i - q.m i) % 31) % 31)) % 31 + q.s i) % 31))] (by simp [Act.eval, e1, e2]) (HSM.out ▸ count_any (bitI y) (fun i => (((bitI x i - p.m i) % 31 * ((q.m i + (bitI y i - q.m i) % 31) % 31)) % 31 + q.s i) % 31) hby hg3 _) (fun _ => rfl)
        | 13, ho =>
          injection ho with ho
          subst ho
          have e1 : a.tmps[50]?.getD undef = .int .i64 sm := slot_of (hdep ⟨12, .data⟩ (by simp) (by kernel_rfl))
          exact owes_val rfl (by simp [execOp, go_sem, e1]) rfl
        | k + 14, ho => exact absurd (List.getElem?_eq_some_iff.1 ho).1 (by simp)
      case fin =>
        intro vs3 V6 hE0 hvs
        have hE : RT (w.heap.size + 1 + 1) 29 Z35 V5 V6 := RT.trans _ _ _ (RT.of_ext ((Ext.refl V5).drew)) hE0
        have hc : vs3 13 = .int .i64 sm := hvs 13 (by simp)
        have N9 := Lib.hid (hE.blk M9.out (by omega))
        have N4 := Lib.hid (hE.blk M4.out (by omega))
        have N5 := Lib.hid (hE.blk M5.out (by omega))
        have N10 := Lib.hid (hE.blk M10.out (by omega))
        have N11 := Lib.hid (hE.blk M11.out (by omega))
        have N8 := Lib.hid (keep_of hE M8.out)
        have NE := Lib.hid (hE.below ME.out (by omega))
        clear hE hE0 hvs
        simp [putAll, Act.put, hc]
        clear hc
        go_wp2_with fail
        have WS := Lib.hid (show ∀ n : Int, 0 ≤ n ∧ n < 256 → IntKind.i64.wrap n = n ∧ IntKind.u8.wrap n = n from fun n hn => ⟨IntWalk.i64_in _ (by omega), by rw [IntKind.wrap_u8]; omega⟩)
        refine wp_region_rel1 (R := RT (w.heap.size + 1 + 1 + 1) 29 (Tlk.cells ⟨(fun i => (bitI x i - p.m i) % 31), (fun i => (bitI y i - q.m i) % 31), (cm + p.sh) % 31, (sm + q.sh) % 31, false, false, false⟩)) (Vof [isV (.int .i64 cm), isV (.pointer (some ⟨w.heap.size, 30, none⟩)), isV (.int .u8 (p.sh)), isV (.int .i64 (p.sh)), isV (.int .i64 ((cm + p.sh) % 31)), isV (.int .u8 ((cm + p.sh) % 31)), isV (.int .i64 sm), isV (.pointer (some ⟨w.heap.size + 1, 30, none⟩)), isV (.int .u8 (q.sh)), isV (.int .i64 (q.sh)), isV (.int .i64 ((sm + q.sh) % 31)), isV (.int .u8 ((sm + q.sh) % 31)), isV (.pointer (some ⟨w.heap.size + 1 + 1 + 1, 30, none⟩)), isS (w.heap.size + 1 + 1 + 1) 29 (Tlk.cells ⟨(fun i => (bitI x i - p.m i) % 31), (fun i => (bitI y i - q.m i) % 31), (cm + p.sh) % 31, (sm + q.sh) % 31, false, false, false⟩) 30 1, isV (.pointer (some ⟨w.heap.size + 1 + 1 + 1, 31, none⟩)), isS (w.heap.size + 1 + 1 + 1) 29 (Tlk.cells ⟨(fun i => (bitI x i - p.m i) % 31), (fun i => (bitI y i - q.m i) % 31), (cm + p.sh) % 31, (sm + q.sh) % 31, false, false, false⟩) 31 1]) (by kernel_rfl) (by kernel_rfl) RT.refl RT.trans (Vof_monoR (by simp [isV_monoR, isS_mono])) ?op ?fin
        case op =>
          intro i o ho a V2 _ _ hfrm hE0 hdep
          have hE : RT (w.heap.size + 1 + 1 + 1) 29 (Tlk.cells ⟨(fun i => (bitI x i - p.m i) % 31), (fun i => (bitI y i - q.m i) % 31), (cm + p.sh) % 31, (sm + q.sh) % 31, false, false, false⟩) V6 V2 := RT.trans _ _ _ (RT.of_ext ((Ext.refl V6).drew)) hE0
          match i, ho with
          | 0, ho =>
            injection ho with ho
            subst ho
            have e1 : a.tmps[12]?.getD undef = .int .i64 cm := slot_of (hfrm 12 (frm_of 12 (by kernel_rfl)))
            exact owes_val rfl (by simp [execOp, go_sem, e1]) rfl
          | 1, ho =>
            injection ho with ho
            subst ho
            have e1 : a.tmps[4]?.getD undef = .pointer (some ⟨w.heap.size, 0, none⟩) := slot_of (hfrm 4 (frm_of 4 (by kernel_rfl)))
            exact owes_val rfl (by simp [execOp, go_sem, e1]) rfl
          | 2, ho =>
            injection ho with ho
            subst ho
            have e1 : a.tmps[52]?.getD undef = .pointer (some ⟨w.heap.size, 30, none⟩) := slot_of (hdep ⟨1, .data⟩ (by simp) (by kernel_rfl))
            have c1 : V2.cell? ⟨w.heap.size, 30, none⟩ = some (.int .u8 p.sh) := ((hE.blk N4.out (by omega)).cell 30).trans p.at_sh
            exact owes_val rfl (by simp [execOp, go_sem, e1, c1]) rfl
          | 3, ho =>
            injection ho with ho
            subst ho
            have e1 : a.tmps[53]?.getD undef = .int .u8 (p.sh) := slot_of (hdep ⟨2, .data⟩ (by simp) (by kernel_rfl))
            have wa := (WS.out _ hph).1
            exact owes_val rfl (by simp [execOp, go_sem, e1, wa]) rfl
          | 4, ho =>
            injection ho with ho
            subst ho
            have e1 : a.tmps[51]?.getD undef = .int .i64 cm := slot_of (hdep ⟨0, .data⟩ (by simp) (by kernel_rfl))
            have e2 : a.tmps[54]?.getD undef = .int .i64 (p.sh) := slot_of (hdep ⟨3, .data⟩ (by simp) (by kernel_rfl))
            exact owes_call rfl 64 [.tmp 51, .tmp 54] #[100, 100] rfl (by kernel_rfl) [.int .i64 cm, .int .i64 (p.sh)] (by simp [Act.eval, e1, e2]) (Calls.ext_of_same (plus_any cm p.sh (by omega) (by omega) _)) (fun _ => rfl)
          | 5, ho =>
            injection ho with ho
            subst ho
            have e1 : a.tmps[55]?.getD undef = .int .i64 ((cm + p.sh) % 31) := slot_of (hdep ⟨4, .data⟩ (by simp) (by kernel_rfl))
            have wa := (WS.out ((cm + p.sh) % 31) (by omega)).2
            exact owes_val rfl (by simp [execOp, go_sem, e1, wa]) rfl
          | 6, ho =>
            injection ho with ho
            subst ho
            have e1 : a.tmps[13]?.getD undef = .int .i64 sm := slot_of (hfrm 13 (frm_of 13 (by kernel_rfl)))
            exact owes_val rfl (by simp [execOp, go_sem, e1]) rfl
          | 7, ho =>
            injection ho with ho
            subst ho
            have e1 : a.tmps[5]?.getD undef = .pointer (some ⟨w.heap.size + 1, 0, none⟩) := slot_of (hfrm 5 (frm_of 5 (by kernel_rfl)))
            exact owes_val rfl (by simp [execOp, go_sem, e1]) rfl
          | 8, ho =>
            injection ho with ho
            subst ho
            have e1 : a.tmps[58]?.getD undef = .pointer (some ⟨w.heap.size + 1, 30, none⟩) := slot_of (hdep ⟨7, .data⟩ (by simp) (by kernel_rfl))
            have c1 : V2.cell? ⟨w.heap.size + 1, 30, none⟩ = some (.int .u8 q.sh) := ((hE.blk N5.out (by omega)).cell 30).trans q.at_sh
            exact owes_val rfl (by simp [execOp, go_sem, e1, c1]) rfl
          | 9, ho =>
            injection ho with ho
            subst ho
            have e1 : a.tmps[59]?.getD undef = .int .u8 (q.sh) := slot_of (hdep ⟨8, .data⟩ (by simp) (by kernel_rfl))
            have wa := (WS.out _ hqh).1
            exact owes_val rfl (by simp [execOp, go_sem, e1, wa]) rfl
          | 10, ho =>
            injection ho with ho
            subst ho
            have e1 : a.tmps[57]?.getD undef = .int .i64 sm := slot_of (hdep ⟨6, .data⟩ (by simp) (by kernel_rfl))
            have e2 : a.tmps[60]?.getD undef = .int .i64 (q.sh) := slot_of (hdep ⟨9, .data⟩ (by simp) (by kernel_rfl))
            exact owes_call rfl 64 [.tmp 57, .tmp 60] #[100, 100] rfl (by kernel_rfl) [.int .i64 sm, .int .i64 (q.sh)] (by simp [Act.eval, e1, e2]) (Calls.ext_of_same (plus_any sm q.sh (by omega) (by omega) _)) (fun _ => rfl)
          | 11, ho =>
            injection ho with ho
            subst ho
            have e1 : a.tmps[61]?.getD undef = .int .i64 ((sm + q.sh) % 31) := slot_of (hdep ⟨10, .data⟩ (by simp) (by kernel_rfl))
            have wa := (WS.out ((sm + q.sh) % 31) (by omega)).2
            exact owes_val rfl (by simp [execOp, go_sem, e1, wa]) rfl
          | 12, ho =>
            injection ho with ho
            subst ho
            have e1 : a.tmps[9]?.getD undef = .pointer (some ⟨w.heap.size + 1 + 1 + 1, 0, none⟩) := slot_of (hfrm 9 (frm_of 9 (by kernel_rfl)))
            exact owes_val rfl (by simp [execOp, go_sem, e1]) rfl
          | 13, ho =>
            injection ho with ho
            subst ho
            have e1 : a.tmps[63]?.getD undef = .pointer (some ⟨w.heap.size + 1 + 1 + 1, 30, none⟩) := slot_of (hdep ⟨12, .data⟩ (by simp) (by kernel_rfl))
            have e2 : a.tmps[56]?.getD undef = .int .u8 ((cm + p.sh) % 31) := slot_of (hdep ⟨5, .data⟩ (by simp) (by kernel_rfl))
            obtain ⟨cur0, kk1, kk2, _⟩ := hE.part _ N9.out (by rw [Tlk.size, Tlk.size])
            refine owes_store1 rfl 30 (.int .u8 ((cm + p.sh) % 31)) (fun cur hB hs => ?_) ⟨cur0, kk1, kk2⟩ (Tlk.at_x _ 0) (fun _ h => h)
            have hlt : 30 < cur.size := by rw [hs, Tlk.size]; omega
            have c1 : V2.cell? ⟨w.heap.size + 1 + 1 + 1, 30, none⟩ = some cur[30] := (hB.cell 30).trans (Array.getElem?_eq_getElem hlt)
            have c2 := hB.frozen 30
            simp [execOp, go_sem, e1, e2, c1, c2]
          | 14, ho =>
            injection ho with ho
            subst ho
            have e1 : a.tmps[9]?.getD undef = .pointer (some ⟨w.heap.size + 1 + 1 + 1, 0, none⟩) := slot_of (hfrm 9 (frm_of 9 (by kernel_rfl)))
            exact owes_val rfl (by simp [execOp, go_sem, e1]) rfl
          | 15, ho =>
            injection ho with ho
            subst ho
            have e1 : a.tmps[64]?.getD undef = .pointer (some ⟨w.heap.size + 1 + 1 + 1, 31, none⟩) := slot_of (hdep ⟨14, .data⟩ (by simp) (by kernel_rfl))
            have e2 : a.tmps[62]?.getD undef = .int .u8 ((sm + q.sh) % 31) := slot_of (hdep ⟨11, .data⟩ (by simp) (by kernel_rfl))
            obtain ⟨cur0, kk1, kk2, _⟩ := hE.part _ N9.out (by rw [Tlk.size, Tlk.size])
            refine owes_store1 rfl 31 (.int .u8 ((sm + q.sh) % 31)) (fun cur hB hs => ?_) ⟨cur0, kk1, kk2⟩ (Tlk.at_x _ 1) (fun _ h => h)
            have hlt : 31 < cur.size := by rw [hs, Tlk.size]; omega
            have c1 : V2.cell? ⟨w.heap.size + 1 + 1 + 1, 31, none⟩ = some cur[31] := (hB.cell 31).trans (Array.getElem?_eq_getElem hlt)
            have c2 := hB.frozen 31
            simp [execOp, go_sem, e1, e2, c1, c2]
          | k + 16, ho => exact absurd (List.getElem?_eq_some_iff.1 ho).1 (by simp)
        case fin =>
          intro vs4 V7 hE0 hvs
          have hE : RT (w.heap.size + 1 + 1 + 1) 29 (Tlk.cells ⟨(fun i => (bitI x i - p.m i) % 31), (fun i => (bitI y i - q.m i) % 31), (cm + p.sh) % 31, (sm + q.sh) % 31, false, false, false⟩) V6 V7 := RT.trans _ _ _ (RT.of_ext ((Ext.refl V6).drew)) hE0
          have s1 := hvs 13 (by simp)
          have s2 := hvs 15 (by simp)
          have O9 := Lib.hid (full_gen hE N9.out (by rw [Tlk.size, Tlk.size]) (fun j => by
              by_cases h1 : j = 30
              · exact .inr ⟨30, 1, undef, s1, by omega, by omega⟩
              · by_cases h2 : j = 31
                · exact .inr ⟨31, 1, undef, s2, by omega, by omega⟩
                · exact .inl (tlk_same j h1 h2)))
          have O4 := Lib.hid (hE.blk N4.out (by omega))
          have O5 := Lib.hid (hE.blk N5.out (by omega))
          have O8 := Lib.hid (hE.blk N8.out (by omega))
          have OE := Lib.hid (hE.below NE.out (by omega))
          clear hE hE0 hvs s1 s2
          simp [putAll, Act.put]
          go_wp2_with fail
          obtain ⟨cc, hcc⟩ : ∃ cc : Nat, (cm + p.sh) % 31 = (cc : Int) := ⟨((cm + p.sh) % 31).toNat, by omega⟩
          obtain ⟨ss, hss⟩ : ∃ ss : Nat, (sm + q.sh) % 31 = (ss : Int) := ⟨((sm + q.sh) % 31).toNat, by omega⟩
          have o9 := O9.out
          rw [hcc, hss] at o9
          have R9 := Lib.hid o9
          have hccb : cc < 31 := by omega
          have hssb : ss < 31 := by omega
          have hccb2 : (cc : Int) < 31 := by omega
          have hssb2 : (ss : Int) < 31 := by omega
          have HCC := Lib.hid hcc
          have HSS := Lib.hid hss
          clear o9 hcc hss O9
          have hm1 : min ss 32 = ss := by omega
          have hm2 : min ss 64 = ss := by omega
          generalize htc : p.t cc = tc at *
          generalize hqc : q.t cc = qc at *
          refine wp_region_rel1 (R := RT (w.heap.size + 1 + 1 + 1) 29 (Tlk.cells ⟨(fun i => (bitI x i - p.m i) % 31), (fun i => (bitI y i - q.m i) % 31), cc, ss, tb tc ss, tb qc ss, false⟩)) (Vof [isV (.pointer (some ⟨w.heap.size + 1 + 1 + 1, 30, none⟩)), isV (.int .u8 cc), isV (.pointer (some ⟨w.heap.size, 31, none⟩)), isV (.pointer (some ⟨w.heap.size, 31 + cc, none⟩)), isV (.int .u32 tc), isV (.pointer (some ⟨w.heap.size + 1 + 1 + 1, 31, none⟩)), isV (.int .u8 ss), isV (.int .u32 (tc / 2 ^ ss)), isV (.int .u32 (bits .and .u32 (tc / 2 ^ ss) 1)), isV (.bool (tb tc ss)), isV (.pointer (some ⟨w.heap.size + 1 + 1 + 1, 30, none⟩)), isV (.int .u8 cc), isV (.pointer (some ⟨w.heap.size + 1, 31, none⟩)), isV (.pointer (some ⟨w.heap.size + 1, 31 + cc, none⟩)), isV (.int .u32 qc), isV (.pointer (some ⟨w.heap.size + 1 + 1 + 1, 31, none⟩)), isV (.int .u8 ss), isV (.int .u32 (qc / 2 ^ ss)), isV (.int .u32 (bits .and .u32 (qc / 2 ^ ss) 1)), isV (.bool (tb qc ss)), isV (.pointer (some ⟨w.heap.size + 1 + 1 + 1, 32, none⟩)), isS (w.heap.size + 1 + 1 + 1) 29 (Tlk.cells ⟨(fun i => (bitI x i - p.m i) % 31), (fun i => (bitI y i - q.m i) % 31), cc, ss, tb tc ss, tb qc ss, false⟩) 32 1, isV (.pointer (some ⟨w.heap.size + 1 + 1 + 1, 33, none⟩)), isS (w.heap.size + 1 + 1 + 1) 29 (Tlk.cells ⟨(fun i => (bitI x i - p.m i) % 31), (fun i => (bitI y i - q.m i) % 31), cc, ss, tb tc ss, tb qc ss, false⟩) 33 1]) (by kernel_rfl) (by kernel_rfl) RT.refl RT.trans (Vof_monoR (by simp [isV_monoR, isS_mono])) ?op ?fin
          case op =>
            intro i o ho a V2 _ _ hfrm hE0 hdep
            have hE : RT (w.heap.size + 1 + 1 + 1) 29 (Tlk.cells ⟨(fun i => (bitI x i - p.m i) % 31), (fun i => (bitI y i - q.m i) % 31), cc, ss, tb tc ss, tb qc ss, false⟩) V7 V2 := RT.trans _ _ _ (RT.of_ext ((Ext.refl V7).drew)) hE0
            match i, ho with
            | 0, ho =>
              injection ho with ho
              subst ho
              have e1 : a.tmps[9]?.getD undef = .pointer (some ⟨w.heap.size + 1 + 1 + 1, 0, none⟩) := slot_of (hfrm 9 (frm_of 9 (by kernel_rfl)))
              exact owes_val rfl (by simp [execOp, go_sem, e1]) rfl
            | 1, ho =>
              injection ho with ho
              subst ho
              have e1 : a.tmps[65]?.getD undef = .pointer (some ⟨w.heap.size + 1 + 1 + 1, 30, none⟩) := slot_of (hdep ⟨0, .data⟩ (by simp) (by kernel_rfl))
              obtain ⟨cur0, kk1, kk2, kk3⟩ := hE.part _ R9.out (by rw [Tlk.size, Tlk.size])
              have c1 : V2.cell? ⟨w.heap.size + 1 + 1 + 1, 30, none⟩ = some (.int .u8 cc) := by
                rw [kk1.cell]
                rcases kk3 30 with h | h
                · rw [h]; exact Tlk.at_x _ 0
                · rw [h]; exact Tlk.at_x _ 0
              exact owes_val rfl (by simp [execOp, go_sem, e1, c1]) rfl
            | 2, ho =>
              injection ho with ho
              subst ho
              have e1 : a.tmps[4]?.getD undef = .pointer (some ⟨w.heap.size, 0, none⟩) := slot_of (hfrm 4 (frm_of 4 (by kernel_rfl)))
              exact owes_val rfl (by simp [execOp, go_sem, e1]) rfl
            | 3, ho =>
              injection ho with ho
              subst ho
              have e1 : a.tmps[67]?.getD undef = .pointer (some ⟨w.heap.size, 31, none⟩) := slot_of (hdep ⟨2, .data⟩ (by simp) (by kernel_rfl))
              have e2 : a.tmps[66]?.getD undef = .int .u8 cc := slot_of (hdep ⟨1, .data⟩ (by simp) (by kernel_rfl))
              exact owes_val rfl (by simp [execOp, go_sem, e1, e2, hccb2]) rfl
            | 4, ho =>
              injection ho with ho
              subst ho
              have e1 : a.tmps[68]?.getD undef = .pointer (some ⟨w.heap.size, 31 + cc, none⟩) := slot_of (hdep ⟨3, .data⟩ (by simp) (by kernel_rfl))
              have c1 : V2.cell? ⟨w.heap.size, 31 + cc, none⟩ = some (.int .u32 tc) := by rw [← htc]; exact ((hE.blk O4.out (by omega)).cell (31 + cc)).trans (p.at_t cc hccb)
              exact owes_val rfl (by simp [execOp, go_sem, e1, c1]) rfl
            | 5, ho =>
              injection ho with ho
              subst ho
              have e1 : a.tmps[9]?.getD undef = .pointer (some ⟨w.heap.size + 1 + 1 + 1, 0, none⟩) := slot_of (hfrm 9 (frm_of 9 (by kernel_rfl)))
              exact owes_val rfl (by simp [execOp, go_sem, e1]) rfl
            | 6, ho =>
              injection ho with ho
              subst ho
              have e1 : a.tmps[70]?.getD undef = .pointer (some ⟨w.heap.size + 1 + 1 + 1, 31, none⟩) := slot_of (hdep ⟨5, .data⟩ (by simp) (by kernel_rfl))
              obtain ⟨cur0, kk1, kk2, kk3⟩ := hE.part _ R9.out (by rw [Tlk.size, Tlk.size])
              have c1 : V2.cell? ⟨w.heap.size + 1 + 1 + 1, 31, none⟩ = some (.int .u8 ss) := by
                rw [kk1.cell]
                rcases kk3 31 with h | h
                · rw [h]; exact Tlk.at_x _ 1
                · rw [h]; exact Tlk.at_x _ 1
              exact owes_val rfl (by simp [execOp, go_sem, e1, c1]) rfl
            | 7, ho =>
              injection ho with ho
              subst ho
              have e1 : a.tmps[69]?.getD undef = .int .u32 tc := slot_of (hdep ⟨4, .data⟩ (by simp) (by kernel_rfl))
              have e2 : a.tmps[71]?.getD undef = .int .u8 ss := slot_of (hdep ⟨6, .data⟩ (by simp) (by kernel_rfl))
              exact owes_val rfl (by simp [execOp, go_sem, e1, e2]) rfl
            | 8, ho =>
              injection ho with ho
              subst ho
              have e1 : a.tmps[72]?.getD undef = .int .u32 (tc / 2 ^ ss) := slot_of (hdep ⟨7, .data⟩ (by simp) (by kernel_rfl))
              exact owes_val rfl (by simp [execOp, go_sem, e1]) rfl
            | 9, ho =>
              injection ho with ho
              subst ho
              have e1 : a.tmps[73]?.getD undef = .int .u32 (bits .and .u32 (tc / 2 ^ ss) 1) := slot_of (hdep ⟨8, .data⟩ (by simp) (by kernel_rfl))
              exact owes_val rfl (by simp [execOp, go_sem, e1, tb]) rfl
            | 10, ho =>
              injection ho with ho
              subst ho
              have e1 : a.tmps[9]?.getD undef = .pointer (some ⟨w.heap.size + 1 + 1 + 1, 0, none⟩) := slot_of (hfrm 9 (frm_of 9 (by kernel_rfl)))
              exact owes_val rfl (by simp [execOp, go_sem, e1]) rfl
            | 11, ho =>
              injection ho with ho
              subst ho
              have e1 : a.tmps[75]?.getD undef = .pointer (some ⟨w.heap.size + 1 + 1 + 1, 30, none⟩) := slot_of (hdep ⟨10, .data⟩ (by simp) (by kernel_rfl))
              obtain ⟨cur0, kk1, kk2, kk3⟩ := hE.part _ R9.out (by rw [Tlk.size, Tlk.size])
              have c1 : V2.cell? ⟨w.heap.size + 1 + 1 + 1, 30, none⟩ = some (.int .u8 cc) := by
                rw [kk1.cell]
                rcases kk3 30 with h | h
                · rw [h]; exact Tlk.at_x _ 0
                · rw [h]; exact Tlk.at_x _ 0
              exact owes_val rfl (by simp [execOp, go_sem, e1, c1]) rfl
            | 12, ho =>
              injection ho with ho
              subst ho
              have e1 : a.tmps[5]?.getD undef = .pointer (some ⟨w.heap.size + 1, 0, none⟩) := slot_of (hfrm 5 (frm_of 5 (by kernel_rfl)))
              exact owes_val rfl (by simp [execOp, go_sem, e1]) rfl
            | 13, ho =>
              injection ho with ho
              subst ho
              have e1 : a.tmps[77]?.getD undef = .pointer (some ⟨w.heap.size + 1, 31, none⟩) := slot_of (hdep ⟨12, .data⟩ (by simp) (by kernel_rfl))
              have e2 : a.tmps[76]?.getD undef = .int .u8 cc := slot_of (hdep ⟨11, .data⟩ (by simp) (by kernel_rfl))
              exact owes_val rfl (by simp [execOp, go_sem, e1, e2, hccb2]) rfl
            | 14, ho =>
              injection ho with ho
              subst ho
              have e1 : a.tmps[78]?.getD undef = .pointer (some ⟨w.heap.size + 1, 31 + cc, none⟩) := slot_of (hdep ⟨13, .data⟩ (by simp) (by kernel_rfl))
              have c1 : V2.cell? ⟨w.heap.size + 1, 31 + cc, none⟩ = some (.int .u32 qc) := by rw [← hqc]; exact ((hE.blk O5.out (by omega)).cell (31 + cc)).trans (q.at_t cc hccb)
              exact owes_val rfl (by simp [execOp, go_sem, e1, c1]) rfl
            | 15, ho =>
              injection ho with ho
              subst ho
              have e1 : a.tmps[9]?.getD undef = .pointer (some ⟨w.heap.size + 1 + 1 + 1, 0, none⟩) := slot_of (hfrm 9 (frm_of 9 (by kernel_rfl)))
              exact owes_val rfl (by simp [execOp, go_sem, e1]) rfl
            | 16, ho =>
              injection ho with ho
              subst ho
              have e1 : a.tmps[80]?.getD undef = .pointer (some ⟨w.heap.size + 1 + 1 + 1, 31, none⟩) := slot_of (hdep ⟨15, .data⟩ (by simp) (by kernel_rfl))
              obtain ⟨cur0, kk1, kk2, kk3⟩ := hE.part _ R9.out (by rw [Tlk.size, Tlk.size])
              have c1 : V2.cell? ⟨w.heap.size + 1 + 1 + 1, 31, none⟩ = some (.int .u8 ss) := by
                rw [kk1.cell]
                rcases kk3 31 with h | h
                · rw [h]; exact Tlk.at_x _ 1
                · rw [h]; exact Tlk.at_x _ 1
              exact owes_val rfl (by simp [execOp, go_sem, e1, c1]) rfl
            | 17, ho =>
              injection ho with ho
              subst ho
              have e1 : a.tmps[79]?.getD undef = .int .u32 qc := slot_of (hdep ⟨14, .data⟩ (by simp) (by kernel_rfl))
              have e2 : a.tmps[81]?.getD undef = .int .u8 ss := slot_of (hdep ⟨16, .data⟩ (by simp) (by kernel_rfl))
              exact owes_val rfl (by simp [execOp, go_sem, e1, e2]) rfl
            | 18, ho =>
              injection ho with ho
              subst ho
              have e1 : a.tmps[82]?.getD undef = .int .u32 (qc / 2 ^ ss) := slot_of (hdep ⟨17, .data⟩ (by simp) (by kernel_rfl))
              exact owes_val rfl (by simp [execOp, go_sem, e1]) rfl
            | 19, ho =>
              injection ho with ho
              subst ho
              have e1 : a.tmps[83]?.getD undef = .int .u32 (bits .and .u32 (qc / 2 ^ ss) 1) := slot_of (hdep ⟨18, .data⟩ (by simp) (by kernel_rfl))
              exact owes_val rfl (by simp [execOp, go_sem, e1, tb]) rfl
            | 20, ho =>
              injection ho with ho
              subst ho
              have e1 : a.tmps[9]?.getD undef = .pointer (some ⟨w.heap.size + 1 + 1 + 1, 0, none⟩) := slot_of (hfrm 9 (frm_of 9 (by kernel_rfl)))
              exact owes_val rfl (by simp [execOp, go_sem, e1]) rfl
            | 21, ho =>
              injection ho with ho
              subst ho
              have e1 : a.tmps[85]?.getD undef = .pointer (some ⟨w.heap.size + 1 + 1 + 1, 32, none⟩) := slot_of (hdep ⟨20, .data⟩ (by simp) (by kernel_rfl))
              have e2 : a.tmps[74]?.getD undef = .bool (tb tc ss) := slot_of (hdep ⟨9, .data⟩ (by simp) (by kernel_rfl))
              obtain ⟨cur0, kk1, kk2, _⟩ := hE.part _ R9.out (by rw [Tlk.size, Tlk.size])
              refine owes_store1 rfl 32 (.bool (tb tc ss)) (fun cur hB hs => ?_) ⟨cur0, kk1, kk2⟩ (Tlk.at_x _ 2) (fun _ h => h)
              have hlt : 32 < cur.size := by rw [hs, Tlk.size]; omega
              have c1 : V2.cell? ⟨w.heap.size + 1 + 1 + 1, 32, none⟩ = some cur[32] := (hB.cell 32).trans (Array.getElem?_eq_getElem hlt)
              have c2 := hB.frozen 32
              simp [execOp, go_sem, e1, e2, c1, c2]
            | 22, ho =>
              injection ho with ho
              subst ho
              have e1 : a.tmps[9]?.getD undef = .pointer (some ⟨w.heap.size + 1 + 1 + 1, 0, none⟩) := slot_of (hfrm 9 (frm_of 9 (by kernel_rfl)))
              exact owes_val rfl (by simp [execOp, go_sem, e1]) rfl
            | 23, ho =>
              injection ho with ho
              subst ho
              have e1 : a.tmps[86]?.getD undef = .pointer (some ⟨w.heap.size + 1 + 1 + 1, 33, none⟩) := slot_of (hdep ⟨22, .data⟩ (by simp) (by kernel_rfl))
              have e2 : a.tmps[84]?.getD undef = .bool (tb qc ss) := slot_of (hdep ⟨19, .data⟩ (by simp) (by kernel_rfl))
              obtain ⟨cur0, kk1, kk2, _⟩ := hE.part _ R9.out (by rw [Tlk.size, Tlk.size])
              refine owes_store1 rfl 33 (.bool (tb qc ss)) (fun cur hB hs => ?_) ⟨cur0, kk1, kk2⟩ (Tlk.at_x _ 3) (fun _ h => h)
              have hlt : 33 < cur.size := by rw [hs, Tlk.size]; omega
              have c1 : V2.cell? ⟨w.heap.size + 1 + 1 + 1, 33, none⟩ = some cur[33] := (hB.cell 33).trans (Array.getElem?_eq_getElem hlt)
              have c2 := hB.frozen 33
              simp [execOp, go_sem, e1, e2, c1, c2]
            | k + 24, ho => exact absurd (List.getElem?_eq_some_iff.1 ho).1 (by simp)
          case fin =>
            intro vs5 V8 hE0 hvs
            have hE : RT (w.heap.size + 1 + 1 + 1) 29 (Tlk.cells ⟨(fun i => (bitI x i - p.m i) % 31), (fun i => (bitI y i - q.m i) % 31), cc, ss, tb tc ss, tb qc ss, false⟩) V7 V8 := RT.trans _ _ _ (RT.of_ext ((Ext.refl V7).drew)) hE0
            have s1 := hvs 21 (by simp)
            have s2 := hvs 23 (by simp)
            have S9' := full_gen hE R9.out (by rw [Tlk.size, Tlk.size]) (fun j => by
              by_cases h1 : j = 32
              · exact .inr ⟨32, 1, undef, s1, by omega, by omega⟩
              · by_cases h2 : j = 33
                · exact .inr ⟨33, 1, undef, s2, by omega, by omega⟩
                · exact .inl (tlk_lr j h1 h2))
            have S8 := Lib.hid (hE.blk O8.out (by omega))
            have SE := Lib.hid (hE.below OE.out (by omega))
            clear hE hE0 hvs s1 s2
            have HTC := Lib.hid htc
            have HQC := Lib.hid hqc
            clear htc hqc
            obtain ⟨bl, hbl⟩ : ∃ bl, bl = tb tc ss := ⟨_, rfl⟩
            obtain ⟨br, hbr⟩ : ∃ br, br = tb qc ss := ⟨_, rfl⟩
            rw [← hbl, ← hbr] at S9'
            have HBL := Lib.hid hbl
            have HBR := Lib.hid hbr
            clear hbl hbr
            have k2 : V8.cell? ⟨w.heap.size + 1 + 1 + 1, 32, none⟩ = some (.bool bl) := (S9'.cell 32).trans (Tlk.at_x _ 2)
            have k3 : V8.cell? ⟨w.heap.size + 1 + 1 + 1, 33, none⟩ = some (.bool br) := (S9'.cell 33).trans (Tlk.at_x _ 3)
            have k4 : V8.cell? ⟨w.heap.size + 1 + 1 + 1, 34, none⟩ = some (.bool false) := (S9'.cell 34).trans (Tlk.at_x _ 4)
            have kf := S9'.frozen 34
            have X9 : Blk (V8.setCell ⟨w.heap.size + 1 + 1 + 1, 34, none⟩ (.bool (bl != br))) (w.heap.size + 1 + 1 + 1) 29 (Tlk.cells ⟨(fun i => (bitI x i - p.m i) % 31), (fun i => (bitI y i - q.m i) % 31), cc, ss, bl, br, bl != br⟩) := by
              rw [← tlk_set (m := false)]; exact S9'.set_ 34 _
            have HX9 := Lib.hid X9
            have HX8 := Lib.hid (S8.out.far (p := ⟨w.heap.size + 1 + 1 + 1, 34, none⟩) (by show w.heap.size + 1 + 1 ≠ w.heap.size + 1 + 1 + 1; omega) (.bool (bl != br)))
            have HXE := Lib.hid (SE.out.setCell (p := ⟨w.heap.size + 1 + 1 + 1, 34, none⟩) (by show w.heap.size ≤ w.heap.size + 1 + 1 + 1; omega) (.bool (bl != br)))
            clear S9' X9
            simp [putAll, Act.put]
            go_wp2_with (first | (refine wpList_load_row rfl 29 (.tmp 9) rfl (w.heap.size + 1 + 1 + 1) rfl 29 (Tlk.cells ⟨(fun i => (bitI x i - p.m i) % 31), (fun i => (bitI y i - q.m i) % 31), cc, ss, bl, br, bl != br⟩) (0, 0) _ HX9.out Try.underlying29 rfl (info29t _) ?_) | (refine wpList_store_row rfl 29 (.tmp 8) (.tmp 93) rfl (w.heap.size + 1 + 1) rfl 29 Z35 (Tlk.cells ⟨(fun i => (bitI x i - p.m i) % 31), (fun i => (bitI y i - q.m i) % 31), cc, ss, bl, br, bl != br⟩) rfl HX8.out (info29t _) (z35t _) tlk_one ?_))
            refine bodyPost_ret (results_cell_row rfl _ _ (w.heap.size + 1 + 1) 29 (Tlk.cells ⟨(fun i => (bitI x i - p.m i) % 31), (fun i => (bitI y i - q.m i) % 31), cc, ss, bl, br, bl != br⟩) (0, 0) _ rfl (HX8.out.row _) Try.underlying29 rfl (info29t _)) rfl ⟨ret_of ?_, HXE.out.row (by omega) _⟩
            have e1 : sayC p q x y = (cc : Int) := by rw [← HCC.out, HCM.out]; rfl
            have e2 : sayS p q x y = (ss : Int) := by rw [← HSS.out, HSM.out]; rfl
            unfold talkOf
            rw [e1, e2, Int.toNat_natCast, Int.toNat_natCast, HTC.out, HQC.out, ← HBL.out, ← HBR.out]
end Go.Proofs.Ytfdcapblgdlkaaa
