/- Plain laws: the sums of the program and of the reference are the same modulo 31. -/
import Derived.Test.YtfdcapblgdlkaaaPlay
namespace Go.Proofs.Ytfdcapblgdlkaaa
open Go.RowKit
def sumF (f : Nat → Int) : Nat → Int
  | 0 => 0
  | k + 1 => sumF f k + f k
def cF (p q : Pty) (x y : BitVec 16) (i : Nat) : Int := bitI x i - 2 * (p.m i * ((bitI y i - q.m i) % 31) + p.s i)
def sF (p q : Pty) (x y : BitVec 16) (i : Nat) : Int := bitI y i - 2 * ((bitI x i - p.m i) % 31 * q.m i + q.s i + (bitI x i - p.m i) % 31 * ((bitI y i - q.m i) % 31))
theorem cnt_mod (f g h : Nat → Int) (hy : ∀ i, (f i - 2 * g i) % 31 = h i % 31) : ∀ k, cntS f g k % 31 = sumF h k % 31 := by
  intro k
  induction k with
  | zero => rfl
  | succ k ih =>
    rw [cntS, sumF]
    have := hy k
    omega
theorem c_mod (p q : Pty) (x y : BitVec 16) (k : Nat) : cntS (bitI x) (prodP p q y) k % 31 = sumF (cF p q x y) k % 31 := by
  refine cnt_mod _ _ _ (fun i => ?_) k
  unfold prodP cF
  generalize p.m i * ((bitI y i - q.m i) % 31) = e
  omega
theorem s_mod (p q : Pty) (x y : BitVec 16) (k : Nat) : cntS (bitI y) (prodQ p q x y) k % 31 = sumF (sF p q x y) k % 31 := by
  refine cnt_mod _ _ _ (fun i => ?_) k
  unfold prodQ sF
  generalize (bitI x i - p.m i) % 31 = d
  generalize (bitI y i - q.m i) % 31 = e
  have h1 : d * ((q.m i + e) % 31) % 31 = (d * q.m i + d * e) % 31 := by
    rw [Int.mul_emod, Int.emod_emod, ← Int.mul_emod, Int.mul_add]
  generalize d * ((q.m i + e) % 31) = u at *
  generalize d * q.m i = v at *
  generalize d * e = z at *
  omega
end Go.Proofs.Ytfdcapblgdlkaaa
/- The reference's talk of two parties. -/
namespace Go.Proofs.Ytfdcapblgdlkaaa
open Go.RowKit

def upto (k : Nat) (f : Nat → Int) (i : Nat) : Int := if i < k then f i else 0
def dF (p : Pty) (x : BitVec 16) (i : Nat) : Int := (bitI x i - p.m i) % 31
theorem mul_le {a b : Int} (ha : 0 ≤ a ∧ a < 31) (hb : 0 ≤ b ∧ b < 31) : 0 ≤ a * b ∧ a * b ≤ 900 := by
  constructor
  · exact Int.mul_nonneg ha.1 hb.1
  · have h1 : a * b ≤ 30 * b := Int.mul_le_mul_of_nonneg_right (by omega) hb.1
    omega
theorem A15_upto (f : Nat → Int) : A15 (upto 15 f) = A15 f := by
  have h : valL 15 (u8V (upto 15 f)) = valL 15 (u8V f) := List.map_congr_left (fun i hi => by
    have h1 := List.mem_range.1 hi
    simp [u8V, upto, h1])
  unfold A15
  rw [h]
theorem tlk_cs {d e : Nat → Int} {cc ss : Int} {l r m : Bool} : ((Tlk.cells ⟨d, e, 0, 0, l, r, m⟩).setIfInBounds 30 (.int .u8 cc)).setIfInBounds 31 (.int .u8 ss) = Tlk.cells ⟨d, e, cc, ss, l, r, m⟩ := by
  apply Array.ext'
  apply List.ext_getElem?
  intro j
  rw [Array.getElem?_toList, Array.getElem?_toList]
  by_cases h1 : j = 30
  · subst h1
    rw [Array.getElem?_setIfInBounds, if_neg (by omega), Array.getElem?_setIfInBounds, if_pos rfl, if_pos (by rw [Tlk.size]; omega)]
    exact (Tlk.at_x ⟨d, e, cc, ss, l, r, m⟩ 0).symm
  · by_cases h2 : j = 31
    · subst h2
      rw [Array.getElem?_setIfInBounds, if_pos rfl, if_pos (by simp [Tlk.size])]
      exact (Tlk.at_x ⟨d, e, cc, ss, l, r, m⟩ 1).symm
    · rw [Array.getElem?_setIfInBounds, if_neg (fun h => h2 h.symm), Array.getElem?_setIfInBounds, if_neg (fun h => h1 h.symm)]
      exact tlk_same j h1 h2
theorem tlk_l {d e : Nat → Int} {c s : Int} {l r l' m : Bool} (j : Nat) (h1 : j ≠ 32) : (Tlk.cells ⟨d, e, c, s, l, r, m⟩)[j]? = (Tlk.cells ⟨d, e, c, s, l', r, m⟩)[j]? := by
  by_cases h2 : j = 33
  · subst h2; exact (Tlk.at_x _ 3).trans (Tlk.at_x ⟨d, e, c, s, l', r, m⟩ 3).symm
  · exact tlk_lr j h1 h2
theorem tlk_r {d e : Nat → Int} {c s : Int} {l r r' m : Bool} (j : Nat) (h2 : j ≠ 33) : (Tlk.cells ⟨d, e, c, s, l, r, m⟩)[j]? = (Tlk.cells ⟨d, e, c, s, l, r', m⟩)[j]? := by
  by_cases h1 : j = 32
  · subst h1; exact (Tlk.at_x _ 2).trans (Tlk.at_x ⟨d, e, c, s, l, r', m⟩ 2).symm
  · exact tlk_lr j h1 h2
theorem upto_zero (f : Nat → Int) : upto 0 f = fun _ => 0 := by
  funext i; simp [upto]
theorem z35_zero (f g : Nat → Int) : Z35 = Tlk.cells ⟨upto 0 f, upto 0 g, 0, 0, false, false, false⟩ := by
  rw [upto_zero, upto_zero]; kernel_rfl
theorem upto_set (D : Nat → Int) (k i : Nat) : upto (k + 1) D i = if i = k then D k else upto k D i := by
  unfold upto
  by_cases h : i = k
  · subst h; simp
  · rw [if_neg h]
    have e : (i < k + 1) ↔ (i < k) := by omega
    simp only [e]
theorem tlk_put (D E : Nat → Int) (k : Nat) (hk : k < 15) : ((Tlk.cells ⟨upto k D, upto k E, 0, 0, false, false, false⟩).setIfInBounds k (.int .u8 (D k))).setIfInBounds (15 + k) (.int .u8 (E k)) = Tlk.cells ⟨upto (k + 1) D, upto (k + 1) E, 0, 0, false, false, false⟩ := by
  apply Array.ext'
  apply List.ext_getElem?
  intro j
  rw [Array.getElem?_toList, Array.getElem?_toList, Array.getElem?_setIfInBounds, Array.getElem?_setIfInBounds]
  rcases Nat.lt_or_ge j 15 with h | h
  · rw [Tlk.at_d _ j h, Tlk.at_d _ j h, if_neg (by omega)]
    simp only [upto_set]
    by_cases e : k = j
    · subst e; rw [if_pos rfl, if_pos (by rw [Tlk.size]; omega), if_pos rfl]
    · rw [if_neg e, if_neg (fun h => e h.symm)]
  · rcases Nat.lt_or_ge j 30 with h' | h'
    · obtain ⟨m, rfl⟩ : ∃ m, j = 15 + m := ⟨j - 15, by omega⟩
      rw [Tlk.at_e _ m (by omega), Tlk.at_e _ m (by omega)]
      simp only [upto_set]
      by_cases e : k = m
      · subst e; rw [if_pos rfl, if_pos (by simp [Tlk.size]; omega), if_pos rfl]
      · rw [if_neg (by omega), if_neg (by omega), if_neg (fun h => e h.symm)]
    · rw [if_neg (by omega), if_neg (by omega)]
      obtain ⟨m, rfl⟩ : ∃ m, j = 30 + m := ⟨j - 30, by omega⟩
      rw [Tlk.at_x, Tlk.at_x]
set_option maxRecDepth 100000 in
set_option maxHeartbeats 4000000 in
theorem talked_any (p q : Pty) (x y : BitVec 16) (hpm : ∀ i, i < 15 → 0 ≤ p.m i ∧ p.m i < 31) (hqm : ∀ i, i < 15 → 0 ≤ q.m i ∧ q.m i < 31) (hps : ∀ i, i < 15 → 0 ≤ p.s i ∧ p.s i < 31) (hqs : ∀ i, i < 15 → 0 ≤ q.s i ∧ q.s i < 31) (hph : 0 ≤ p.sh ∧ p.sh < 31) (hqh : 0 ≤ q.sh ∧ q.sh < 31) (w : World) : Calls Try.prog 53 #[p.val, q.val, .int .u16 (uv x), .int .u16 (uv y)] w fun e w' => e = .returned (.agg (talkOf p q x y).cells) ∧ Ext w w' := by
  go_enter Try.func53, Try.ntmps53
  go_wp2_with fail
  have H4 := Lib.hid ((((Blk.new w 26 p.cells).alloc (.cells q.cells 26)).alloc (.cells Z35 29)).alloc (.cells Z35 29))
  have H5 := Lib.hid (((Blk.new' (w.alloc (.cells p.cells 26)) 26 q.cells (w.heap.size + 1) (by simp)).alloc (.cells Z35 29)).alloc (.cells Z35 29))
  have H8 := Lib.hid ((Blk.new' ((w.alloc (.cells p.cells 26)).alloc (.cells q.cells 26)) 29 Z35 (w.heap.size + 1 + 1) (by simp)).alloc (.cells Z35 29))
  have H9 := Lib.hid (Blk.new' (((w.alloc (.cells p.cells 26)).alloc (.cells q.cells 26)).alloc (.cells Z35 29)) 29 Z35 (w.heap.size + 1 + 1 + 1) (by simp))
  have HE := Lib.hid (((((Ext.refl w).alloc (.cells p.cells 26)).alloc (.cells q.cells 26)).alloc (.cells Z35 29)).alloc (.cells Z35 29))
  change Code.wp _ _ _ _ ((((w.alloc (.cells p.cells 26)).alloc (.cells q.cells 26)).alloc (.cells Z35 29)).alloc (.cells Z35 29))
  generalize (((w.alloc (.cells p.cells 26)).alloc (.cells q.cells 26)).alloc (.cells Z35 29)).alloc (.cells Z35 29) = W at *
  go_loopw [10, 11, 12, 13, 14, 15, 16] (fun c s i _ _ _ _ wr => ∃ (k : Nat) (cv sv : Int), k ≤ 15 ∧ i = .int .i64 k ∧ c = .int .i64 cv ∧ s = .int .i64 sv ∧ cv = sumF (cF p q x y) k ∧ sv = sumF (sF p q x y) k ∧ (-4000 * (k : Int) ≤ cv ∧ cv ≤ 4000 * k) ∧ (-4000 * (k : Int) ≤ sv ∧ sv ≤ 4000 * k) ∧ Blk wr w.heap.size 26 p.cells ∧ Blk wr (w.heap.size + 1) 26 q.cells ∧ Blk wr (w.heap.size + 1 + 1) 29 Z35 ∧ Blk wr (w.heap.size + 1 + 1 + 1) 29 (Tlk.cells ⟨upto k (dF p x), upto k (dF q y), 0, 0, false, false, false⟩) ∧ Ext w wr) (fun _ _ i _ _ _ _ _ => 15 - (intOf i).toNat)
  case atStart => exact ⟨0, 0, 0, by omega, rfl, rfl, rfl, rfl, rfl, by omega, by omega, H4.out, H5.out, H8.out, by rw [← z35_zero]; exact H9.out, HE.out⟩
  case round =>
    obtain ⟨k, cv, sv, hk, rfl, rfl, rfl, hcv, hsv, hcb, hsb, h4, h5, h8, h9, hE⟩ := hrel
    have G4 := Lib.hid h4
    have G5 := Lib.hid h5
    have G8 := Lib.hid h8
    have G9 := Lib.hid h9
    have GE := Lib.hid hE
    have HCV := Lib.hid hcv
    have HSV := Lib.hid hsv
    clear hcv hsv
    by_cases hk15 : k < 15
    · have hk2 : (k : Int) < 15 := by omega
      have c1 : wr.cell? ⟨w.heap.size, k, none⟩ = some (.int .u8 (p.m k)) := (h4.cell k).trans (p.at_m k hk15)
      have c2 : wr.cell? ⟨w.heap.size + 1, k, none⟩ = some (.int .u8 (q.m k)) := (h5.cell k).trans (q.at_m k hk15)
      have o1 := Old.mk h4.lt
      have o2 := Old.mk h5.lt
      have ba := hpm k hk15
      have bb := hqm k hk15
      clear h4 h5 h8 h9 hE
      have wa : IntKind.i64.wrap (p.m k) = p.m k := IntWalk.i64_in _ (by omega)
      have wb : IntKind.i64.wrap (q.m k) = q.m k := IntWalk.i64_in _ (by omega)
      go_wp2_with fail
      refine wp_region_ext (by kernel_rfl) (by kernel_rfl) ?_
      repeat (go_big_quiet_step (fail))
      refine wpQuiet_nil ?_
      rintro _ ⟨z1, rfl⟩
      have bx := bitI_in x k
      have by_ := bitI_in y k
      have B1 := Lib.hid (fun w => bit_any x k (by omega) w)
      have B2 := Lib.hid (fun w => bit_any y k (by omega) w)
      have R1 := Lib.hid (fun w => rest_any (bitI x k - p.m k) (by omega) w)
      have R2 := Lib.hid (fun w => rest_any (bitI y k - q.m k) (by omega) w)
      have HD := Lib.hid (show dF p x k = (bitI x k - p.m k) % 31 from rfl)
      have HEK := Lib.hid (show dF q y k = (bitI y k - q.m k) % 31 from rfl)
      have t1 : wr.cell? ⟨w.heap.size + 1 + 1 + 1, k, none⟩ = some (.int .u8 0) := by
        rw [G9.out.cell, Tlk.at_d _ k hk15]; simp [upto]
      have t2 : wr.cell? ⟨w.heap.size + 1 + 1 + 1, 15 + k, none⟩ = some (.int .u8 0) := by
        rw [G9.out.cell, Tlk.at_e _ k hk15]; simp [upto]
      have tf := G9.out.frozen
      have to := Old.mk G9.out.lt
      have hdb : 0 ≤ (bitI x k - p.m k) % 31 ∧ (bitI x k - p.m k) % 31 < 31 := by omega
      have heb : 0 ≤ (bitI y k - q.m k) % 31 ∧ (bitI y k - q.m k) % 31 < 31 := by omega
      generalize hbx : bitI x k = xk at *
      generalize hby : bitI y k = yk at *
      generalize hpa : p.m k = ak at *
      generalize hqb : q.m k = bk at *
      have HBX := Lib.hid hbx
      have HBY := Lib.hid hby
      have HPA := Lib.hid hpa
      have HQB := Lib.hid hqb
      clear hbx hby hpa hqb
      generalize (xk - ak) % 31 = dk at *
      generalize (yk - bk) % 31 = ek at *
      have wd : IntKind.u8.wrap dk = dk := by rw [IntKind.wrap_u8]; omega
      have we : IntKind.u8.wrap ek = ek := by rw [IntKind.wrap_u8]; omega
      go_wp2_with fail
      refine Calls.same (B1.out _) ?_
      go_wp2_with fail
      refine Calls.same (R1.out _) ?_
      go_wp2_with fail
      refine Calls.same (B2.out _) ?_
      go_wp2_with fail
      refine Calls.same (R2.out _) ?_
      go_wp2_with fail
      have nT : ∀ n, w.heap.size ≠ (⟨w.heap.size + 1 + 1 + 1, n, none⟩ : Addr).block := fun n => by show w.heap.size ≠ w.heap.size + 1 + 1 + 1; omega
      have nT1 : ∀ n, w.heap.size + 1 ≠ (⟨w.heap.size + 1 + 1 + 1, n, none⟩ : Addr).block := fun n => by show w.heap.size + 1 ≠ w.heap.size + 1 + 1 + 1; omega
      have nT2 : ∀ n, w.heap.size + 1 + 1 ≠ (⟨w.heap.size + 1 + 1 + 1, n, none⟩ : Addr).block := fun n => by show w.heap.size + 1 + 1 ≠ w.heap.size + 1 + 1 + 1; omega
      have F4 := Lib.hid (((G4.out.ext z1).far (nT k) (.int .u8 dk)).far (nT (15 + k)) (.int .u8 ek))
      have F5 := Lib.hid (((G5.out.ext z1).far (nT1 k) (.int .u8 dk)).far (nT1 (15 + k)) (.int .u8 ek))
      have F8 := Lib.hid (((G8.out.ext z1).far (nT2 k) (.int .u8 dk)).far (nT2 (15 + k)) (.int .u8 ek))
      have f9 := ((G9.out.ext z1).set_ k (.int .u8 dk)).set_ (15 + k) (.int .u8 ek)
      have FE := Lib.hid (((GE.out.ext z1).setCell (p := ⟨w.heap.size + 1 + 1 + 1, k, none⟩) (by show w.heap.size ≤ w.heap.size + 1 + 1 + 1; omega) (.int .u8 dk)).setCell (p := ⟨w.heap.size + 1 + 1 + 1, 15 + k, none⟩) (by show w.heap.size ≤ w.heap.size + 1 + 1 + 1; omega) (.int .u8 ek))
      have htp := tlk_put (dF p x) (dF q y) k hk15
      rw [HD.out, HEK.out] at htp
      rw [htp] at f9
      have F9 := Lib.hid f9
      clear f9 htp t1 t2 tf to c1 c2 o1 o2 nT nT1 nT2
      generalize ((ext wr z1).setCell ⟨w.heap.size + 1 + 1 + 1, k, none⟩ (.int .u8 dk)).setCell ⟨w.heap.size + 1 + 1 + 1, 15 + k, none⟩ (.int .u8 ek) = V at *
      have d1 : V.cell? ⟨w.heap.size, 15 + k, none⟩ = some (.int .u8 (p.s k)) := (F4.out.cell (15 + k)).trans (p.at_s k hk15)
      have d2 : V.cell? ⟨w.heap.size + 1, 15 + k, none⟩ = some (.int .u8 (q.s k)) := (F5.out.cell (15 + k)).trans (q.at_s k hk15)
      have o1 := Old.mk F4.out.lt
      have o2 := Old.mk F5.out.lt
      have hs1 := hps k hk15
      have hs2 := hqs k hk15
      have m1 := mul_le ba heb
      have m2 := mul_le hdb bb
      have m3 := mul_le hdb heb
      have HS1 := Lib.hid (show cF p q x y k = xk - 2 * (ak * ek + p.s k) by unfold cF; rw [HBX.out, HPA.out]; show xk - 2 * (ak * dF q y k + p.s k) = _; rw [HEK.out])
      have HS2 := Lib.hid (show sF p q x y k = yk - 2 * (dk * bk + q.s k + dk * ek) by unfold sF; show bitI y k - 2 * (dF p x k * q.m k + q.s k + dF p x k * dF q y k) = _; rw [HBY.out, HQB.out, HD.out, HEK.out])
      generalize hsp : p.s k = s1 at *
      generalize hsq : q.s k = s2 at *
      clear hsp hsq
      obtain ⟨e1, he1⟩ : ∃ e1, ak * ek = e1 := ⟨_, rfl⟩
      obtain ⟨e2, he2⟩ : ∃ e2, dk * bk = e2 := ⟨_, rfl⟩
      obtain ⟨e3, he3⟩ : ∃ e3, dk * ek = e3 := ⟨_, rfl⟩
      rw [he1] at m1 HS1
      rw [he2] at m2 HS2
      rw [he3] at m3 HS2
      have u1 : IntKind.i64.wrap s1 = s1 := IntWalk.i64_in _ (by omega)
      have u2 : IntKind.i64.wrap s2 = s2 := IntWalk.i64_in _ (by omega)
      have hcb2 : -60000 ≤ cv ∧ cv ≤ 60000 := by omega
      have hsb2 : -60000 ≤ sv ∧ sv ≤ 60000 := by omega
      have Q1 := Lib.hid (show sumF (cF p q x y) (k + 1) = cv + (xk - 2 * (e1 + s1)) by rw [HCV.out, ← HS1.out]; rfl)
      have Q2 := Lib.hid (show sumF (sF p q x y) (k + 1) = sv + (yk - 2 * (e2 + s2 + e3)) by rw [HSV.out, ← HS2.out]; rfl)
      refine wp_region_ext (by kernel_rfl) (by kernel_rfl) ?_
      repeat (go_big_quiet_step (first | (go_at_call 67; exact Calls.quiet_same (B1.out _))))
      refine wpQuiet_nil ?_
      rintro _ ⟨z3, rfl⟩
      go_wp2_with fail
      refine wp_region_ext (by kernel_rfl) (by kernel_rfl) ?_
      repeat (go_big_quiet_step (first | (go_at_call 67; exact Calls.quiet_same (B2.out _))))
      refine wpQuiet_nil ?_
      rintro _ ⟨z4, rfl⟩
      go_wp2_with fail
      refine ⟨⟨k + 1, cv + (xk - 2 * (e1 + s1)), sv + (yk - 2 * (e2 + s2 + e3)), by omega, by go_num, by go_num, by go_num, Q1.out.symm, Q2.out.symm, by omega, by omega, (F4.out.ext z3).ext z4, (F5.out.ext z3).ext z4, (F8.out.ext z3).ext z4, (F9.out.ext z3).ext z4, (FE.out.ext z3).ext z4⟩, by simp [intOf]; omega⟩
    · obtain rfl : k = 15 := by omega
      have c1 : wr.cell? ⟨w.heap.size, 30, none⟩ = some (.int .u8 p.sh) := (h4.cell 30).trans p.at_sh
      have c2 : wr.cell? ⟨w.heap.size + 1, 30, none⟩ = some (.int .u8 q.sh) := (h5.cell 30).trans q.at_sh
      have t1 : wr.cell? ⟨w.heap.size + 1 + 1 + 1, 30, none⟩ = some (.int .u8 0) := (h9.cell 30).trans (Tlk.at_x _ 0)
      have t2 : wr.cell? ⟨w.heap.size + 1 + 1 + 1, 31, none⟩ = some (.int .u8 0) := (h9.cell 31).trans (Tlk.at_x _ 1)
      have tf := h9.frozen
      clear h4 h5 h8 h9 hE
      have R1 := rest_any (cv + p.sh) (by omega)
      have R2 := rest_any (sv + q.sh) (by omega)
      obtain ⟨cc, hcc⟩ : ∃ cc : Nat, (cv + p.sh) % 31 = (cc : Int) := ⟨((cv + p.sh) % 31).toNat, by omega⟩
      obtain ⟨ss, hss⟩ : ∃ ss : Nat, (sv + q.sh) % 31 = (ss : Int) := ⟨((sv + q.sh) % 31).toNat, by omega⟩
      have hccb : cc < 31 := by omega
      have hssb : ss < 31 := by omega
      rw [hcc] at R1
      rw [hss] at R2
      have D1 := Lib.hid R1
      have D2 := Lib.hid R2
      have HCC := Lib.hid hcc
      have HSS := Lib.hid hss
      have wa : IntKind.i64.wrap p.sh = p.sh := IntWalk.i64_in _ (by omega)
      have wb : IntKind.i64.wrap q.sh = q.sh := IntWalk.i64_in _ (by omega)
      have wd : IntKind.u8.wrap (cc : Int) = cc := by rw [IntKind.wrap_u8]; omega
      have we : IntKind.u8.wrap (ss : Int) = ss := by rw [IntKind.wrap_u8]; omega
      have hcb2 : -60000 ≤ cv ∧ cv ≤ 60000 := by omega
      have hsb2 : -60000 ≤ sv ∧ sv ≤ 60000 := by omega
      have hccb2 : (cc : Int) < 31 := by omega
      have hssb2 : (ss : Int) < 31 := by omega
      clear R1 R2 hcc hss hcb hsb
      go_wp2_with fail
      refine Calls.same (D1.out _) ?_
      go_wp2_with fail
      refine Calls.same (D2.out _) ?_
      go_wp2_with fail
      have nT : ∀ n, w.heap.size ≠ (⟨w.heap.size + 1 + 1 + 1, n, none⟩ : Addr).block := fun n => by show w.heap.size ≠ w.heap.size + 1 + 1 + 1; omega
      have nT1 : ∀ n, w.heap.size + 1 ≠ (⟨w.heap.size + 1 + 1 + 1, n, none⟩ : Addr).block := fun n => by show w.heap.size + 1 ≠ w.heap.size + 1 + 1 + 1; omega
      have nT2 : ∀ n, w.heap.size + 1 + 1 ≠ (⟨w.heap.size + 1 + 1 + 1, n, none⟩ : Addr).block := fun n => by show w.heap.size + 1 + 1 ≠ w.heap.size + 1 + 1 + 1; omega
      have F4 := Lib.hid ((G4.out.far (nT 30) (.int .u8 cc)).far (nT 31) (.int .u8 ss))
      have F5 := Lib.hid ((G5.out.far (nT1 30) (.int .u8 cc)).far (nT1 31) (.int .u8 ss))
      have F8 := Lib.hid ((G8.out.far (nT2 30) (.int .u8 cc)).far (nT2 31) (.int .u8 ss))
      have f9 := (G9.out.set_ 30 (.int .u8 cc)).set_ 31 (.int .u8 ss)
      rw [tlk_cs] at f9
      have F9 := Lib.hid f9
      have FE := Lib.hid ((GE.out.setCell (p := ⟨w.heap.size + 1 + 1 + 1, 30, none⟩) (by show w.heap.size ≤ w.heap.size + 1 + 1 + 1; omega) (.int .u8 cc)).setCell (p := ⟨w.heap.size + 1 + 1 + 1, 31, none⟩) (by show w.heap.size ≤ w.heap.size + 1 + 1 + 1; omega) (.int .u8 ss))
      clear f9 t1 t2 tf c1 c2 nT nT1 nT2
      generalize (wr.setCell ⟨w.heap.size + 1 + 1 + 1, 30, none⟩ (.int .u8 cc)).setCell ⟨w.heap.size + 1 + 1 + 1, 31, none⟩ (.int .u8 ss) = V7 at *
      have hm1 : min ss 32 = ss := by omega
      have hm2 : min ss 64 = ss := by omega
      generalize htc : p.t cc = tc at *
      generalize hqc : q.t cc = qc at *
      refine wp_region_rel1 (R := RT (w.heap.size + 1 + 1 + 1) 29 (Tlk.cells ⟨upto 15 (dF p x), upto 15 (dF q y), cc, ss, tb tc ss, false, false⟩)) (Vof [isV (.pointer (some ⟨w.heap.size + 1 + 1 + 1, 30, none⟩)), isV (.int .u8 cc), isV (.pointer (some ⟨w.heap.size, 31, none⟩)), isV (.pointer (some ⟨w.heap.size, 31 + cc, none⟩)), isV (.int .u32 tc), isV (.pointer (some ⟨w.heap.size + 1 + 1 + 1, 31, none⟩)), isV (.int .u8 ss), isV (.int .u32 (tc / 2 ^ ss)), isV (.int .u32 (bits .and .u32 (tc / 2 ^ ss) 1)), isV (.bool (tb tc ss)), isV (.pointer (some ⟨w.heap.size + 1 + 1 + 1, 32, none⟩)), isS (w.heap.size + 1 + 1 + 1) 29 (Tlk.cells ⟨upto 15 (dF p x), upto 15 (dF q y), cc, ss, tb tc ss, false, false⟩) 32 1]) (by kernel_rfl) (by kernel_rfl) RT.refl RT.trans (Vof_monoR (by simp [isV_monoR, isS_mono])) ?op ?fin
      case op =>
        intro i o ho a V2 _ _ hfrm hE0 hdep
        have hE : RT (w.heap.size + 1 + 1 + 1) 29 (Tlk.cells ⟨upto 15 (dF p x), upto 15 (dF q y), cc, ss, tb tc ss, false, false⟩) V7 V2 := RT.trans _ _ _ (RT.of_ext ((Ext.refl V7).drew)) hE0
        match i, ho with
        | 0, ho =>
          injection ho with ho
          subst ho
          have e1 : a.tmps[9]?.getD undef = .pointer (some ⟨w.heap.size + 1 + 1 + 1, 0, none⟩) := slot_of (hfrm 9 (frm_of 9 (by kernel_rfl)))
          exact owes_val rfl (by simp [execOp, go_sem, e1]) rfl
        | 1, ho =>
          injection ho with ho
          subst ho
          have e1 : a.tmps[105]?.getD undef = .pointer (some ⟨w.heap.size + 1 + 1 + 1, 30, none⟩) := slot_of (hdep ⟨0, .data⟩ (by simp) (by kernel_rfl))
          obtain ⟨cur0, kk1, kk2, kk3⟩ := hE.part _ F9.out (by rw [Tlk.size, Tlk.size])
          have c1 : V2.cell? ⟨w.heap.size + 1 + 1 + 1, 30, none⟩ = some (.int .u8 cc) := by
            rw [kk1.cell]
            rcases kk3 30 with h | h
            · rw [h]; exact Tlk.at_x _ 0
            · rw [h]; exact Tlk.at_x _ 0
          exact owes_val rfl (by simp [execOp, go_sem, e1, c1]) rfl
        | 2, ho =>
          injection ho with ho
          subst ho
          have e1 : a.tmps[4]?.getD undef = .pointer (some ⟨w.heap.size, 0, none⟩) := slot_of (hfrm 4 (frm_of 4 (by kernel_rfl)))
          exact owes_val rfl (by simp [execOp, go_sem, e1]) rfl
        | 3, ho =>
          injection ho with ho
          subst ho
          have e1 : a.tmps[107]?.getD undef = .pointer (some ⟨w.heap.size, 31, none⟩) := slot_of (hdep ⟨2, .data⟩ (by simp) (by kernel_rfl))
          have e2 : a.tmps[106]?.getD undef = .int .u8 cc := slot_of (hdep ⟨1, .data⟩ (by simp) (by kernel_rfl))
          exact owes_val rfl (by simp [execOp, go_sem, e1, e2, hccb2]) rfl
        | 4, ho =>
          injection ho with ho
          subst ho
          have e1 : a.tmps[108]?.getD undef = .pointer (some ⟨w.heap.size, 31 + cc, none⟩) := slot_of (hdep ⟨3, .data⟩ (by simp) (by kernel_rfl))
          have c1 : V2.cell? ⟨w.heap.size, 31 + cc, none⟩ = some (.int .u32 tc) := by rw [← htc]; exact ((hE.blk F4.out (by omega)).cell (31 + cc)).trans (p.at_t cc hccb)
          exact owes_val rfl (by simp [execOp, go_sem, e1, c1]) rfl
        | 5, ho =>
          injection ho with ho
          subst ho
          have e1 : a.tmps[9]?.getD undef = .pointer (some ⟨w.heap.size + 1 + 1 + 1, 0, none⟩) := slot_of (hfrm 9 (frm_of 9 (by kernel_rfl)))
          exact owes_val rfl (by simp [execOp, go_sem, e1]) rfl
        | 6, ho =>
          injection ho with ho
          subst ho
          have e1 : a.tmps[110]?.getD undef = .pointer (some ⟨w.heap.size + 1 + 1 + 1, 31, none⟩) := slot_of (hdep ⟨5, .data⟩ (by simp) (by kernel_rfl))
          obtain ⟨cur0, kk1, kk2, kk3⟩ := hE.part _ F9.out (by rw [Tlk.size, Tlk.size])
          have c1 : V2.cell? ⟨w.heap.size + 1 + 1 + 1, 31, none⟩ = some (.int .u8 ss) := by
            rw [kk1.cell]
            rcases kk3 31 with h | h
            · rw [h]; exact Tlk.at_x _ 1
            · rw [h]; exact Tlk.at_x _ 1
          exact owes_val rfl (by simp [execOp, go_sem, e1, c1]) rfl
        | 7, ho =>
          injection ho with ho
          subst ho
          have e1 : a.tmps[109]?.getD undef = .int .u32 tc := slot_of (hdep ⟨4, .data⟩ (by simp) (by kernel_rfl))
          have e2 : a.tmps[111]?.getD undef = .int .u8 ss := slot_of (hdep ⟨6, .data⟩ (by simp) (by kernel_rfl))
          exact owes_val rfl (by simp [execOp, go_sem, e1, e2]) rfl
        | 8, ho =>
          injection ho with ho
          subst ho
          have e1 : a.tmps[112]?.getD undef = .int .u32 (tc / 2 ^ ss) := slot_of (hdep ⟨7, .data⟩ (by simp) (by kernel_rfl))
          exact owes_val rfl (by simp [execOp, go_sem, e1]) rfl
        | 9, ho =>
          injection ho with ho
          subst ho
          have e1 : a.tmps[113]?.getD undef = .int .u32 (bits .and .u32 (tc / 2 ^ ss) 1) := slot_of (hdep ⟨8, .data⟩ (by simp) (by kernel_rfl))
          exact owes_val rfl (by simp [execOp, go_sem, e1, tb]) rfl
        | 10, ho =>
          injection ho with ho
          subst ho
          have e1 : a.tmps[9]?.getD undef = .pointer (some ⟨w.heap.size + 1 + 1 + 1, 0, none⟩) := slot_of (hfrm 9 (frm_of 9 (by kernel_rfl)))
          exact owes_val rfl (by simp [execOp, go_sem, e1]) rfl
        | 11, ho =>
          injection ho with ho
          subst ho
          have e1 : a.tmps[115]?.getD undef = .pointer (some ⟨w.heap.size + 1 + 1 + 1, 32, none⟩) := slot_of (hdep ⟨10, .data⟩ (by simp) (by kernel_rfl))
          have e2 : a.tmps[114]?.getD undef = .bool (tb tc ss) := slot_of (hdep ⟨9, .data⟩ (by simp) (by kernel_rfl))
          obtain ⟨cur0, kk1, kk2, _⟩ := hE.part _ F9.out (by rw [Tlk.size, Tlk.size])
          refine owes_store1 rfl 32 (.bool (tb tc ss)) (fun cur hB hs => ?_) ⟨cur0, kk1, kk2⟩ (Tlk.at_x _ 2) (fun _ h => h)
          have hlt : 32 < cur.size := by rw [hs, Tlk.size]; omega
          have c1 : V2.cell? ⟨w.heap.size + 1 + 1 + 1, 32, none⟩ = some cur[32] := (hB.cell 32).trans (Array.getElem?_eq_getElem hlt)
          have c2 := hB.frozen 32
          simp [execOp, go_sem, e1, e2, c1, c2]
        | k + 12, ho => exact absurd (List.getElem?_eq_some_iff.1 ho).1 (by simp)
      case fin =>
        intro vsV8 V8 hE0 hvs
        have hE : RT (w.heap.size + 1 + 1 + 1) 29 (Tlk.cells ⟨upto 15 (dF p x), upto 15 (dF q y), cc, ss, tb tc ss, false, false⟩) V7 V8 := RT.trans _ _ _ (RT.of_ext ((Ext.refl V7).drew)) hE0
        have s1 := hvs 11 (by simp)
        have K9 := Lib.hid (full_gen hE F9.out (by rw [Tlk.size, Tlk.size]) (fun j => by
          by_cases h1 : j = 32
          · exact .inr ⟨32, 1, undef, s1, by omega, by omega⟩
          · exact .inl (tlk_l j h1)))
        have K4 := Lib.hid (hE.blk F4.out (by omega))
        have K5 := Lib.hid (hE.blk F5.out (by omega))
        have K8 := Lib.hid (hE.blk F8.out (by omega))
        have KE := Lib.hid (hE.below FE.out (by omega))
        clear hE hE0 hvs s1
        simp [putAll, Act.put]
        go_wp2_with fail
        refine wp_region_rel1 (R := RT (w.heap.size + 1 + 1 + 1) 29 (Tlk.cells ⟨upto 15 (dF p x), upto 15 (dF q y), cc, ss, tb tc ss, tb qc ss, false⟩)) (Vof [isV (.pointer (some ⟨w.heap.size + 1 + 1 + 1, 30, none⟩)), isV (.int .u8 cc), isV (.pointer (some ⟨w.heap.size + 1, 31, none⟩)), isV (.pointer (some ⟨w.heap.size + 1, 31 + cc, none⟩)), isV (.int .u32 qc), isV (.pointer (some ⟨w.heap.size + 1 + 1 + 1, 31, none⟩)), isV (.int .u8 ss), isV (.int .u32 (qc / 2 ^ ss)), isV (.int .u32 (bits .and .u32 (qc / 2 ^ ss) 1)), isV (.bool (tb qc ss)), isV (.pointer (some ⟨w.heap.size + 1 + 1 + 1, 33, none⟩)), isS (w.heap.size + 1 + 1 + 1) 29 (Tlk.cells ⟨upto 15 (dF p x), upto 15 (dF q y), cc, ss, tb tc ss, tb qc ss, false⟩) 33 1]) (by kernel_rfl) (by kernel_rfl) RT.refl RT.trans (Vof_monoR (by simp [isV_monoR, isS_mono])) ?op ?fin
        case op =>
          intro i o ho a V2 _ _ hfrm hE0 hdep
          have hE : RT (w.heap.size + 1 + 1 + 1) 29 (Tlk.cells ⟨upto 15 (dF p x), upto 15 (dF q y), cc, ss, tb tc ss, tb qc ss, false⟩) V8 V2 := RT.trans _ _ _ (RT.of_ext ((Ext.refl V8).drew)) hE0
          match i, ho with
          | 0, ho =>
            injection ho with ho
            subst ho
            have e1 : a.tmps[9]?.getD undef = .pointer (some ⟨w.heap.size + 1 + 1 + 1, 0, none⟩) := slot_of (hfrm 9 (frm_of 9 (by kernel_rfl)))
            exact owes_val rfl (by simp [execOp, go_sem, e1]) rfl
          | 1, ho =>
            injection ho with ho
            subst ho
            have e1 : a.tmps[116]?.getD undef = .pointer (some ⟨w.heap.size + 1 + 1 + 1, 30, none⟩) := slot_of (hdep ⟨0, .data⟩ (by simp) (by kernel_rfl))
            obtain ⟨cur0, kk1, kk2, kk3⟩ := hE.part _ K9.out (by rw [Tlk.size, Tlk.size])
            have c1 : V2.cell? ⟨w.heap.size + 1 + 1 + 1, 30, none⟩ = some (.int .u8 cc) := by
              rw [kk1.cell]
              rcases kk3 30 with h | h
              · rw [h]; exact Tlk.at_x _ 0
              · rw [h]; exact Tlk.at_x _ 0
            exact owes_val rfl (by simp [execOp, go_sem, e1, c1]) rfl
          | 2, ho =>
            injection ho with ho
            subst ho
            have e1 : a.tmps[5]?.getD undef = .pointer (some ⟨w.heap.size + 1, 0, none⟩) := slot_of (hfrm 5 (frm_of 5 (by kernel_rfl)))
            exact owes_val rfl (by simp [execOp, go_sem, e1]) rfl
          | 3, ho =>
            injection ho with ho
            subst ho
            have e1 : a.tmps[118]?.getD undef = .pointer (some ⟨w.heap.size + 1, 31, none⟩) := slot_of (hdep ⟨2, .data⟩ (by simp) (by kernel_rfl))
            have e2 : a.tmps[117]?.getD undef = .int .u8 cc := slot_of (hdep ⟨1, .data⟩ (by simp) (by kernel_rfl))
            exact owes_val rfl (by simp [execOp, go_sem, e1, e2, hccb2]) rfl
          | 4, ho =>
            injection ho with ho
            subst ho
            have e1 : a.tmps[119]?.getD undef = .pointer (some ⟨w.heap.size + 1, 31 + cc, none⟩) := slot_of (hdep ⟨3, .data⟩ (by simp) (by kernel_rfl))
            have c1 : V2.cell? ⟨w.heap.size + 1, 31 + cc, none⟩ = some (.int .u32 qc) := by rw [← hqc]; exact ((hE.blk K5.out (by omega)).cell (31 + cc)).trans (q.at_t cc hccb)
            exact owes_val rfl (by simp [execOp, go_sem, e1, c1]) rfl
          | 5, ho =>
            injection ho with ho
            subst ho
            have e1 : a.tmps[9]?.getD undef = .pointer (some ⟨w.heap.size + 1 + 1 + 1, 0, none⟩) := slot_of (hfrm 9 (frm_of 9 (by kernel_rfl)))
            exact owes_val rfl (by simp [execOp, go_sem, e1]) rfl
          | 6, ho =>
            injection ho with ho
            subst ho
            have e1 : a.tmps[121]?.getD undef = .pointer (some ⟨w.heap.size + 1 + 1 + 1, 31, none⟩) := slot_of (hdep ⟨5, .data⟩ (by simp) (by kernel_rfl))
            obtain ⟨cur0, kk1, kk2, kk3⟩ := hE.part _ K9.out (by rw [Tlk.size, Tlk.size])
            have c1 : V2.cell? ⟨w.heap.size + 1 + 1 + 1, 31, none⟩ = some (.int .u8 ss) := by
              rw [kk1.cell]
              rcases kk3 31 with h | h
              · rw [h]; exact Tlk.at_x _ 1
              · rw [h]; exact Tlk.at_x _ 1
            exact owes_val rfl (by simp [execOp, go_sem, e1, c1]) rfl
          | 7, ho =>
            injection ho with ho
            subst ho
            have e1 : a.tmps[120]?.getD undef = .int .u32 qc := slot_of (hdep ⟨4, .data⟩ (by simp) (by kernel_rfl))
            have e2 : a.tmps[122]?.getD undef = .int .u8 ss := slot_of (hdep ⟨6, .data⟩ (by simp) (by kernel_rfl))
            exact owes_val rfl (by simp [execOp, go_sem, e1, e2]) rfl
          | 8, ho =>
            injection ho with ho
            subst ho
            have e1 : a.tmps[123]?.getD undef = .int .u32 (qc / 2 ^ ss) := slot_of (hdep ⟨7, .data⟩ (by simp) (by kernel_rfl))
            exact owes_val rfl (by simp [execOp, go_sem, e1]) rfl
          | 9, ho =>
            injection ho with ho
            subst ho
            have e1 : a.tmps[124]?.getD undef = .int .u32 (bits .and .u32 (qc / 2 ^ ss) 1) := slot_of (hdep ⟨8, .data⟩ (by simp) (by kernel_rfl))
            exact owes_val rfl (by simp [execOp, go_sem, e1, tb]) rfl
          | 10, ho =>
            injection ho with ho
            subst ho
            have e1 : a.tmps[9]?.getD undef = .pointer (some ⟨w.heap.size + 1 + 1 + 1, 0, none⟩) := slot_of (hfrm 9 (frm_of 9 (by kernel_rfl)))
            exact owes_val rfl (by simp [execOp, go_sem, e1]) rfl
          | 11, ho =>
            injection ho with ho
            subst ho
            have e1 : a.tmps[126]?.getD undef = .pointer (some ⟨w.heap.size + 1 + 1 + 1, 33, none⟩) := slot_of (hdep ⟨10, .data⟩ (by simp) (by kernel_rfl))
            have e2 : a.tmps[125]?.getD undef = .bool (tb qc ss) := slot_of (hdep ⟨9, .data⟩ (by simp) (by kernel_rfl))
            obtain ⟨cur0, kk1, kk2, _⟩ := hE.part _ K9.out (by rw [Tlk.size, Tlk.size])
            refine owes_store1 rfl 33 (.bool (tb qc ss)) (fun cur hB hs => ?_) ⟨cur0, kk1, kk2⟩ (Tlk.at_x _ 3) (fun _ h => h)
            have hlt : 33 < cur.size := by rw [hs, Tlk.size]; omega
            have c1 : V2.cell? ⟨w.heap.size + 1 + 1 + 1, 33, none⟩ = some cur[33] := (hB.cell 33).trans (Array.getElem?_eq_getElem hlt)
            have c2 := hB.frozen 33
            simp [execOp, go_sem, e1, e2, c1, c2]
          | k + 12, ho => exact absurd (List.getElem?_eq_some_iff.1 ho).1 (by simp)
        case fin =>
          intro vsV9 V9 hE0 hvs
          have hE : RT (w.heap.size + 1 + 1 + 1) 29 (Tlk.cells ⟨upto 15 (dF p x), upto 15 (dF q y), cc, ss, tb tc ss, tb qc ss, false⟩) V8 V9 := RT.trans _ _ _ (RT.of_ext ((Ext.refl V8).drew)) hE0
          have s1 := hvs 11 (by simp)
          have S9 := Lib.hid (full_gen hE K9.out (by rw [Tlk.size, Tlk.size]) (fun j => by
            by_cases h1 : j = 33
            · exact .inr ⟨33, 1, undef, s1, by omega, by omega⟩
            · exact .inl (tlk_r j h1)))
          have S4 := Lib.hid (hE.blk K4.out (by omega))
          have S5 := Lib.hid (hE.blk K5.out (by omega))
          have S8 := Lib.hid (hE.blk K8.out (by omega))
          have SE := Lib.hid (hE.below KE.out (by omega))
          clear hE hE0 hvs s1
          have HTC := Lib.hid htc
          have HQC := Lib.hid hqc
          clear htc hqc
          obtain ⟨bl, hbl⟩ : ∃ bl, bl = tb tc ss := ⟨_, rfl⟩
          obtain ⟨br, hbr⟩ : ∃ br, br = tb qc ss := ⟨_, rfl⟩
          have s9 := S9.out
          rw [← hbl, ← hbr] at s9
          have HBL := Lib.hid hbl
          have HBR := Lib.hid hbr
          clear hbl hbr
          have k2 : V9.cell? ⟨w.heap.size + 1 + 1 + 1, 32, none⟩ = some (.bool bl) := (s9.cell 32).trans (Tlk.at_x _ 2)
          have k3 : V9.cell? ⟨w.heap.size + 1 + 1 + 1, 33, none⟩ = some (.bool br) := (s9.cell 33).trans (Tlk.at_x _ 3)
          have k4 : V9.cell? ⟨w.heap.size + 1 + 1 + 1, 34, none⟩ = some (.bool false) := (s9.cell 34).trans (Tlk.at_x _ 4)
          have kf := s9.frozen 34
          have X9 : Blk (V9.setCell ⟨w.heap.size + 1 + 1 + 1, 34, none⟩ (.bool (bl != br))) (w.heap.size + 1 + 1 + 1) 29 (Tlk.cells ⟨upto 15 (dF p x), upto 15 (dF q y), cc, ss, bl, br, bl != br⟩) := by
            rw [← tlk_set (m := false)]; exact s9.set_ 34 _
          have HX9 := Lib.hid X9
          have HX8 := Lib.hid (S8.out.far (p := ⟨w.heap.size + 1 + 1 + 1, 34, none⟩) (by show w.heap.size + 1 + 1 ≠ w.heap.size + 1 + 1 + 1; omega) (.bool (bl != br)))
          have HXE := Lib.hid (SE.out.setCell (p := ⟨w.heap.size + 1 + 1 + 1, 34, none⟩) (by show w.heap.size ≤ w.heap.size + 1 + 1 + 1; omega) (.bool (bl != br)))
          clear s9 X9
          simp [putAll, Act.put]
          go_wp2_with (first | (refine wpList_load_row rfl 29 (.tmp 9) rfl (w.heap.size + 1 + 1 + 1) rfl 29 (Tlk.cells ⟨upto 15 (dF p x), upto 15 (dF q y), cc, ss, bl, br, bl != br⟩) (0, 0) _ HX9.out Try.underlying29 rfl (info29t _) ?_) | (refine wpList_store_row rfl 29 (.tmp 8) (.tmp 133) rfl (w.heap.size + 1 + 1) rfl 29 Z35 (Tlk.cells ⟨upto 15 (dF p x), upto 15 (dF q y), cc, ss, bl, br, bl != br⟩) rfl HX8.out (info29t _) (z35t _) tlk_one ?_))
          refine bodyPost_ret (results_cell_row rfl _ _ (w.heap.size + 1 + 1) 29 (Tlk.cells ⟨upto 15 (dF p x), upto 15 (dF q y), cc, ss, bl, br, bl != br⟩) (0, 0) _ rfl (HX8.out.row _) Try.underlying29 rfl (info29t _)) rfl ⟨ret_of ?_, HXE.out.row (by omega) _⟩
          have e1 : sayC p q x y = (cc : Int) := by unfold sayC; rw [← HCC.out, HCV.out, Int.add_emod, Int.emod_emod, c_mod, ← Int.add_emod]
          have e2 : sayS p q x y = (ss : Int) := by unfold sayS; rw [← HSS.out, HSV.out, Int.add_emod, Int.emod_emod, s_mod, ← Int.add_emod]
          unfold talkOf
          rw [e1, e2, Int.toNat_natCast, Int.toNat_natCast, HTC.out, HQC.out, ← HBL.out, ← HBR.out]
          unfold Tlk.cells
          rw [A15_upto, A15_upto]
          rfl
end Go.Proofs.Ytfdcapblgdlkaaa
