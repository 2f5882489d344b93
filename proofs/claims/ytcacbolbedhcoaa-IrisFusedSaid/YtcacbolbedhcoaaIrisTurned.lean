/- Proved: for all rings r, margins and turns, the call of whorllaw03.IrisTurned returns true and leaves its arguments as they were. No conditions. -/
import Derived.Test.YtcacbolbedhcoaaAlive
import Derived.Test.YtcacbolbedhcoaaVals
import Derived.Test.YtcacbolbedhcoaaIrisCodes
namespace Go.Proofs.Ytcacbolbedhcoaa
open Go.Joins Go.ChangeShapes Go.WideShapes Go.RowKit Go.Deep Go.ChangeAt

/-! the bits of an extracted code -/
theorem fus_code (f : Nat → Int) (m : Int) (i : Nat) (hi : i < 64) : ∀ n, (fusK f m n).code.getLsbD i = (decide (i < n) && decide (m ≤ f i)) := by
  intro n
  induction n with
  | zero => simp [fusK]
  | succ n ih =>
    simp only [fusK]
    by_cases h : m ≤ f n
    · rw [if_pos h, BitVec.getLsbD_or, ih, one_get n i hi]
      by_cases hn : n = i
      · subst hn; simp [h]
      · have e : decide (i < n + 1) = decide (i < n) := by simp; omega
        simp [hn, e]
    · rw [if_neg h, ih]
      by_cases hn : i = n
      · subst hn; simp [h]
      · have e : decide (i < n + 1) = decide (i < n) := by simp; omega
        rw [e]
theorem fus_mask (f : Nat → Int) (m : Int) (i : Nat) (hi : i < 64) : ∀ n, (fusK f m n).mask.getLsbD i = (decide (i < n) && decide (m ≤ f i ∨ m ≤ -(f i))) := by
  intro n
  induction n with
  | zero => simp [fusK]
  | succ n ih =>
    simp only [fusK]
    by_cases h : m ≤ f n ∨ m ≤ -(f n)
    · rw [if_pos h, BitVec.getLsbD_or, ih, one_get n i hi]
      by_cases hn : n = i
      · subst hn; simp only [h]; simp
      · have e : decide (i < n + 1) = decide (i < n) := by simp; omega
        simp [hn, e]
    · rw [if_neg h, ih]
      by_cases hn : i = n
      · subst hn; simp only [h]; simp
      · have e : decide (i < n + 1) = decide (i < n) := by simp; omega
        rw [e]
theorem okI_fus (f : Nat → Int) (m : Int) : okI (fusK f m 64) = true := by
  rw [okI_and]
  apply BitVec.eq_of_getLsbD_eq
  intro i hi
  rw [BitVec.getLsbD_and, BitVec.getLsbD_not, fus_code f m i hi, fus_mask f m i hi]
  by_cases h : m ≤ f i <;> simp [h, hi]

/-! the turned ring -/
def trnR (r : Nat → Int) (t : Int) (j : Nat) : Int := r (posT j (-t))
def trnK (r : Nat → Int) (t : Int) (n j : Nat) : Int := if posT j (-t) < n then r (posT j (-t)) else 0
theorem trnK_zero (r : Nat → Int) (t : Int) : trnK r t 0 = fun _ => 0 := by funext j; simp [trnK]
theorem trnK_succ (r : Nat → Int) (t : Int) (n : Nat) : (fun j => if j = posT n t then r n else trnK r t n j) = trnK r t (n + 1) := by
  funext j
  unfold trnK
  by_cases h : j = posT n t
  · subst h; rw [if_pos rfl, posT_back, if_pos (Nat.lt_succ_self n)]
  · rw [if_neg h]
    have : posT j (-t) ≠ n := by
      intro e; apply h; rw [← e]
      have := posT_back j (-t)
      rw [Int.neg_neg] at this
      exact this.symm
    have e : (posT j (-t) < n + 1) ↔ (posT j (-t) < n) := by omega
    simp only [e]
theorem trnK_all (r : Nat → Int) (t : Int) : ringA (trnK r t 64) = ringA (trnR r t) := ring_congr fun i h => by
  unfold trnK trnR
  rw [if_pos (posT_lt _ _ h)]
theorem dif_trn (r : Nat → Int) (t : Int) (i : Nat) : dif (trnR r t) i = dif r (posT i (-t)) := by
  unfold dif trnR
  congr 2
  unfold posT
  have h1 : (16 * (i / 16) + (i % 16 + 1) % 16) / 16 = i / 16 := by omega
  have h2 : (16 * (i / 16) + (i % 16 + 1) % 16) % 16 = (i % 16 + 1) % 16 := by omega
  have h3 : (16 * (i / 16) + ((((i % 16 : Nat) : Int) + -t) % 16).toNat) / 16 = i / 16 := by omega
  have h4 : (16 * (i / 16) + ((((i % 16 : Nat) : Int) + -t) % 16).toNat) % 16 = ((((i % 16 : Nat) : Int) + -t) % 16).toNat := by omega
  rw [h1, h2, h3, h4]
  omega
theorem fus_trn (r : Nat → Int) (t m : Int) : fusK (dif (trnR r t)) m 64 = turnI' (fusK (dif r) m 64) t := by
  have hc : (fusK (dif (trnR r t)) m 64).code = (turnI' (fusK (dif r) m 64) t).code := by
    apply BitVec.eq_of_getLsbD_eq
    intro i hi
    simp only [turnI']
    rw [turn_get _ _ _ hi, fus_code _ _ i hi, fus_code _ _ _ (posT_lt _ _ hi), dif_trn]
    simp [hi, posT_lt _ _ hi]
  have hm : (fusK (dif (trnR r t)) m 64).mask = (turnI' (fusK (dif r) m 64) t).mask := by
    apply BitVec.eq_of_getLsbD_eq
    intro i hi
    simp only [turnI']
    rw [turn_get _ _ _ hi, fus_mask _ _ i hi, fus_mask _ _ _ (posT_lt _ _ hi), dif_trn]
    simp [hi, posT_lt _ _ hi]
  cases h : fusK (dif (trnR r t)) m 64
  rw [h] at hc hm
  cases h2 : turnI' (fusK (dif r) m 64) t
  rw [h2] at hc hm
  simp only at hc hm
  rw [hc, hm]
theorem trn_in (r : Nat → Int) (t : Int) (hr : ∀ n, 0 ≤ r n ∧ r n ≤ 255) (n : Nat) : 0 ≤ trnR r t n ∧ trnR r t n ≤ 255 := hr _
theorem ext_in {r : Nat → Int} {m : Int} (h : 1 ≤ m ∧ m ≤ 255) : extV r m = .tuple #[(fusK (dif r) m 64).val, .int .i64 0] := by
  unfold extV
  have h1 : inB m 1 255 = true := by simp [inB, h]
  rw [if_pos h1]

set_option maxRecDepth 100000 in
set_option maxHeartbeats 4000000 in
theorem irisTurned_out (r : Nat → Int) (m t : Int) (w : World) (h : ¬ ((1 ≤ m ∧ m ≤ 255) ∧ -7 ≤ t ∧ t ≤ 7)) : Calls Try.prog 10 #[.agg (ringA r), .int .i64 m, .int .i64 t] w fun e w' => e = .returned (.bool true) ∧ Ext w w' := by
  by_cases h1 : m < 1
  · clear h
    go_enter Try.func10, Try.ntmps10
    go_wp2_with (go_at_call 38; refine Calls.ext (alive_any _) fun z => ?_)
    all_goals (go_ret; exact ⟨rfl, ((Ext.refl w).alloc _).ext z⟩)
  by_cases h2 : 255 < m
  · clear h
    have hb : decide (m < 1) = false := by simp; omega
    go_enter Try.func10, Try.ntmps10
    go_wp2_with (go_at_call 38; refine Calls.ext (alive_any _) fun z => ?_)
    all_goals (go_ret; exact ⟨rfl, ((Ext.refl w).alloc _).ext z⟩)
  by_cases h3 : t < -7
  · clear h
    have hb : decide (m < 1) = false := by simp; omega
    have hb2 : decide (255 < m) = false := by simp; omega
    go_enter Try.func10, Try.ntmps10
    go_wp2_with (go_at_call 38; refine Calls.ext (alive_any _) fun z => ?_)
    all_goals (go_ret; exact ⟨rfl, ((Ext.refl w).alloc _).ext z⟩)
  have h4 : 7 < t := by omega
  have hb : decide (m < 1) = false := by simp; omega
  have hb2 : decide (255 < m) = false := by simp; omega
  have hb3 : decide (t < -7) = false := by simp; omega
  clear h
  go_enter Try.func10, Try.ntmps10
  go_wp2_with (go_at_call 38; refine Calls.ext (alive_any _) fun z => ?_)
  all_goals (go_ret; exact ⟨rfl, ((Ext.refl w).alloc _).ext z⟩)

set_option maxRecDepth 100000 in
set_option maxHeartbeats 4000000 in
theorem irisTurned_walk (r : Nat → Int) (hr : ∀ n, 0 ≤ r n ∧ r n ≤ 255) (m t : Int) (w : World) : Calls Try.prog 10 #[.agg (ringA r), .int .i64 m, .int .i64 t] w fun e w' => e = .returned (.bool true) ∧ Ext w w' := by
  by_cases h : (1 ≤ m ∧ m ≤ 255) ∧ -7 ≤ t ∧ t ≤ 7
  rotate_left
  · exact irisTurned_out r m t w h
  obtain ⟨hm, ht⟩ := h
  have hv1 := ext_in (r := r) hm
  have hv2 := ext_in (r := trnR r t) hm
  rw [fus_trn] at hv2
  have hoa : okI (fusK (dif r) m 64) = true := okI_fus (dif r) m
  have hob := okI_turn (fusK (dif r) m 64) t hoa
  have hv3 := turn_in hoa ht
  have hv4 := turn_in (t := -t) hob (by omega)
  rw [turnI_back] at hv4
  have hpop : cpop (turnI' (fusK (dif r) m 64) t).mask = cpop (fusK (dif r) m 64).mask := cpop_turn _ _
  have C1 := Lib.hid (fun w => hv1 ▸ Extract_any r hr m w)
  have C2 := Lib.hid (fun w => hv2 ▸ Extract_any (trnR r t) (trn_in r t hr) m w)
  have C3 := Lib.hid (fun w => hv3 ▸ Turn_any (fusK (dif r) m 64) t w)
  have C4 := Lib.hid (fun w => hv4 ▸ Turn_any (turnI' (fusK (dif r) m 64) t) (-t) w)
  have C5 := Lib.hid (fun w => ones_any (fusK (dif r) m 64).mask w)
  have C6 := Lib.hid (fun w => hpop ▸ ones_any (turnI' (fusK (dif r) m 64) t).mask w)
  have C7 := Lib.hid (fun w => (show chkI (fusK (dif r) m 64) = 0 by unfold chkI; rw [if_pos hoa]) ▸ check_any (fusK (dif r) m 64) w)
  clear hv1 hv2 hv3 hv4 hpop hoa hob hr
  generalize turnI' (fusK (dif r) m 64) t = b at *
  generalize fusK (dif r) m 64 = a at *
  obtain ⟨m1, m2⟩ := hm
  obtain ⟨t1, t2⟩ := ht
  have hb : decide (m < 1) = false := by simp; omega
  have hb2 : decide (255 < m) = false := by simp; omega
  have hb3 : decide (t < -7) = false := by simp; omega
  have hb4 : decide (7 < t) = false := by simp; omega
  go_enter Try.func10, Try.ntmps10
  go_wp2_with (go_at_call 38; refine Calls.ext (alive_any _) fun z1 => ?_)
  rw [← ring_zero]
  have HA := Lib.hid ((((Blk.new w 24 (ringA r))).ext z1).alloc (.cells (ringA (fun _ => 0)) 24))
  have HE := Lib.hid ((((Ext.refl w).alloc (.cells (ringA r) 24)).ext z1).alloc (.cells (ringA (fun _ => 0)) 24))
  have HS := Lib.hid (Blk.new (ext (w.alloc (.cells (ringA r) 24)) z1) 24 (ringA (fun _ => 0)))
  have hlt : w.heap.size < (ext (w.alloc (.cells (ringA r) 24)) z1).heap.size := Nat.lt_of_lt_of_le (by simp) (ext_size _ _)
  generalize (ext (w.alloc (.cells (ringA r) 24)) z1).alloc (.cells (ringA (fun _ => 0)) 24) = W at *
  generalize (ext (w.alloc (.cells (ringA r) 24)) z1).heap.size = B at *
  go_loopw [35] (fun i wr => ∃ (j : Nat), j ≤ 4 ∧ i = .int .i64 j ∧ Ext w wr ∧ Blk wr w.heap.size 24 (ringA r) ∧ Blk wr B 24 (ringA (trnK r t (16 * j)))) (fun i _ => 4 - (intOf i).toNat)
  case atStart => exact ⟨0, Nat.zero_le _, rfl, HE.out, HA.out, by rw [Nat.mul_zero, trnK_zero]; exact HS.out⟩
  case round =>
    obtain ⟨i, hi, rfl, hE, hA, hB⟩ := hrel
    obtain ⟨wo, rfl⟩ : ∃ wo : World, wo = wr := ⟨_, rfl⟩
    have HAo := Lib.hid hA
    have HBo := Lib.hid hB
    have HEo := Lib.hid hE
    clear hE hA hB
    by_cases hlt4 : i < 4
    · have hi2 : (i : Int) < 4 := by omega
      have hi3 : decide ((i : Int) < 4) = true := by simpa using hi2
      go_wp2_with fail
      go_loopw [38] (fun q wr => ∃ (k : Nat), k ≤ 16 ∧ q = .int .i64 k ∧ Ext w wr ∧ Blk wr w.heap.size 24 (ringA r) ∧ Blk wr B 24 (ringA (trnK r t (16 * i + k)))) (fun q _ => 16 - (intOf q).toNat)
      case atStart => exact ⟨0, Nat.zero_le _, rfl, HEo.out, HAo.out, HBo.out⟩
      case round =>
        obtain ⟨k, hk, rfl, hE, hA, hB⟩ := hrel
        have HAk := Lib.hid hA
        have HBk := Lib.hid hB
        have HEk := Lib.hid hE
        clear hE
        by_cases hlk : k < 16
        · have hk2 : (k : Int) < 16 := by omega
          have ef := hB.frozen
          have hp : posT (16 * i + k) t = i * 16 + (((k : Int) + t) % 16).toNat := by unfold posT; omega
          have hpl := posT_lt (16 * i + k) t (by omega)
          have e1 : wr.cell? ⟨w.heap.size, i * 16 + k, none⟩ = some (.int .u8 (r (16 * i + k))) := by
            rw [Nat.mul_comm i 16]; exact (hA.cell _).trans (ring_get r _ (by omega))
          have e2 : wr.cell? ⟨B, i * 16 + (((k : Int) + t) % 16).toNat, none⟩ = some (.int .u8 (trnK r t (16 * i + k) (i * 16 + (((k : Int) + t) % 16).toNat))) := (hB.cell _).trans (ring_get _ _ (by omega))
          have HST := Lib.hid (HBk.out.set_ (i * 16 + (((k : Int) + t) % 16).toNat) (.int .u8 (r (16 * i + k))))
          rw [← hp, ring_set, trnK_succ, hp] at HST
          have hne : w.heap.size ≠ B := by omega
          have hne2 : B ≠ w.heap.size := by omega
          have HP := Lib.hid hp
          have hx1 : 0 ≤ (k : Int) + t + 16 := by omega
          clear hA hB hp
          generalize r (16 * i + k) = v at *
          go_wp2_with fail
          have y1 : IntKind.i64.wrap ((k : Int) + t) = (k : Int) + t := IntWalk.i64_in _ (by omega)
          have y2 : IntKind.i64.wrap ((k : Int) + t + 16) = (k : Int) + t + 16 := IntWalk.i64_in _ (by omega)
          have y3 : ((k : Int) + t + 16).tmod 16 = ((k : Int) + t) % 16 := by rw [Int.tmod_eq_emod_of_nonneg hx1]; omega
          have y4 : 0 ≤ ((k : Int) + t) % 16 := by omega
          have y5 : ((k : Int) + t) % 16 < 16 := by omega
          have y6 : IntKind.i64.wrap (((k : Int) + t) % 16) = ((k : Int) + t) % 16 := IntWalk.i64_in _ (by omega)
          go_region
          clear y1 y2 y3 y4 y5 y6
          go_wp2_with fail
          go_roundw
          case rel => exact ⟨k + 1, by omega, by go_num, (HEk.out.setCell (p := ⟨B, i * 16 + (((k : Int) + t) % 16).toNat, none⟩) (Nat.le_of_lt hlt) _).drew, (HAk.out.far (p := ⟨B, i * 16 + (((k : Int) + t) % 16).toNat, none⟩) hne _).drew, HST.out.drew⟩
          case measure => simp [intOf]; omega
        · obtain rfl : k = 16 := by omega
          clear hA hB
          go_wp2_with fail
          go_roundw
          case rel => exact ⟨i + 1, by omega, by go_num, HEk.out, HAk.out, by have e : 16 * (i + 1) = 16 * i + 16 := (by omega); rw [e]; exact HBk.out⟩
          case measure => simp [intOf]; omega
    · obtain rfl : i = 4 := by omega
      have HB4 : Hid (Blk wo B 24 (ringA (trnR r t))) := Lib.hid (by have := HBo.out; rw [show 16 * 4 = 64 from rfl, trnK_all] at this; exact this)
      go_wp2_with (first | (refine wpList_load_row rfl 24 (.tmp 3) rfl w.heap.size rfl 24 (ringA r) (0, 0) (.array 4 22) HAo.out Try.underlying24 rfl (by rw [ring_size]; kernel_rfl) ?_))
      refine Calls.ext (C1.out _) fun z2 => ?_
      have HX := Lib.hid ((HB4.out.ext z2).alloc (.cells #[.int .u64 (uw a.code), .int .u64 (uw a.mask)] 27))
      have HX1 := Lib.hid (Blk.new (ext wo z2) 27 #[.int .u64 (uw a.code), .int .u64 (uw a.mask)])
      have HXE := Lib.hid ((HEo.out.ext z2).alloc (.cells #[.int .u64 (uw a.code), .int .u64 (uw a.mask)] 27))
      go_wp2_with (refine wpList_load_row rfl 24 (.tmp 8) rfl B rfl 24 (ringA (trnR r t)) (0, 0) (.array 4 22) HX.out Try.underlying24 rfl (by rw [ring_size]; kernel_rfl) ?_)
      generalize (ext wo z2).alloc (.cells #[.int .u64 (uw a.code), .int .u64 (uw a.mask)] 27) = W2 at *
      generalize (ext wo z2).heap.size = B1 at *
      refine Calls.ext (C2.out _) fun z3 => ?_
      have HY1 := Lib.hid ((HX1.out.ext z3).alloc (.cells #[.int .u64 (uw b.code), .int .u64 (uw b.mask)] 27))
      have HY2 := Lib.hid (Blk.new (ext W2 z3) 27 #[.int .u64 (uw b.code), .int .u64 (uw b.mask)])
      have HYE := Lib.hid ((HXE.out.ext z3).alloc (.cells #[.int .u64 (uw b.code), .int .u64 (uw b.mask)] 27))
      clear HX HXE
      have hb1 := Old.mk HX1.out.lt
      have a0 : W2.cell? ⟨B1, 0, none⟩ = some (.int .u64 (uw a.code)) := HX1.out.cell 0
      have a1 : W2.cell? ⟨B1, 1, none⟩ = some (.int .u64 (uw a.mask)) := HX1.out.cell 1
      go_wp2_with fail
      clear a0 a1 hb1 HX1
      generalize (ext W2 z3).alloc (.cells #[.int .u64 (uw b.code), .int .u64 (uw b.mask)] 27) = W3 at *
      generalize (ext W2 z3).heap.size = B2 at *
      refine Calls.ext (C3.out _) fun z4 => ?_
      have HZ1 := Lib.hid ((HY1.out.ext z4).alloc (.cells #[.int .u64 (uw b.code), .int .u64 (uw b.mask)] 27))
      have HZ2 := Lib.hid ((HY2.out.ext z4).alloc (.cells #[.int .u64 (uw b.code), .int .u64 (uw b.mask)] 27))
      have HZ3 := Lib.hid (Blk.new (ext W3 z4) 27 #[.int .u64 (uw b.code), .int .u64 (uw b.mask)])
      have HZE := Lib.hid ((HYE.out.ext z4).alloc (.cells #[.int .u64 (uw b.code), .int .u64 (uw b.mask)] 27))
      clear HY1 HY2 HYE
      go_wp2_with fail
      generalize (ext W3 z4).alloc (.cells #[.int .u64 (uw b.code), .int .u64 (uw b.mask)] 27) = W4 at *
      generalize (ext W3 z4).heap.size = B3 at *
      refine Calls.ext (C4.out _) fun z5 => ?_
      go_wp2_with fail
      have HU1 := Lib.hid ((HZ1.out.ext z5).alloc (.cells #[.int .u64 (uw a.code), .int .u64 (uw a.mask)] 27))
      have HU2 := Lib.hid ((HZ2.out.ext z5).alloc (.cells #[.int .u64 (uw a.code), .int .u64 (uw a.mask)] 27))
      have HU3 := Lib.hid ((HZ3.out.ext z5).alloc (.cells #[.int .u64 (uw a.code), .int .u64 (uw a.mask)] 27))
      have HU4 := Lib.hid (Blk.new (ext W4 z5) 27 #[.int .u64 (uw a.code), .int .u64 (uw a.mask)])
      have HUE := Lib.hid ((HZE.out.ext z5).alloc (.cells #[.int .u64 (uw a.code), .int .u64 (uw a.mask)] 27))
      clear HZ1 HZ2 HZ3 HZE
      generalize (ext W4 z5).alloc (.cells #[.int .u64 (uw a.code), .int .u64 (uw a.mask)] 27) = W5 at *
      generalize (ext W4 z5).heap.size = B4 at *
      have c10 : W5.cell? ⟨B1, 0, none⟩ = some (.int .u64 (uw a.code)) := HU1.out.cell 0
      have c11 : W5.cell? ⟨B1, 1, none⟩ = some (.int .u64 (uw a.mask)) := HU1.out.cell 1
      have c20 : W5.cell? ⟨B2, 0, none⟩ = some (.int .u64 (uw b.code)) := HU2.out.cell 0
      have c21 : W5.cell? ⟨B2, 1, none⟩ = some (.int .u64 (uw b.mask)) := HU2.out.cell 1
      have c30 : W5.cell? ⟨B3, 0, none⟩ = some (.int .u64 (uw b.code)) := HU3.out.cell 0
      have c31 : W5.cell? ⟨B3, 1, none⟩ = some (.int .u64 (uw b.mask)) := HU3.out.cell 1
      have c40 : W5.cell? ⟨B4, 0, none⟩ = some (.int .u64 (uw a.code)) := HU4.out.cell 0
      have c41 : W5.cell? ⟨B4, 1, none⟩ = some (.int .u64 (uw a.mask)) := HU4.out.cell 1
      have o1 := Old.mk HU1.out.lt
      have o2 := Old.mk HU2.out.lt
      have o3 := Old.mk HU3.out.lt
      have o4 := Old.mk HU4.out.lt
      refine wp_region_ext (by kernel_rfl) (by kernel_rfl) ?_
      repeat (go_big_quiet_step (first | (go_at_call 41; first | (with_reducible exact Calls.quiet_same (C6.out _)) | (with_reducible exact Calls.quiet_same (C5.out _))) | (go_at_call 21; exact Calls.quiet_ext (C7.out _))))
      refine wpQuiet_nil ?_
      rintro _ ⟨z6, rfl⟩
      go_wp2_with fail
      go_ret
      exact ⟨rfl, HUE.out.ext z6⟩
set_option maxRecDepth 100000 in
theorem irisTurned_lifted (os : Os) (started : os.Started) (H : Type) (enc : TypeId × Value → H) :
    ReturnsInHanded {} Try.checked os 10 .any (Rows.irisTurnedSpec.pre6 enc Try.prog Try.f10 Rows.irisTurnedRow.domain false) (Rows.irisTurnedSpec.post enc Try.prog Try.f10 false true false false) := by
  refine returnsInHanded_of_change (C := Try.checked) own started (by kernel_rfl) Try.func10
    (ChangeSpec.witness6 (enc := enc) (C := Try.checked) false ⟨#[], #[.agg (Array.replicate 64 (.int .u8 0)), .int .i64 0, .int .i64 0], []⟩ 8 (by kernel_rfl) (by kernel_rfl) (by kernel_rfl) (by kernel_rfl)) ?_
  intro W base args ds gs before hval0 hW hcnd _
  have hval : ∀ (j : Nat) t v, Try.f10.params[j]? = some t → args[j]? = some v → Value.okWide Try.prog W .any base t v := hval0
  have hW' := hW
  obtain ⟨p, q, hA0, hV, rfl, hfz, hnd⟩ := hW
  have hA : DataW.TrodAll enc Try.prog W 0 (fun _ => true) true Try.f10.params.toList args.toList ds p := hA0
  rw [Try.params10] at hA hval
  obtain ⟨v0, vs0, d0, ds0, p0, q0, hargs, rfl, rfl, h0, r0⟩ := trodAll_cons hA
  obtain ⟨v1, vs1, d1, ds1, p1, q1, rfl, rfl, rfl, h1, r1⟩ := trodAll_cons r0
  obtain ⟨v2, vs2, d2, ds2, p2, q2, rfl, rfl, rfl, h2, r2⟩ := trodAll_cons r1
  obtain ⟨rfl, rfl, rfl⟩ := trodAll_nil r2
  obtain rfl : args = #[v0, v1, v2] := by cases args; simp_all
  obtain ⟨rfl, rfl⟩ := trodVars_none hV
  have k0 := h0
  have lt0 : ∀ x ∈ p0, x.block < W.heap.size := by obtain ⟨m, hm⟩ := k0; exact DataW.trod_lt m _ _ _ hm
  obtain ⟨ns0, hl0, hv0, wf0⟩ := open_flat (ks := List.replicate 64 .u8) (by kernel_rfl) (hval 0 24 v0 rfl rfl)
  have k1 := h1
  have lt1 : ∀ x ∈ p1, x.block < W.heap.size := by obtain ⟨m, hm⟩ := k1; exact DataW.trod_lt m _ _ _ hm
  obtain ⟨a1, rfl, _, _, w1⟩ := open_int Try.underlying3 (hval 1 3 v1 rfl rfl) h1
  have k2 := h2
  have lt2 : ∀ x ∈ p2, x.block < W.heap.size := by obtain ⟨m, hm⟩ := k2; exact DataW.trod_lt m _ _ _ hm
  obtain ⟨a2, rfl, _, _, w2⟩ := open_int Try.underlying3 (hval 2 3 v2 rfl rfl) h2
  clear hA0 hval0
  rw [ring_of hl0] at hv0
  subst hv0
  refine (irisTurned_walk (ringF ns0) (ring_in hl0 wf0) a1 a2 W).mono fun e W' ⟨he, bel⟩ => ?_
  subst he
  exact ⟨_, rfl, _, _, _, [], _, [], hW', trodAll_mk1 (shut_bool Try.underlying4 _), (trodAll_cons_mk (Below.trod laidOut (by kernel_rfl) (of_decide_eq_true (by kernel_rfl)) k0 bel lt0) (trodAll_cons_mk (Below.trod laidOut (by kernel_rfl) (of_decide_eq_true (by kernel_rfl)) k1 bel lt1) (trodAll_cons_mk (Below.trod laidOut (by kernel_rfl) (of_decide_eq_true (by kernel_rfl)) k2 bel lt2) trodAll_mk0))), rfl, Below.frame bel _, fun h => by cases h⟩

theorem irisTurned_holds : Rows.IrisTurnedSaid :=
  OpenClaim.holds_of_wide 10 Try.f10 rfl rfl rfl rfl rfl rfl rfl ⟨rfl, rfl, rfl, rfl, rfl⟩ rfl rfl rfl rfl rfl (by kernel_rfl) Try.func10 (by kernel_rfl)
    (of_decide_eq_true (by kernel_rfl)) (by unfold Func.isWrapper; first | (rw [if_pos (by decide +kernel)]; kernel_rfl) | (rw [if_neg (by decide +kernel)]; exact ⟨rfl, rfl⟩))
    (fun os started H enc _ => irisTurned_lifted os started H enc)
end Go.Proofs.Ytcacbolbedhcoaa
