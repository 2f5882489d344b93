/- Proved: for all rings r, noises and margins, the call of whorllaw03.IrisSteady returns true and leaves its arguments as they were. No conditions. -/
import Derived.Test.YtcacbolbedhcoaaIrisTurned
namespace Go.Proofs.Ytcacbolbedhcoaa
open Go.Joins Go.ChangeShapes Go.WideShapes Go.RowKit Go.Deep Go.ChangeAt

theorem wf_of8 {n : Int} (h : (Lit.int .i8 n).wf = true) : -128 ≤ n ∧ n ≤ 127 := by
  simp [Lit.wf, IntKind.min, IntKind.max, IntKind.signed, IntKind.bits] at h; omega
/-- the slice's numbers lie in memory -/
def I8s (w : World) (A : Option Addr) (ns : List Int) : Prop :=
  ns = [] ∨ ∃ b off, A = some ⟨b, off, none⟩ ∧ b < w.heap.size ∧ ∀ (i : Nat) n, ns[i]? = some n → w.cell? ⟨b, off + i, none⟩ = some (.int .i8 n)
/-- the noise at a place -/
def byN (ns : List Int) (e : Int) (n : Nat) : Int := match ns[n]? with
  | some x => x.tmod (e + 1)
  | none => 0
theorem byN_in (ns : List Int) (e : Int) (n : Nat) (he : 0 ≤ e) : -e ≤ byN ns e n ∧ byN ns e n ≤ e := by
  unfold byN
  split
  · rename_i x _
    have h1 := Int.tmod_lt_of_pos x (show 0 < e + 1 by omega)
    have h2 : -(e + 1) < x.tmod (e + 1) := by
      rcases Int.le_total 0 x with h | h
      · have := Int.tmod_nonneg (e + 1) h; omega
      · have h3 := Int.tmod_lt_of_pos (-x) (show 0 < e + 1 by omega)
        rw [Int.neg_tmod] at h3
        omega
    omega
  · omega
def svN (r : Nat → Int) (ns : List Int) (e : Int) (n : Nat) : Int := max 0 (min 255 (r n + byN ns e n))
def svK (r : Nat → Int) (ns : List Int) (e : Int) (k n : Nat) : Int := if n < k then svN r ns e n else r n
theorem svK_zero (r : Nat → Int) (ns : List Int) (e : Int) : svK r ns e 0 = r := by funext n; simp [svK]
theorem svK_succ (r : Nat → Int) (ns : List Int) (e : Int) (k : Nat) : (fun i => if i = k then svN r ns e k else svK r ns e k i) = svK r ns e (k + 1) := by
  funext i
  unfold svK
  by_cases h : i = k
  · subst h; simp
  · have : (i < k + 1) ↔ (i < k) := by omega
    simp [h, this]
theorem svK_all (r : Nat → Int) (ns : List Int) (e : Int) : ringA (svK r ns e 64) = ringA (svN r ns e) := ring_congr fun i h => by simp [svK, h]
theorem clamp_in {z : Int} (h : 0 ≤ z ∧ z ≤ 255) : (if 0 < if z < 255 then z else 255 then if z < 255 then z else 255 else 0) = z := by
  by_cases h1 : z < 255
  · rw [if_pos h1]; split <;> omega
  · rw [if_neg h1]; simp; omega
theorem svN_in (r : Nat → Int) (ns : List Int) (e : Int) (n : Nat) : 0 ≤ svN r ns e n ∧ svN r ns e n ≤ 255 := by unfold svN; omega
theorem svN_near (r : Nat → Int) (hr : ∀ n, 0 ≤ r n ∧ r n ≤ 255) (ns : List Int) (e : Int) (he : 0 ≤ e) (n : Nat) : -e ≤ svN r ns e n - r n ∧ svN r ns e n - r n ≤ e := by
  have h1 := byN_in ns e n he
  have h2 := hr n
  unfold svN; omega
theorem dif_near (r : Nat → Int) (hr : ∀ n, 0 ≤ r n ∧ r n ≤ 255) (ns : List Int) (e : Int) (he : 0 ≤ e) (n : Nat) : -(2 * e) ≤ dif (svN r ns e) n - dif r n ∧ dif (svN r ns e) n - dif r n ≤ 2 * e := by
  have h1 := svN_near r hr ns e he n
  have h2 := svN_near r hr ns e he (16 * (n / 16) + (n % 16 + 1) % 16)
  unfold dif; omega
theorem steady (r : Nat → Int) (hr : ∀ n, 0 ≤ r n ∧ r n ≤ 255) (ns : List Int) (e m : Int) (he : 0 ≤ e) (hm : 2 * e < m) :
    ((fusK (dif r) m 64).code ^^^ (fusK (dif (svN r ns e)) m 64).code) &&& (fusK (dif r) m 64).mask &&& (fusK (dif (svN r ns e)) m 64).mask = 0#64 := by
  apply BitVec.eq_of_getLsbD_eq
  intro i hi
  have h := dif_near r hr ns e he i
  simp only [BitVec.getLsbD_and, BitVec.getLsbD_xor, fus_code _ _ i hi, fus_mask _ _ i hi, hi, decide_true, Bool.true_and, BitVec.getLsbD_zero]
  generalize dif r i = x at *
  generalize dif (svN r ns e) i = y at *
  by_cases h1 : m ≤ x
  · by_cases h2 : m ≤ y
    · simp [h1, h2]
    · have h3 : ¬ m ≤ -y := by omega
      simp [h2, h3]
  · by_cases h2 : m ≤ y
    · have h3 : ¬ m ≤ -x := by omega
      simp [h1, h3]
    · simp [h1, h2]

set_option maxRecDepth 100000 in
set_option maxHeartbeats 4000000 in
theorem irisSteady_out (r : Nat → Int) (A : Option Addr) (c l : Nat) (e m : Int) (w : World) (h : ¬ (0 ≤ e ∧ e ≤ 127 ∧ 2 * e < m ∧ m ≤ 255)) : Calls Try.prog 9 #[.agg (ringA r), .slice A l c, .int .i64 e, .int .i64 m] w fun e w' => e = .returned (.bool true) ∧ Ext w w' := by
  by_cases h1 : e < 0
  · clear h
    go_enter Try.func9, Try.ntmps9
    go_wp2_with (go_at_call 38; refine Calls.ext (alive_any _) fun z => ?_)
    all_goals (go_ret; exact ⟨rfl, ((Ext.refl w).alloc _).ext z⟩)
  by_cases h2 : 127 < e
  · clear h
    have hb : decide (e < 0) = false := by simp; omega
    go_enter Try.func9, Try.ntmps9
    go_wp2_with (go_at_call 38; refine Calls.ext (alive_any _) fun z => ?_)
    all_goals (go_ret; exact ⟨rfl, ((Ext.refl w).alloc _).ext z⟩)
  by_cases h3 : m ≤ 2 * e
  · clear h
    have hb : decide (e < 0) = false := by simp; omega
    have hb2 : decide (127 < e) = false := by simp; omega
    go_enter Try.func9, Try.ntmps9
    go_wp2_with (go_at_call 38; refine Calls.ext (alive_any _) fun z => ?_)
    all_goals (go_ret; exact ⟨rfl, ((Ext.refl w).alloc _).ext z⟩)
  have h4 : 255 < m := by omega
  have hb : decide (e < 0) = false := by simp; omega
  have hb2 : decide (127 < e) = false := by simp; omega
  have hb3 : decide (m ≤ 2 * e) = false := by simp; omega
  clear h
  go_enter Try.func9, Try.ntmps9
  go_wp2_with (go_at_call 38; refine Calls.ext (alive_any _) fun z => ?_)
  all_goals (go_ret; exact ⟨rfl, ((Ext.refl w).alloc _).ext z⟩)

set_option maxRecDepth 100000 in
set_option maxHeartbeats 8000000 in
theorem irisSteady_walk (r : Nat → Int) (hr : ∀ n, 0 ≤ r n ∧ r n ≤ 255) (A : Option Addr) (c : Nat) (ns : List Int) (e m : Int) (w : World) (hA : I8s w A ns) (hwf : ∀ n ∈ ns, -128 ≤ n ∧ n ≤ 127) : Calls Try.prog 9 #[.agg (ringA r), .slice A ns.length c, .int .i64 e, .int .i64 m] w fun e w' => e = .returned (.bool true) ∧ Ext w w' := by
  by_cases h : 0 ≤ e ∧ e ≤ 127 ∧ 2 * e < m ∧ m ≤ 255
  rotate_left
  · exact irisSteady_out r A c ns.length e m w h
  obtain ⟨e1, e2, m1, m2⟩ := h
  have hv1 := ext_in (r := r) (m := m) (by omega)
  have hv2 := ext_in (r := svN r ns e) (m := m) (by omega)
  have hst := steady r hr ns e m e1 m1
  have C1 := Lib.hid (fun w => hv1 ▸ Extract_any r hr m w)
  have C2 := Lib.hid (fun w => hv2 ▸ Extract_any (svN r ns e) (svN_in r ns e) m w)
  have HST := Lib.hid hst
  have HRi := Lib.hid hr
  have HWF := Lib.hid hwf
  have HNS := Lib.hid hA
  clear hv1 hv2 hst hr hwf hA
  generalize fusK (dif r) m 64 = a at *
  generalize fusK (dif (svN r ns e)) m 64 = b at *
  have hb : decide (e < 0) = false := by simp; omega
  have hb2 : decide (127 < e) = false := by simp; omega
  have hb3 : decide (m ≤ 2 * e) = false := by simp; omega
  have hb4 : decide (255 < m) = false := by simp; omega
  go_enter Try.func9, Try.ntmps9
  go_wp2_with (first | (go_at_call 38; refine Calls.ext (alive_any _) fun z1 => ?_) | (refine wpList_load_row rfl 24 (.tmp 4) rfl w.heap.size rfl 24 (ringA r) (0, 0) (.array 4 22) (by change Blk _ _ _ _; with_reducible (repeat' (first | exact Blk.new w 24 (ringA r) | refine Blk.alloc ?_ _ | refine Blk.ext ?_ _))) Try.underlying24 rfl (by rw [ring_size]; kernel_rfl) ?_) | (refine wpList_store_new rfl _ 24 (.tmp 10) (.tmp 37) rfl _ (ringA r) rfl rfl (by rw [ring_size]; kernel_rfl) (by rw [ring_size]; rfl) (ring_one r) ?_))
  have HA := Lib.hid ((((Blk.new w 24 (ringA r))).ext z1).alloc (.cells (ringA r) 24))
  have HE := Lib.hid ((((Ext.refl w).alloc (.cells (ringA r) 24)).ext z1).alloc (.cells (ringA r) 24))
  have HS := Lib.hid (Blk.new (ext (w.alloc (.cells (ringA r) 24)) z1) 24 (ringA r))
  have hlt : w.heap.size < (ext (w.alloc (.cells (ringA r) 24)) z1).heap.size := Nat.lt_of_lt_of_le (by simp) (ext_size _ _)
  generalize (ext (w.alloc (.cells (ringA r) 24)) z1).alloc (.cells (ringA r) 24) = W at *
  generalize (ext (w.alloc (.cells (ringA r) 24)) z1).heap.size = B at *
  go_loopw [38] (fun i wr => ∃ (j : Nat), j ≤ 4 ∧ i = .int .i64 j ∧ Ext w wr ∧ Blk wr w.heap.size 24 (ringA r) ∧ Blk wr B 24 (ringA (svK r ns e (16 * j)))) (fun i _ => 4 - (intOf i).toNat)
  case atStart => exact ⟨0, Nat.zero_le _, rfl, HE.out, HA.out, by rw [Nat.mul_zero, svK_zero]; exact HS.out⟩
  case round =>
    obtain ⟨i, hi, rfl, hE, hA, hB⟩ := hrel
    obtain ⟨wo, rfl⟩ : ∃ wo : World, wo = wr := ⟨_, rfl⟩
    have HAo := Lib.hid hA
    have HBo := Lib.hid hB
    have HEo := Lib.hid hE
    clear hE hA hB
    by_cases hlt4 : i < 4
    · have hi2 : (i : Int) < 4 := by omega
      have hi3 : decide ((i : Int) < 4) = true := by simpa using hi2
      go_wp2_with fail
      go_loopw [41] (fun q wr => ∃ (k : Nat), k ≤ 16 ∧ q = .int .i64 k ∧ Ext w wr ∧ Blk wr w.heap.size 24 (ringA r) ∧ Blk wr B 24 (ringA (svK r ns e (16 * i + k)))) (fun q _ => 16 - (intOf q).toNat)
      case atStart => exact ⟨0, Nat.zero_le _, rfl, HEo.out, HAo.out, HBo.out⟩
      case round =>
        obtain ⟨k, hk, rfl, hE, hA, hB⟩ := hrel
        have HAk := Lib.hid hA
        have HBk := Lib.hid hB
        have HEk := Lib.hid hE
        by_cases hlk : k < 16
        · have hk2 : (k : Int) < 16 := by omega
          have ef := hB.frozen
          have hcm : i * 16 + k = 16 * i + k := by omega
          have e2 : wr.cell? ⟨B, i * 16 + k, none⟩ = some (.int .u8 (r (16 * i + k))) := by
            rw [hcm]; exact (hB.cell _).trans ((ring_get _ _ (by omega)).trans (by simp [svK]))
          have hse : (ringA (svK r ns e (16 * i + k))).setIfInBounds (i * 16 + k) (.int .u8 (svN r ns e (16 * i + k))) = ringA (svK r ns e (16 * i + (k + 1))) := by rw [hcm, ring_set, svK_succ]; rfl
          have HSET := Lib.hid (hse ▸ HBk.out.set_ (i * 16 + k) (.int .u8 (svN r ns e (16 * i + k))))
          clear hse
          have hne : w.heap.size ≠ B := by omega
          have hr := HRi.out (16 * i + k)
          have hby := byN_in ns e (16 * i + k) e1
          have Hsv := Lib.hid (show svN r ns e (16 * i + k) = max 0 (min 255 (r (16 * i + k) + byN ns e (16 * i + k))) from rfl)
          clear hcm
          by_cases hn : 16 * i + k < ns.length
          · rcases HNS.out with h | ⟨bb, off, hAe, hbb, hcc⟩
            · subst h; simp at hn
            subst hAe
            obtain ⟨x, hx⟩ : ∃ x, ns[16 * i + k]? = some x := ⟨_, List.getElem?_eq_getElem hn⟩
            have hxw := HWF.out x (List.mem_of_getElem? hx)
            have c0 : wr.cell? ⟨bb, off + (16 * i + k), none⟩ = some (.int .i8 x) := (hE.cell (p := ⟨bb, off + (16 * i + k), none⟩) hbb).trans (hcc _ x hx)
            have hbx : byN ns e (16 * i + k) = x.tmod (e + 1) := by unfold byN; rw [hx]
            rw [hbx] at hby Hsv
            have hlen : decide ((i : Int) * 16 + (k : Int) < (ns.length : Int)) = true := by simp; omega
            have hlen2 : decide (i * 16 + k < ns.length) = true := by simp; omega
            have c1 : wr.cell? ⟨bb, off + (i * 16 + k), none⟩ = some (.int .i8 x) := by rw [Nat.mul_comm i 16]; exact c0
            have hbo : Nonempty (Old bb wr) := Old.mk (Nat.lt_of_lt_of_le hbb hE.size)
            have w1 : IntKind.i64.wrap (e + 1) = e + 1 := IntWalk.i64_in _ (by omega)
            have w2 : IntKind.i64.wrap x = x := IntWalk.i64_in _ (by omega)
            have hnz : e + 1 ≠ 0 := by omega
            have hnn : i * 16 + k < ns.length := by omega
            clear c0 hbx hx hcc hA hB hE
            generalize hy : x.tmod (e + 1) = y at *
            have w3 : IntKind.i64.wrap y = y := IntWalk.i64_in _ (by omega)
            generalize svN r ns e (16 * i + k) = s at *
            generalize r (16 * i + k) = v at *
            have y1 : IntKind.i64.wrap (v + y) = v + y := IntWalk.i64_in _ (by omega)
            by_cases q1 : 255 < v + y
            · have hs := Hsv.out
              rw [show max 0 (min 255 (v + y)) = 255 by omega] at hs
              rw [hs] at HSET
              have q2 : min 255 (v + y) = 255 := by omega
              have q3 : (255 : Int) ≤ v + y := by omega
              have q4 : max (0 : Int) 255 = 255 := by omega
              clear hs Hsv
              go_wp2_with fail
              go_region
              clear y1
              go_wp2_with fail
              go_roundw
              case rel => exact ⟨k + 1, by omega, by go_num, (HEk.out.setCell (p := ⟨B, i * 16 + k, none⟩) (Nat.le_of_lt hlt) _).drew, (HAk.out.far (p := ⟨B, i * 16 + k, none⟩) hne _).drew, by first | exact HSET.out.drew | (rw [clamp_in (by omega)]; exact HSET.out.drew)⟩
              case measure => simp [intOf]; omega
            by_cases q5 : v + y < 0
            · have hs := Hsv.out
              rw [show max 0 (min 255 (v + y)) = 0 by omega] at hs
              rw [hs] at HSET
              have q2 : min 255 (v + y) = v + y := by omega
              have q3 : v + y ≤ 255 := by omega
              have q4 : max 0 (v + y) = 0 := by omega
              have q6 : v + y ≤ 0 := by omega
              clear hs Hsv
              go_wp2_with fail
              go_region
              clear y1
              go_wp2_with fail
              go_roundw
              case rel => exact ⟨k + 1, by omega, by go_num, (HEk.out.setCell (p := ⟨B, i * 16 + k, none⟩) (Nat.le_of_lt hlt) _).drew, (HAk.out.far (p := ⟨B, i * 16 + k, none⟩) hne _).drew, by first | exact HSET.out.drew | (rw [clamp_in (by omega)]; exact HSET.out.drew)⟩
              case measure => simp [intOf]; omega
            have hs := Hsv.out
            rw [show max 0 (min 255 (v + y)) = v + y by omega] at hs
            rw [hs] at HSET
            have q2 : min 255 (v + y) = v + y := by omega
            have q3 : v + y ≤ 255 := by omega
            have q4 : max 0 (v + y) = v + y := by omega
            have q6 : 0 ≤ v + y := by omega
            have q7 : IntKind.u8.wrap (v + y) = v + y := by rw [IntKind.wrap_u8]; omega
            clear hs Hsv
            go_wp2_with fail
            go_region
            clear y1
            go_wp2_with fail
            go_roundw
            case rel => exact ⟨k + 1, by omega, by go_num, (HEk.out.setCell (p := ⟨B, i * 16 + k, none⟩) (Nat.le_of_lt hlt) _).drew, (HAk.out.far (p := ⟨B, i * 16 + k, none⟩) hne _).drew, by first | exact HSET.out.drew | (rw [clamp_in (by omega)]; exact HSET.out.drew)⟩
            case measure => simp [intOf]; omega
          · have hbx : byN ns e (16 * i + k) = 0 := by unfold byN; rw [List.getElem?_eq_none (by omega)]
            rw [hbx] at hby Hsv
            have hlen : decide ((i : Int) * 16 + (k : Int) < (ns.length : Int)) = false := by simp; omega
            have hlen2 : decide (i * 16 + k < ns.length) = false := by simp; omega
            clear hbx hA hB hE
            have hs := Hsv.out
            rw [show max 0 (min 255 (r (16 * i + k) + 0)) = r (16 * i + k) by omega] at hs
            rw [hs] at HSET
            clear hs Hsv
            generalize r (16 * i + k) = v at *
            have q2 : min 255 v = v := by omega
            have q3 : v ≤ 255 := by omega
            have q4 : max 0 v = v := by omega
            have q6 : 0 ≤ v := by omega
            have q7 : IntKind.u8.wrap v = v := by rw [IntKind.wrap_u8]; omega
            have y1 : IntKind.i64.wrap v = v := IntWalk.i64_in _ (by omega)
            go_wp2_with fail
            go_region
            clear y1
            go_wp2_with fail
            go_roundw
            case rel => exact ⟨k + 1, by omega, by go_num, (HEk.out.setCell (p := ⟨B, i * 16 + k, none⟩) (Nat.le_of_lt hlt) _).drew, (HAk.out.far (p := ⟨B, i * 16 + k, none⟩) hne _).drew, by first | exact HSET.out.drew | (rw [clamp_in (by omega)]; exact HSET.out.drew)⟩
            case measure => simp [intOf]; omega
        · obtain rfl : k = 16 := by omega
          clear hA hB hE
          go_wp2_with fail
          go_roundw
          case rel => exact ⟨i + 1, by omega, by go_num, HEk.out, HAk.out, by have e : 16 * (i + 1) = 16 * i + 16 := (by omega); rw [e]; exact HBk.out⟩
          case measure => simp [intOf]; omega
    · obtain rfl : i = 4 := by omega
      have HB4 : Hid (Blk wo B 24 (ringA (svN r ns e))) := Lib.hid (by have := HBo.out; rw [show 16 * 4 = 64 from rfl, svK_all] at this; exact this)
      go_wp2_with (first | (refine wpList_load_row rfl 24 (.tmp 4) rfl w.heap.size rfl 24 (ringA r) (0, 0) (.array 4 22) HAo.out Try.underlying24 rfl (by rw [ring_size]; kernel_rfl) ?_))
      refine Calls.ext (C1.out _) fun z2 => ?_
      have HX := Lib.hid ((HB4.out.ext z2).alloc (.cells #[.int .u64 (uw a.code), .int .u64 (uw a.mask)] 27))
      have HX1 := Lib.hid (Blk.new (ext wo z2) 27 #[.int .u64 (uw a.code), .int .u64 (uw a.mask)])
      have HXE := Lib.hid ((HEo.out.ext z2).alloc (.cells #[.int .u64 (uw a.code), .int .u64 (uw a.mask)] 27))
      go_wp2_with (refine wpList_load_row rfl 24 (.tmp 10) rfl B rfl 24 (ringA (svN r ns e)) (0, 0) (.array 4 22) HX.out Try.underlying24 rfl (by rw [ring_size]; kernel_rfl) ?_)
      generalize (ext wo z2).alloc (.cells #[.int .u64 (uw a.code), .int .u64 (uw a.mask)] 27) = W2 at *
      generalize (ext wo z2).heap.size = B1 at *
      refine Calls.ext (C2.out _) fun z3 => ?_
      have HY1 := Lib.hid ((HX1.out.ext z3).alloc (.cells #[.int .u64 (uw b.code), .int .u64 (uw b.mask)] 27))
      have HYE := Lib.hid ((HXE.out.ext z3).alloc (.cells #[.int .u64 (uw b.code), .int .u64 (uw b.mask)] 27))
      have hb1 := Old.mk HX1.out.lt
      have a0 : W2.cell? ⟨B1, 0, none⟩ = some (.int .u64 (uw a.code)) := HX1.out.cell 0
      have a1 : W2.cell? ⟨B1, 1, none⟩ = some (.int .u64 (uw a.mask)) := HX1.out.cell 1
      clear HX HXE
      have hz : ((a.code ^^^ b.code) &&& a.mask &&& b.mask == 0#64) = true := by rw [HST.out]; rfl
      go_wp2_with fail
      go_ret
      exact ⟨rfl, HYE.out⟩
set_option maxRecDepth 100000 in
theorem irisSteady_lifted (os : Os) (started : os.Started) (H : Type) (enc : TypeId × Value → H) :
    ReturnsInHanded {} Try.checked os 9 .any (Rows.irisSteadySpec.pre6 enc Try.prog Try.f9 Rows.irisSteadyRow.domain false) (Rows.irisSteadySpec.post enc Try.prog Try.f9 false true false false) := by
  refine returnsInHanded_of_change (C := Try.checked) own started (by kernel_rfl) Try.func9
    (ChangeSpec.witness6 (enc := enc) (C := Try.checked) false ⟨#[], #[.agg (Array.replicate 64 (.int .u8 0)), .slice none 0 0, .int .i64 0, .int .i64 0], []⟩ 8 (by kernel_rfl) (by kernel_rfl) (by kernel_rfl) (by kernel_rfl)) ?_
  intro W base args ds gs before hval0 hW hcnd _
  have hval : ∀ (j : Nat) t v, Try.f9.params[j]? = some t → args[j]? = some v → Value.okWide Try.prog W .any base t v := hval0
  have hW' := hW
  obtain ⟨p, q, hA0, hV, rfl, hfz, hnd⟩ := hW
  have hA : DataW.TrodAll enc Try.prog W 0 (fun _ => true) true Try.f9.params.toList args.toList ds p := hA0
  rw [Try.params9] at hA hval
  obtain ⟨v0, vs0, d0, ds0, p0, q0, hargs, rfl, rfl, h0, r0⟩ := trodAll_cons hA
  obtain ⟨v1, vs1, d1, ds1, p1, q1, rfl, rfl, rfl, h1, r1⟩ := trodAll_cons r0
  obtain ⟨v2, vs2, d2, ds2, p2, q2, rfl, rfl, rfl, h2, r2⟩ := trodAll_cons r1
  obtain ⟨v3, vs3, d3, ds3, p3, q3, rfl, rfl, rfl, h3, r3⟩ := trodAll_cons r2
  obtain ⟨rfl, rfl, rfl⟩ := trodAll_nil r3
  obtain rfl : args = #[v0, v1, v2, v3] := by cases args; simp_all
  obtain ⟨rfl, rfl⟩ := trodVars_none hV
  have k0 := h0
  have lt0 : ∀ x ∈ p0, x.block < W.heap.size := by obtain ⟨m, hm⟩ := k0; exact DataW.trod_lt m _ _ _ hm
  obtain ⟨ns0, hl0, hv0, wf0⟩ := open_flat (ks := List.replicate 64 .u8) (by kernel_rfl) (hval 0 24 v0 rfl rfl)
  have k1 := h1
  have lt1 : ∀ x ∈ p1, x.block < W.heap.size := by obtain ⟨m, hm⟩ := k1; exact DataW.trod_lt m _ _ _ hm
  obtain ⟨A1, ns1, cap1, rfl, hlc1, hcm1, hwf1, hrow1⟩ := open_nslice Try.underlying73 Try.underlying74 (by kernel_rfl) (hval 1 73 v1 rfl rfl) h1
  have k2 := h2
  have lt2 : ∀ x ∈ p2, x.block < W.heap.size := by obtain ⟨m, hm⟩ := k2; exact DataW.trod_lt m _ _ _ hm
  obtain ⟨a2, rfl, _, _, w2⟩ := open_int Try.underlying3 (hval 2 3 v2 rfl rfl) h2
  have k3 := h3
  have lt3 : ∀ x ∈ p3, x.block < W.heap.size := by obtain ⟨m, hm⟩ := k3; exact DataW.trod_lt m _ _ _ hm
  obtain ⟨a3, rfl, _, _, w3⟩ := open_int Try.underlying3 (hval 3 3 v3 rfl rfl) h3
  clear hA0 hval0
  rw [ring_of hl0] at hv0
  subst hv0
  refine (irisSteady_walk (ringF ns0) (ring_in hl0 wf0) A1 cap1 ns1 a2 a3 W hrow1 (fun n hn => wf_of8 (hwf1 n hn))).mono fun e W' ⟨he, bel⟩ => ?_
  subst he
  exact ⟨_, rfl, _, _, _, [], _, [], hW', trodAll_mk1 (shut_bool Try.underlying4 _), (trodAll_cons_mk (Below.trod laidOut (by kernel_rfl) (of_decide_eq_true (by kernel_rfl)) k0 bel lt0) (trodAll_cons_mk (Below.trod laidOut (by kernel_rfl) (of_decide_eq_true (by kernel_rfl)) k1 bel lt1) (trodAll_cons_mk (Below.trod laidOut (by kernel_rfl) (of_decide_eq_true (by kernel_rfl)) k2 bel lt2) (trodAll_cons_mk (Below.trod laidOut (by kernel_rfl) (of_decide_eq_true (by kernel_rfl)) k3 bel lt3) trodAll_mk0)))), rfl, Below.frame bel _, fun h => by cases h⟩

theorem irisSteady_holds : Rows.IrisSteadySaid :=
  OpenClaim.holds_of_wide 9 Try.f9 rfl rfl rfl rfl rfl rfl rfl ⟨rfl, rfl, rfl, rfl, rfl⟩ rfl rfl rfl rfl rfl (by kernel_rfl) Try.func9 (by kernel_rfl)
    (of_decide_eq_true (by kernel_rfl)) (by unfold Func.isWrapper; first | (rw [if_pos (by decide +kernel)]; kernel_rfl) | (rw [if_neg (by decide +kernel)]; exact ⟨rfl, rfl⟩))
    (fun os started H enc _ => irisSteady_lifted os started H enc)
end Go.Proofs.Ytcacbolbedhcoaa
