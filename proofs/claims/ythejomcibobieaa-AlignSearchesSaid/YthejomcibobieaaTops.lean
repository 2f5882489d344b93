/- The reference: the greatest score (Top, 78), the first block with the greatest bound (High, 82), halves of a block (83, 90). -/
import Derived.Test.YthejomcibobieaaCopies
import Derived.Test.YthejomcibobieaaTryErr
namespace Go.Proofs.Ythejomcibobieaa
open Go.RowKit

abbrev At.cellsL (x : At) : List Value := [.int .i64 x.mv.turn, .int .i64 x.mv.dx, .int .i64 x.mv.dy, .int .i64 x.bd.a, .int .i64 x.bd.b, .int .i64 x.bd.c, .int .i64 x.bd.d, .int .i64 x.score]
abbrev Rs.cellsL (x : Rs) : List Value := [.int .i64 x.bk.turn, .int .i64 x.bk.x0, .int .i64 x.bk.y0, .int .i64 x.bk.x1, .int .i64 x.bk.y1, .int .i64 x.bound]
theorem at_len (x : At) : x.cellsL.length = 8 := rfl
theorem rs_len (x : Rs) : x.cellsL.length = 6 := rfl
theorem at_one (x : At) : ∀ u ∈ x.cellsL, u.oneCell' = true := by
  intro u hu
  simp only [At.cellsL, List.mem_cons, List.not_mem_nil, or_false] at hu
  rcases hu with rfl | rfl | rfl | rfl | rfl | rfl | rfl | rfl <;> rfl
theorem rs_one (x : Rs) : ∀ u ∈ x.cellsL, u.oneCell' = true := by
  intro u hu
  simp only [Rs.cellsL, List.mem_cons, List.not_mem_nil, or_false] at hu
  rcases hu with rfl | rfl | rfl | rfl | rfl | rfl <;> rfl
theorem infoAt : ElemInfo Try.prog 55 46 8 64 := elemInfo (z := .agg #[.int .i64 0, .int .i64 0, .int .i64 0, .int .i64 0, .int .i64 0, .int .i64 0, .int .i64 0, .int .i64 0]) Try.underlying55 (by kernel_rfl) rfl (by decide)
theorem infoRs : ElemInfo Try.prog 56 105 6 48 := elemInfo (z := .agg #[.int .i64 0, .int .i64 0, .int .i64 0, .int .i64 0, .int .i64 0, .int .i64 0]) Try.underlying56 (by kernel_rfl) rfl (by decide)
def Ats (w : World) (A : Option Addr) (l : List At) : Prop := Sl 8 At.cellsL w A l
def Rss (w : World) (A : Option Addr) (l : List Rs) : Prop := Sl 6 Rs.cellsL w A l
theorem Ats.grow {w w' : World} {A : Option Addr} {l : List At} (h : Ats w A l) (hg : Ext w w') : Ats w' A l := Sl.grow h hg
theorem Rss.grow {w w' : World} {A : Option Addr} {l : List Rs} (h : Rss w A l) (hg : Ext w w') : Rss w' A l := Sl.grow h hg
theorem Ats.own {w : World} {base : Nat} {l : List At} {A : Option Addr} {c : Nat} (h : w.ownsRow base 46 8 (.slice A l.length c) l.length (flatG At.cellsL l)) : Ats w A l := Slc.sl at_len (Slc.of_own h)
theorem Rss.own {w : World} {base : Nat} {l : List Rs} {A : Option Addr} {c : Nat} (h : w.ownsRow base 105 6 (.slice A l.length c) l.length (flatG Rs.cellsL l)) : Rss w A l := Slc.sl rs_len (Slc.of_own h)
/-- the greatest score of the first k -/
def topN (l : List At) (k : Nat) : Int := topA (l.take k)
theorem topN_succ {l : List At} {k : Nat} {x : At} (h : l[k]? = some x) : topN l (k + 1) = max (topN l k) x.score := by
  have hk : k < l.length := by
    rcases Nat.lt_or_ge k l.length with h1 | h1
    · exact h1
    · rw [List.getElem?_eq_none h1] at h; cases h
  unfold topN
  rw [List.take_succ_eq_append_getElem hk, topA_append]
  rw [List.getElem?_eq_getElem hk] at h
  injection h with h
  rw [h]
set_option maxHeartbeats 1000000 in
theorem top_any (A : Option Addr) (c : Nat) (l : List At) (w : World) (hl : Ats w A l) (hn : l.length ≤ 100000) :
    Calls Try.prog 78 #[.slice A l.length c] w fun e w' => e = .returned (.int .i64 (topA l)) ∧ Ext w w' := by
  have HV := Lib.hid (show topN l l.length = topA l by unfold topN; rw [List.take_length])
  go_enter Try.func78, Try.ntmps78
  go_wp2_with fail
  go_loopw [3, 4] (fun t i wr => ∃ (k : Nat) (z : World), k ≤ l.length ∧ i = .int .i64 k ∧ t = .int .i64 (topN l k) ∧ wr = ext w z) (fun _ i _ => l.length - (intOf i).toNat)
  case atStart => exact ⟨0, w, Nat.zero_le _, rfl, rfl, (ext_of (Ext.refl w)).symm⟩
  case round =>
    obtain ⟨k, z, hk, rfl, rfl, rfl⟩ := hrel
    by_cases hlt : k < l.length
    · have hki : (k : Int) < l.length := by omega
      rcases hl with rfl | ⟨b, off, rfl, hb1, hc⟩
      · simp at hlt
      obtain ⟨x, hx⟩ : ∃ x, l[k]? = some x := ⟨_, List.getElem?_eq_getElem hlt⟩
      have ho1 := Old.mk hb1
      have c7 := hc k x hx 7 _ rfl
      have HS := Lib.hid (topN_succ hx)
      generalize topN l k = m at *
      clear hc hx
      go_wp2_with (refine wpList_max2 rfl (.tmp 11) (.tmp 16) #[3, 3] rfl .i64 _ _ (max m x.score) rfl rfl rfl ?_)
      exact ⟨⟨k + 1, z, by omega, by go_num, by rw [HS.out], rfl⟩, by simp [intOf]; omega⟩
    · obtain rfl : k = l.length := by omega
      go_wp2_with fail
      go_ret
      exact ⟨ret_of (by rw [← HV.out]; rfl), (Ext.refl w).ext z⟩
set_option maxHeartbeats 1000000 in
theorem high_any (A : Option Addr) (c : Nat) (l : List Rs) (w : World) (hl : Rss w A l) (hn : l.length ≤ 100000) :
    Calls Try.prog 82 #[.slice A l.length c] w fun e w' => e = .returned (.int .i64 (high l)) ∧ Ext w w' := by
  have HV := Lib.hid (show highN l l.length = high l from rfl)
  go_enter Try.func82, Try.ntmps82
  go_wp2_with fail
  go_loopw [3, 4] (fun t i wr => ∃ (k : Nat) (z : World), k ≤ l.length ∧ i = .int .i64 k ∧ t = .int .i64 (highN l k : Nat) ∧ wr = ext w z) (fun _ i _ => l.length - (intOf i).toNat)
  case atStart => exact ⟨0, w, Nat.zero_le _, rfl, rfl, (ext_of (Ext.refl w)).symm⟩
  case round =>
    obtain ⟨k, z, hk, rfl, rfl, rfl⟩ := hrel
    by_cases hlt : k < l.length
    · have hki : (k : Int) < l.length := by omega
      have hh : highN l k < l.length := by
        rcases Nat.eq_zero_or_pos k with rfl | h
        · exact hlt
        · have := highN_lt l k h; omega
      rcases hl with rfl | ⟨b, off, rfl, hb1, hc⟩
      · simp at hlt
      obtain ⟨x, hx⟩ : ∃ x, l[k]? = some x := ⟨_, List.getElem?_eq_getElem hlt⟩
      obtain ⟨y, hy⟩ : ∃ y, l[highN l k]? = some y := ⟨_, List.getElem?_eq_getElem hh⟩
      have ho1 := Old.mk hb1
      have c5 := hc k x hx 5 _ rfl
      have d5 := hc (highN l k) y hy 5 _ rfl
      have HS := Lib.hid (show highN l (k + 1) = if y.bound < x.bound then k else highN l k by
        show (if boundAt l (highN l k) < boundAt l k then k else highN l k) = _
        unfold boundAt
        rw [hx, hy])
      generalize highN l k = h at *
      have hhi : (h : Int) < l.length := by omega
      clear hc hx hy
      cases hlt2 : decide (y.bound < x.bound)
      · have HS2 := Lib.hid (show highN l (k + 1) = h by rw [HS.out, if_neg (by simpa using hlt2)])
        go_wp2_with fail
        refine wp_region_ext (by kernel_rfl) (by kernel_rfl) ?_
        repeat (go_big_quiet_step (fail))
        refine wpQuiet_nil ?_
        rintro _ ⟨z2, rfl⟩
        go_wp2_with fail
        exact ⟨⟨k + 1, _, by omega, by go_num, by rw [HS2.out], (ext_of (((Ext.refl w).ext z).ext z2)).symm⟩, by simp [intOf]; omega⟩
      · have HS2 := Lib.hid (show highN l (k + 1) = k by rw [HS.out, if_pos (by simpa using hlt2)])
        go_wp2_with fail
        refine wp_region_ext (by kernel_rfl) (by kernel_rfl) ?_
        repeat (go_big_quiet_step (fail))
        refine wpQuiet_nil ?_
        rintro _ ⟨z2, rfl⟩
        go_wp2_with fail
        exact ⟨⟨k + 1, _, by omega, by go_num, by rw [HS2.out], (ext_of (((Ext.refl w).ext z).ext z2)).symm⟩, by simp [intOf]; omega⟩
    · obtain rfl : k = l.length := by omega
      go_wp2_with fail
      go_ret
      exact ⟨ret_of (by rw [← HV.out]; rfl), (Ext.refl w).ext z⟩
theorem tdiv2 (n : Int) : n.tdiv 2 = if n < 0 ∧ n % 2 ≠ 0 then n / 2 + 1 else n / 2 := by
  rw [Int.tdiv_eq_ediv]
  have : (Int.sign 2 : Int) = 1 := rfl
  rw [this]
  split <;> split <;> omega
theorem tmod2 (n : Int) : (n.tmod 2 != 0) = (n % 2 != 0) := by
  have := tdiv2 n
  have h2 := Int.tmod_add_mul_tdiv n 2
  rw [Bool.eq_iff_iff]
  simp only [bne_iff_ne, ne_eq]
  split at this <;> omega
theorem middle_any (a b : Int) (ha : -10 ≤ a ∧ a ≤ 10) (hb : -10 ≤ b ∧ b ≤ 10) (w : World) : Calls Try.prog 90 #[.int .i64 a, .int .i64 b] w fun e w' => e = .returned (.int .i64 (mid a b)) ∧ w = w' := by
  have hmod := tmod2 (a + b)
  have hdiv := tdiv2 (a + b)
  have HV := Lib.hid (show mid a b = (a + b) / 2 from rfl)
  by_cases h2 : (a + b) % 2 = 0
  · have hb0 : ((a + b).tmod 2 != 0) = false := by rw [hmod]; simpa using h2
    have hd : (a + b).tdiv 2 = (a + b) / 2 := by rw [hdiv, if_neg (fun h => h.2 h2)]
    have HD := Lib.hid hd
    clear hd hdiv hmod h2
    go_enter Try.func90, Try.ntmps90
    go_wp2_with fail
    go_ret
    exact ⟨ret_of (by rw [HV.out, ← HD.out]; rfl), rfl⟩
  · have hb0 : ((a + b).tmod 2 != 0) = true := by rw [hmod]; simpa using h2
    by_cases h0 : a + b < 0
    · have b0 : decide (a + b < 0) = true := by simpa using h0
      have hd : (a + b).tdiv 2 = (a + b) / 2 + 1 := by rw [hdiv, if_pos ⟨h0, h2⟩]
      have HW := Lib.hid (show wrap64 ((a + b).tdiv 2 - 1) = (a + b) / 2 by rw [hd, show (a + b) / 2 + 1 - 1 = (a + b) / 2 by omega]; exact IntWalk.wrap64_in _ (by omega))
      clear hd hdiv hmod h2 h0
      go_enter Try.func90, Try.ntmps90
      go_wp2_with fail
      go_ret
      exact ⟨ret_of (by rw [HV.out, ← HW.out]; rfl), rfl⟩
    · have b0 : decide (a + b < 0) = false := by simpa using h0
      have hd : (a + b).tdiv 2 = (a + b) / 2 := by rw [hdiv, if_neg (fun h => h0 h.1)]
      have HD := Lib.hid hd
      clear hd hdiv hmod h2 h0
      go_enter Try.func90, Try.ntmps90
      go_wp2_with fail
      go_ret
      exact ⟨ret_of (by rw [HV.out, ← HD.out]; rfl), rfl⟩
/-- ways out with two new blocks -/
def twoQ (F : Nat → Nat → Act) (S : Nat → Nat → World → Prop) : Exit → Act → World → Prop
  | .normal, a, w => ∃ g h, a = F g h ∧ S g h w
  | _, _, _ => False
structure TwoB (V : World) (t : TypeId) (cs : Array Value) (g h : Nat) (W : World) : Prop where
  one : Blk W g t cs
  two : Blk W h t cs
  ge : V.heap.size ≤ g ∧ V.heap.size ≤ h ∧ g ≠ h
  ext : Ext V W
theorem two_new (V : World) (t : TypeId) (cs : Array Value) : TwoB V t cs V.heap.size (V.heap.size + 1) ((V.alloc (.cells cs t)).alloc (.cells cs t)).drew :=
  ⟨((Blk.new V t cs).alloc _).drew, (Blk.new' (V.alloc (.cells cs t)) t cs _ (by simp)).drew, ⟨Nat.le_refl _, by omega, by omega⟩, (((Ext.refl V).alloc _).alloc _).drew⟩
theorem TwoB.swap {V : World} {t : TypeId} {cs : Array Value} {g h : Nat} {W : World} (x : TwoB V t cs g h W) : TwoB V t cs h g W :=
  ⟨x.two, x.one, ⟨x.ge.2.1, x.ge.1, fun e => x.ge.2.2 e.symm⟩, x.ext⟩
set_option maxRecDepth 100000 in
set_option maxHeartbeats 4000000 in
theorem halves_any (k : Bk) (hx0 : -4 ≤ k.x0 ∧ k.x0 ≤ 4) (hx1 : -4 ≤ k.x1 ∧ k.x1 ≤ 4) (hy0 : -4 ≤ k.y0 ∧ k.y0 ≤ 4) (hy1 : -4 ≤ k.y1 ∧ k.y1 ≤ 4) (w : World) : Calls Try.prog 83 #[k.val] w fun e w' => e = .returned (.tuple #[(loK k).val, (hiK k).val]) ∧ Ext w w' := by
  have C1 := Lib.hid (fun w => middle_any k.x0 k.x1 (by omega) (by omega) w)
  have C2 := Lib.hid (fun w => middle_any k.y0 k.y1 (by omega) (by omega) w)
  have hm1 : -4 ≤ mid k.x0 k.x1 ∧ mid k.x0 k.x1 ≤ 4 := by unfold mid; omega
  have hm2 : -4 ≤ mid k.y0 k.y1 ∧ mid k.y0 k.y1 ≤ 4 := by unfold mid; omega
  have hmx : Try.prog.follows .mixedOrders = true := by kernel_rfl
  have HL := Lib.hid (show loK k = if k.y1 - k.y0 ≤ k.x1 - k.x0 then { k with x1 := mid k.x0 k.x1 } else { k with y1 := mid k.y0 k.y1 } from rfl)
  have HH := Lib.hid (show hiK k = if k.y1 - k.y0 ≤ k.x1 - k.x0 then { k with x0 := mid k.x0 k.x1 + 1 } else { k with y0 := mid k.y0 k.y1 + 1 } from rfl)
  generalize mid k.x0 k.x1 = mx at *
  generalize mid k.y0 k.y1 = my at *
  go_enter Try.func83, Try.ntmps83
  go_wp2_with fail
  have HB := Lib.hid (((Blk.new w 40 #[.int .i64 k.turn, .int .i64 k.x0, .int .i64 k.y0, .int .i64 k.x1, .int .i64 k.y1]).alloc (.cells #[.int .i64 0, .int .i64 0, .int .i64 0, .int .i64 0, .int .i64 0] 40)).alloc (.cells #[.int .i64 0, .int .i64 0, .int .i64 0, .int .i64 0, .int .i64 0] 40))
  have HZ1 := Lib.hid ((Blk.new' (w.alloc (.cells #[.int .i64 k.turn, .int .i64 k.x0, .int .i64 k.y0, .int .i64 k.x1, .int .i64 k.y1] 40)) 40 #[.int .i64 0, .int .i64 0, .int .i64 0, .int .i64 0, .int .i64 0] (w.heap.size + 1) (by simp)).alloc (.cells #[.int .i64 0, .int .i64 0, .int .i64 0, .int .i64 0, .int .i64 0] 40))
  have HZ2 := Lib.hid (Blk.new' ((w.alloc (.cells #[.int .i64 k.turn, .int .i64 k.x0, .int .i64 k.y0, .int .i64 k.x1, .int .i64 k.y1] 40)).alloc (.cells #[.int .i64 0, .int .i64 0, .int .i64 0, .int .i64 0, .int .i64 0] 40)) 40 #[.int .i64 0, .int .i64 0, .int .i64 0, .int .i64 0, .int .i64 0] (w.heap.size + 1 + 1) (by simp))
  have HE := Lib.hid ((((Ext.refl w).alloc (.cells #[.int .i64 k.turn, .int .i64 k.x0, .int .i64 k.y0, .int .i64 k.x1, .int .i64 k.y1] 40)).alloc (.cells #[.int .i64 0, .int .i64 0, .int .i64 0, .int .i64 0, .int .i64 0] 40)).alloc (.cells #[.int .i64 0, .int .i64 0, .int .i64 0, .int .i64 0, .int .i64 0] 40))
  generalize ((w.alloc (.cells #[.int .i64 k.turn, .int .i64 k.x0, .int .i64 k.y0, .int .i64 k.x1, .int .i64 k.y1] 40)).alloc (.cells #[.int .i64 0, .int .i64 0, .int .i64 0, .int .i64 0, .int .i64 0] 40)).alloc (.cells #[.int .i64 0, .int .i64 0, .int .i64 0, .int .i64 0, .int .i64 0] 40) = V at *
  have oB := Old.mk HB.out.lt
  have o1 := Old.mk HZ1.out.lt
  have o2 := Old.mk HZ2.out.lt
  have b0 : V.cell? ⟨w.heap.size, 0, none⟩ = some (.int .i64 k.turn) := HB.out.cell 0
  have b1 : V.cell? ⟨w.heap.size, 1, none⟩ = some (.int .i64 k.x0) := HB.out.cell 1
  have b2 : V.cell? ⟨w.heap.size, 2, none⟩ = some (.int .i64 k.y0) := HB.out.cell 2
  have b3 : V.cell? ⟨w.heap.size, 3, none⟩ = some (.int .i64 k.x1) := HB.out.cell 3
  have b4 : V.cell? ⟨w.heap.size, 4, none⟩ = some (.int .i64 k.y1) := HB.out.cell 4
  refine Code.wp_mono (Q := twoQ (fun gl gr => { tmps := #[k.val, .pointer (some ⟨w.heap.size, 0, none⟩), .pointer (some ⟨w.heap.size + 1, 0, none⟩), .pointer (some ⟨w.heap.size + 1 + 1, 0, none⟩), .pointer (some ⟨gl, 0, none⟩), .pointer (some ⟨gr, 0, none⟩), k.val, k.val, undef, undef, undef, undef, undef, undef, undef, undef, undef, undef, undef, undef, undef, undef, undef, undef, undef, undef, undef, undef, undef, undef, undef, undef, undef, undef, undef, undef, undef, undef, undef, undef, undef], defers := [] }) (TwoB V 40 #[.int .i64 k.turn, .int .i64 k.x0, .int .i64 k.y0, .int .i64 k.x1, .int .i64 k.y1])) ?_ ?_
  rotate_left
  · have S1 := two_new V 40 #[.int .i64 k.turn, .int .i64 k.x0, .int .i64 k.y0, .int .i64 k.x1, .int .i64 k.y1]
    have S2 := S1.swap
    go_region_law fail
    all_goals first | exact ⟨_, _, rfl, S1⟩ | exact ⟨_, _, rfl, S2⟩
  intro e a' W he
  cases e with
  | normal =>
    obtain ⟨gl, gr, rfl, hS⟩ := he
    dsimp only
    have hEE := HE.out.trans hS.ext
    have bB := HB.out.grow hS.ext
    have bZ1 := HZ1.out.grow hS.ext
    have bZ2 := HZ2.out.grow hS.ext
    obtain ⟨g1, g2, g3⟩ := hS.ge
    have hV := HZ2.out.lt
    clear b0 b1 b2 b3 b4 oB o1 o2
    have b0 : W.cell? ⟨w.heap.size, 0, none⟩ = some (.int .i64 k.turn) := bB.cell 0
    have b1 : W.cell? ⟨w.heap.size, 1, none⟩ = some (.int .i64 k.x0) := bB.cell 1
    have b2 : W.cell? ⟨w.heap.size, 2, none⟩ = some (.int .i64 k.y0) := bB.cell 2
    have b3 : W.cell? ⟨w.heap.size, 3, none⟩ = some (.int .i64 k.x1) := bB.cell 3
    have b4 : W.cell? ⟨w.heap.size, 4, none⟩ = some (.int .i64 k.y1) := bB.cell 4
    have l0 : W.cell? ⟨gl, 0, none⟩ = some (.int .i64 k.turn) := hS.one.cell 0
    have l1 : W.cell? ⟨gl, 1, none⟩ = some (.int .i64 k.x0) := hS.one.cell 1
    have l2 : W.cell? ⟨gl, 2, none⟩ = some (.int .i64 k.y0) := hS.one.cell 2
    have l3 : W.cell? ⟨gl, 3, none⟩ = some (.int .i64 k.x1) := hS.one.cell 3
    have l4 : W.cell? ⟨gl, 4, none⟩ = some (.int .i64 k.y1) := hS.one.cell 4
    have r0 : W.cell? ⟨gr, 0, none⟩ = some (.int .i64 k.turn) := hS.two.cell 0
    have r1 : W.cell? ⟨gr, 1, none⟩ = some (.int .i64 k.x0) := hS.two.cell 1
    have r2 : W.cell? ⟨gr, 2, none⟩ = some (.int .i64 k.y0) := hS.two.cell 2
    have r3 : W.cell? ⟨gr, 3, none⟩ = some (.int .i64 k.x1) := hS.two.cell 3
    have r4 : W.cell? ⟨gr, 4, none⟩ = some (.int .i64 k.y1) := hS.two.cell 4
    have p0 : W.cell? ⟨w.heap.size + 1, 0, none⟩ = some (.int .i64 0) := bZ1.cell 0
    have p1 : W.cell? ⟨w.heap.size + 1, 1, none⟩ = some (.int .i64 0) := bZ1.cell 1
    have p2 : W.cell? ⟨w.heap.size + 1, 2, none⟩ = some (.int .i64 0) := bZ1.cell 2
    have p3 : W.cell? ⟨w.heap.size + 1, 3, none⟩ = some (.int .i64 0) := bZ1.cell 3
    have p4 : W.cell? ⟨w.heap.size + 1, 4, none⟩ = some (.int .i64 0) := bZ1.cell 4
    have q0 : W.cell? ⟨w.heap.size + 1 + 1, 0, none⟩ = some (.int .i64 0) := bZ2.cell 0
    have q1 : W.cell? ⟨w.heap.size + 1 + 1, 1, none⟩ = some (.int .i64 0) := bZ2.cell 1
    have q2 : W.cell? ⟨w.heap.size + 1 + 1, 2, none⟩ = some (.int .i64 0) := bZ2.cell 2
    have q3 : W.cell? ⟨w.heap.size + 1 + 1, 3, none⟩ = some (.int .i64 0) := bZ2.cell 3
    have q4 : W.cell? ⟨w.heap.size + 1 + 1, 4, none⟩ = some (.int .i64 0) := bZ2.cell 4
    have dglgr : Nonempty (Diff (gl) (gr)) := ⟨by unfold Diff; omega⟩
    have dglw0 : Nonempty (Diff (gl) (w.heap.size)) := ⟨by unfold Diff; omega⟩
    have dglw1 : Nonempty (Diff (gl) (w.heap.size + 1)) := ⟨by unfold Diff; omega⟩
    have dglw2 : Nonempty (Diff (gl) (w.heap.size + 1 + 1)) := ⟨by unfold Diff; omega⟩
    have dgrgl : Nonempty (Diff (gr) (gl)) := ⟨by unfold Diff; omega⟩
    have dgrw0 : Nonempty (Diff (gr) (w.heap.size)) := ⟨by unfold Diff; omega⟩
    have dgrw1 : Nonempty (Diff (gr) (w.heap.size + 1)) := ⟨by unfold Diff; omega⟩
    have dgrw2 : Nonempty (Diff (gr) (w.heap.size + 1 + 1)) := ⟨by unfold Diff; omega⟩
    have dw0gl : Nonempty (Diff (w.heap.size) (gl)) := ⟨by unfold Diff; omega⟩
    have dw0gr : Nonempty (Diff (w.heap.size) (gr)) := ⟨by unfold Diff; omega⟩
    have dw0w1 : Nonempty (Diff (w.heap.size) (w.heap.size + 1)) := ⟨by unfold Diff; omega⟩
    have dw0w2 : Nonempty (Diff (w.heap.size) (w.heap.size + 1 + 1)) := ⟨by unfold Diff; omega⟩
    have dw1gl : Nonempty (Diff (w.heap.size + 1) (gl)) := ⟨by unfold Diff; omega⟩
    have dw1gr : Nonempty (Diff (w.heap.size + 1) (gr)) := ⟨by unfold Diff; omega⟩
    have dw1w0 : Nonempty (Diff (w.heap.size + 1) (w.heap.size)) := ⟨by unfold Diff; omega⟩
    have dw1w2 : Nonempty (Diff (w.heap.size + 1) (w.heap.size + 1 + 1)) := ⟨by unfold Diff; omega⟩
    have dw2gl : Nonempty (Diff (w.heap.size + 1 + 1) (gl)) := ⟨by unfold Diff; omega⟩
    have dw2gr : Nonempty (Diff (w.heap.size + 1 + 1) (gr)) := ⟨by unfold Diff; omega⟩
    have dw2w0 : Nonempty (Diff (w.heap.size + 1 + 1) (w.heap.size)) := ⟨by unfold Diff; omega⟩
    have dw2w1 : Nonempty (Diff (w.heap.size + 1 + 1) (w.heap.size + 1)) := ⟨by unfold Diff; omega⟩
    have fl := hS.one.frozen
    have fr := hS.two.frozen
    have f1 := bZ1.frozen
    have f2 := bZ2.frozen
    clear hS bB bZ1 bZ2 HB HZ1 HZ2
    by_cases hc : k.y1 - k.y0 ≤ k.x1 - k.x0
    · have HL2 := Lib.hid (HL.out.trans (if_pos hc))
      have HH2 := Lib.hid (HH.out.trans (if_pos hc))
      have hcb : decide (k.y1 - k.y0 ≤ k.x1 - k.x0) = true := by simpa using hc
      clear hc
      go_wp2_with fail
      refine Calls.same (C1.out _) ?_
      go_wp2_with fail
      go_region_law fail
      all_goals
        go_wp2_with fail
        refine bodyPost_ret (v := .tuple #[.agg #[.int .i64 (k.turn), .int .i64 (k.x0), .int .i64 (k.y0), .int .i64 (mx), .int .i64 (k.y1)], .agg #[.int .i64 (k.turn), .int .i64 (mx + 1), .int .i64 (k.y0), .int .i64 (k.x1), .int .i64 (k.y1)]]) (by simp [results, Try.results83, go_sem, p0, p1, p2, p3, p4, q0, q1, q2, q3, q4]) rfl ⟨ret_of (by rw [HL2.out, HH2.out]), ?_⟩
        repeat' (first | with_reducible exact hEE | with_reducible refine Ext.drew ?_ | with_reducible refine Ext.setCell ?_ (by dsimp only; omega) _)
    · have HL2 := Lib.hid (HL.out.trans (if_neg hc))
      have HH2 := Lib.hid (HH.out.trans (if_neg hc))
      have hcb : decide (k.y1 - k.y0 ≤ k.x1 - k.x0) = false := by simpa using hc
      clear hc
      go_wp2_with fail
      refine Calls.same (C2.out _) ?_
      go_wp2_with fail
      go_region_law fail
      all_goals
        go_wp2_with fail
        refine bodyPost_ret (v := .tuple #[.agg #[.int .i64 (k.turn), .int .i64 (k.x0), .int .i64 (k.y0), .int .i64 (k.x1), .int .i64 (my)], .agg #[.int .i64 (k.turn), .int .i64 (k.x0), .int .i64 (my + 1), .int .i64 (k.x1), .int .i64 (k.y1)]]) (by simp [results, Try.results83, go_sem, p0, p1, p2, p3, p4, q0, q1, q2, q3, q4]) rfl ⟨ret_of (by rw [HL2.out, HH2.out]), ?_⟩
        repeat' (first | with_reducible exact hEE | with_reducible refine Ext.drew ?_ | with_reducible refine Ext.setCell ?_ (by dsimp only; omega) _)
  | _ => exact he.elim
end Go.Proofs.Ythejomcibobieaa
