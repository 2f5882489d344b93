/- distance: the best turn. -/
import Derived.RangeFuncFrom
import Derived.Test.YtcacbolbedhcoaaOrders
namespace Go.Proofs.Ytcacbolbedhcoaa
open Go.RowKit Go.Shelf
attribute [local go_sem] Oper.semAt_some

theorem orders_stops (n : Nat) (hn : 1 ≤ n) (Bn m : Nat) (hm : m ≤ 7) (w : World) (hB : Bn < w.heap.size) (hc : w.cell? ⟨Bn, 0, none⟩ = some (.int .i64 m)) :
    SeqStopsK Fence.wide n Try.prog 70 #[.pointer (some ⟨Bn, 0, none⟩)] (fun x : T7 => #[.int .i64 x.1]) (fun _ _ => True) (fun xs => xs = ordL (m + 1)) (fun _ => True) (2 * m + 1) w :=
  fun l J Jx W hW _ _ hY h0 => orders1_in n hn l Bn m hm J Jx hY W ((hW.cell (p := ⟨Bn, 0, none⟩) hB).trans hc) h0

def partP (a b : Ir) (t : Int) : Pt := ⟨ctr (turnI' a t) b, cdn (turnI' a t) b, t⟩
def stepP (a b : Ir) (best : Pt) (t : T7) : Pt := if decide (16 ≤ (partP a b t.1).den) && lessP (partP a b t.1) best then partP a b t.1 else best
def bestP (a b : Ir) (l : List T7) : Pt := l.foldl (stepP a b) ⟨0, 0, 0⟩
theorem bestP_snoc (a b : Ir) (l : List T7) (t : T7) : bestP a b (l ++ [t]) = stepP a b (bestP a b l) t := by simp [bestP]
abbrev Pt.cells (p : Pt) : Array Value := #[.int .i64 p.num, .int .i64 p.den, .int .i64 p.turn]

theorem ext_ex {w w' : World} (h : Ext w w') : ∃ z, w' = ext w z := ⟨w', (ext_of h).symm⟩
theorem keeps_ext {W W' : World} (h : Ext W W') : KeepsOthers W W' :=
  ⟨h.size, fun k _ hk _ => (Below.block h k (Array.getElem?_eq_some_iff.1 hk).1).trans hk⟩
theorem blk_own {W W' : World} {g : Nat} {t : TypeId} {cs : Array Value} {row : Option Nat} (h : Blk W g t cs) (hg : W.grownBy W' row) (hr : ∀ r, row = some r → ∃ o : Obj, W.heap[r]? = some o ∧ o.isCells = false) : Blk W' g t cs := by
  refine (hg.block g h.lt ?_).trans h
  intro e
  obtain ⟨o, ho, hc⟩ := hr g e.symm
  unfold Blk at h
  rw [ho] at h
  injection h with h
  subst h
  cases hc

theorem cpop_le (x : BitVec 64) : cpop x ≤ 64 := by
  have : ∀ n, ((List.range n).map fun i => (x.getLsbD i).toNat).sum ≤ n := by
    intro n
    induction n with
    | zero => simp
    | succ n ih =>
      rw [List.range_succ, List.map_append, List.sum_append]
      have := Bool.toNat_le (x.getLsbD n)
      simp only [List.map_cons, List.map_nil, List.sum_cons, List.sum_nil]
      omega
  exact this 64
theorem part_fit (a b : Ir) (t : Int) : (partP a b t).fit := by
  have h1 := cpop_le (((turnI' a t).code ^^^ b.code) &&& ((turnI' a t).mask &&& b.mask))
  have h2 := cpop_le ((turnI' a t).mask &&& b.mask)
  refine ⟨?_, ?_, ?_, ?_⟩ <;> simp only [partP, ctr, cdn] <;> omega
theorem step_fit (a b : Ir) (p : Pt) (t : T7) (h : p.fit) : (stepP a b p t).fit := by
  unfold stepP
  have hp := part_fit a b t.1
  generalize partP a b t.1 = q at *
  cases (decide (16 ≤ q.den) && lessP q p)
  · exact h
  · exact hp
theorem fold_fit (a b : Ir) (l : List T7) : ∀ p : Pt, p.fit → (l.foldl (stepP a b) p).fit := by
  induction l with
  | nil => intro p h; exact h
  | cons t r ih => intro p h; rw [List.foldl_cons]; exact ih _ (step_fit a b p t h)
theorem best_fit (a b : Ir) (l : List T7) : (bestP a b l).fit := fold_fit a b l _ (by unfold Pt.fit; simp)

set_option maxRecDepth 100000 in
set_option maxHeartbeats 2000000 in
theorem distance_any (a b : Ir) (m : Nat) (hm : m ≤ 7) (w : World) : Calls Try.prog 55 #[a.val, b.val, .int .i64 m] w fun e w' => e = .returned (bestP a b (ordL (m + 1))).val ∧ Ext w w' := by
  refine (callsIn_wide (n := 4)).1 ?_
  refine callsIn_of_wp_marks Try.func55 rfl trivial ?_ rfl
  simp only [Try.ntmps55, List.size_toArray, List.length_cons, List.length_nil, Nat.reduceAdd, Nat.reduceSub, Array.replicate_succ, Array.replicate_zero, List.push_toArray, List.append_toArray, List.nil_append, List.cons_append]
  gi_wp2_with (refine ⟨trivial, ?_⟩; gi_at_call 66; refine (callsIn_wide.2 (orders_any _ _)).mono ?_; rintro e w' ⟨rfl, rfl⟩)
  have b0 := Lib.hid (((((Blk.new w 27 #[.int .u64 (uw a.code), .int .u64 (uw a.mask)]).alloc (.cells #[.int .u64 (uw b.code), .int .u64 (uw b.mask)] 27)).alloc (.cells #[.int .i64 0, .int .i64 0, .int .i64 0] 98)).alloc (.cells #[.int .i64 0, .int .i64 0, .int .i64 0] 98)).alloc (.cells #[.int .i64 m] 3))
  have b1 := Lib.hid ((((Blk.new' (w.alloc (.cells #[.int .u64 (uw a.code), .int .u64 (uw a.mask)] 27)) 27 #[.int .u64 (uw b.code), .int .u64 (uw b.mask)] (w.heap.size + 1) (by simp)).alloc (.cells #[.int .i64 0, .int .i64 0, .int .i64 0] 98)).alloc (.cells #[.int .i64 0, .int .i64 0, .int .i64 0] 98)).alloc (.cells #[.int .i64 m] 3))
  have b2 := Lib.hid (((Blk.new' ((w.alloc (.cells #[.int .u64 (uw a.code), .int .u64 (uw a.mask)] 27)).alloc (.cells #[.int .u64 (uw b.code), .int .u64 (uw b.mask)] 27)) 98 #[.int .i64 0, .int .i64 0, .int .i64 0] (w.heap.size + 1 + 1) (by simp)).alloc (.cells #[.int .i64 0, .int .i64 0, .int .i64 0] 98)).alloc (.cells #[.int .i64 m] 3))
  have b3 := Lib.hid ((Blk.new' (((w.alloc (.cells #[.int .u64 (uw a.code), .int .u64 (uw a.mask)] 27)).alloc (.cells #[.int .u64 (uw b.code), .int .u64 (uw b.mask)] 27)).alloc (.cells #[.int .i64 0, .int .i64 0, .int .i64 0] 98)) 98 #[.int .i64 0, .int .i64 0, .int .i64 0] (w.heap.size + 1 + 1 + 1) (by simp)).alloc (.cells #[.int .i64 m] 3))
  have b4 := Lib.hid (Blk.new' ((((w.alloc (.cells #[.int .u64 (uw a.code), .int .u64 (uw a.mask)] 27)).alloc (.cells #[.int .u64 (uw b.code), .int .u64 (uw b.mask)] 27)).alloc (.cells #[.int .i64 0, .int .i64 0, .int .i64 0] 98)).alloc (.cells #[.int .i64 0, .int .i64 0, .int .i64 0] 98)) 3 #[.int .i64 m] (w.heap.size + 1 + 1 + 1 + 1) (by simp))
  have e0 := Lib.hid ((((((Ext.refl w).alloc (.cells #[.int .u64 (uw a.code), .int .u64 (uw a.mask)] 27)).alloc (.cells #[.int .u64 (uw b.code), .int .u64 (uw b.mask)] 27)).alloc (.cells #[.int .i64 0, .int .i64 0, .int .i64 0] 98)).alloc (.cells #[.int .i64 0, .int .i64 0, .int .i64 0] 98)).alloc (.cells #[.int .i64 m] 3))
  have s0 := Lib.hid (show (((((w.alloc (.cells #[.int .u64 (uw a.code), .int .u64 (uw a.mask)] 27)).alloc (.cells #[.int .u64 (uw b.code), .int .u64 (uw b.mask)] 27)).alloc (.cells #[.int .i64 0, .int .i64 0, .int .i64 0] 98)).alloc (.cells #[.int .i64 0, .int .i64 0, .int .i64 0] 98)).alloc (.cells #[.int .i64 m] 3)).heap.size = w.heap.size + 5 by simp)
  generalize ((((w.alloc (.cells #[.int .u64 (uw a.code), .int .u64 (uw a.mask)] 27)).alloc (.cells #[.int .u64 (uw b.code), .int .u64 (uw b.mask)] 27)).alloc (.cells #[.int .i64 0, .int .i64 0, .int .i64 0] 98)).alloc (.cells #[.int .i64 0, .int .i64 0, .int .i64 0] 98)).alloc (.cells #[.int .i64 m] 3) = W0 at *
  have hc4 : W0.cell? ⟨w.heap.size + 1 + 1 + 1 + 1, 0, none⟩ = some (.int .i64 m) := b4.out.cell 0
  refine wpIn_rangeFunc_ownF rfl (by omega) (gf := 70) (lb := #[.pointer (some ⟨w.heap.size + 1 + 1 + 1 + 1, 0, none⟩)]) rfl trivial (enters_of Try.func70 (by kernel_rfl) rfl)
    (orders_stops 3 (by omega) (w.heap.size + 1 + 1 + 1 + 1) m hm W0 (by rw [s0.out]; omega) hc4) (fun _ _ => trivial) (fun _ _ _ _ _ _ _ _ => trivial) (Below.refl _ _) (fun _ => rfl)
    (fun pre W => (Blk W w.heap.size 27 #[.int .u64 (uw a.code), .int .u64 (uw a.mask)] ∧ Blk W (w.heap.size + 1) 27 #[.int .u64 (uw b.code), .int .u64 (uw b.mask)] ∧ Blk W (w.heap.size + 1 + 1) 98 #[.int .i64 0, .int .i64 0, .int .i64 0] ∧ Blk W (w.heap.size + 1 + 1 + 1) 98 (bestP a b pre).cells) ∧ Below w.heap.size w W)
    (fun _ _ _ => False)
    (OwnFrom.and (Own.from (fun s A B row hs hg hr => ⟨blk_own hs.1 hg hr, blk_own hs.2.1 hg hr, blk_own hs.2.2.1 hg hr, blk_own hs.2.2.2 hg hr⟩) _) (ownFrom_below (Nat.le_refl _) (by rw [s0.out]; omega)))
    (fun _ _ _ _ _ hs _ _ => hs)
    ⟨⟨b0.out, b1.out, b2.out, b3.out⟩, e0.out⟩
    (fun x => { tmps := #[a.val, b.val, .int .i64 m, .pointer (some ⟨w.heap.size, 0, none⟩), .pointer (some ⟨w.heap.size + 1, 0, none⟩), undef, .pointer (some ⟨w.heap.size + 1 + 1, 0, none⟩), .pointer (some ⟨w.heap.size + 1 + 1 + 1, 0, none⟩), .int .i64 x.1, undef, undef, undef, .int .i64 m, .func (.func 70) #[] #[.pointer (some ⟨w.heap.size + 1 + 1 + 1 + 1, 0, none⟩)], .int .i64 x.1, undef, undef, undef, undef, undef, undef, undef, undef, undef, undef, undef, undef, undef, undef, undef, undef, undef, undef, undef, undef, undef], defers := [] }) ?assign ?body ?done ?stop
  case assign =>
    intro l x W K hK
    gi_wp2
    exact hK
  case body =>
    rintro l pre x W ⟨⟨c0, c1, c2, c3⟩, hB⟩ _
    have HI := Lib.hid (show (Blk W w.heap.size 27 #[.int .u64 (uw a.code), .int .u64 (uw a.mask)] ∧ Blk W (w.heap.size + 1) 27 #[.int .u64 (uw b.code), .int .u64 (uw b.mask)] ∧ Blk W (w.heap.size + 1 + 1) 98 #[.int .i64 0, .int .i64 0, .int .i64 0] ∧ Blk W (w.heap.size + 1 + 1 + 1) 98 (bestP a b pre).cells) ∧ Below w.heap.size w W from ⟨⟨c0, c1, c2, c3⟩, hB⟩)
    have hmx : Try.prog.follows .mixedOrders = true := by kernel_rfl
    have a0 : W.cell? ⟨w.heap.size, 0, none⟩ = some (.int .u64 (uw a.code)) := c0.cell 0
    have a1 : W.cell? ⟨w.heap.size, 1, none⟩ = some (.int .u64 (uw a.mask)) := c0.cell 1
    have d0 : W.cell? ⟨w.heap.size + 1, 0, none⟩ = some (.int .u64 (uw b.code)) := c1.cell 0
    have d1 : W.cell? ⟨w.heap.size + 1, 1, none⟩ = some (.int .u64 (uw b.mask)) := c1.cell 1
    have hb0 := Old.mk c0.lt
    have hb1 := Old.mk c1.lt
    have hb3 := Old.mk c3.lt
    have p0 : W.cell? ⟨w.heap.size + 1 + 1 + 1, 0, none⟩ = some (.int .i64 (bestP a b pre).num) := c3.cell 0
    have p1 : W.cell? ⟨w.heap.size + 1 + 1 + 1, 1, none⟩ = some (.int .i64 (bestP a b pre).den) := c3.cell 1
    have p2 : W.cell? ⟨w.heap.size + 1 + 1 + 1, 2, none⟩ = some (.int .i64 (bestP a b pre).turn) := c3.cell 2
    have pf := c3.frozen
    have Hsn := Lib.hid (bestP_snoc a b pre x)
    clear c0 c1 c2 c3 hB
    gi_wp2
    refine wpIn_mono (Q := fun e a' w' => e = Exit.normal ∧ a' = { tmps := #[a.val, b.val, .int .i64 m, .pointer (some ⟨w.heap.size, 0, none⟩), .pointer (some ⟨w.heap.size + 1, 0, none⟩), undef, .pointer (some ⟨w.heap.size + 1 + 1, 0, none⟩), .pointer (some ⟨w.heap.size + 1 + 1 + 1, 0, none⟩), .int .i64 x.1, .int .i64 (ctr (turnI' a x.1) b), .int .i64 (cdn (turnI' a x.1) b), undef, .int .i64 m, .func (.func 70) #[] #[.pointer (some ⟨w.heap.size + 1 + 1 + 1 + 1, 0, none⟩)], .int .i64 x.1, .tuple #[.int .i64 (ctr (turnI' a x.1) b), .int .i64 (cdn (turnI' a x.1) b)], .agg #[.int .u64 (uw a.code), .int .u64 (uw a.mask)], .int .i64 x.1, (turnI' a x.1).val, .agg #[.int .u64 (uw b.code), .int .u64 (uw b.mask)], .tuple #[.int .i64 (ctr (turnI' a x.1) b), .int .i64 (cdn (turnI' a x.1) b)], .int .i64 (ctr (turnI' a x.1) b), .int .i64 (cdn (turnI' a x.1) b), undef, undef, undef, undef, undef, undef, undef, undef, undef, undef, undef, undef, undef], defers := [] } ∧ ∃ z, w' = ext W z) ?_ ?_
    · gi_region_with_o (first | (refine ⟨trivial, ?_⟩; gi_at_call 48; refine (CallsIn.inRound l (callsIn_wide.2 (turn_any a x.1 _ x.2))).mono ?_; rintro e w' ⟨rfl, hw'⟩; obtain ⟨z1, rfl⟩ := ext_ex hw'; clear hw') | (refine ⟨trivial, ?_⟩; gi_at_call 53; refine (CallsIn.inRound l (callsIn_wide.2 (compare_any (turnI' a x.1) b _))).mono ?_; rintro e w' ⟨rfl, hw'⟩; obtain ⟨z2, rfl⟩ := ext_ex hw'; clear hw'))
      all_goals exact ⟨rfl, rfl, _, (ext_of ((((Ext.refl W).drew).ext _).ext _)).symm⟩
    rintro _ _ _ ⟨rfl, rfl, z, rfl⟩
    have hfp : (partP a b x.1).fit := part_fit a b x.1
    have hfb : (bestP a b pre).fit := best_fit a b pre
    cases h16 : decide (16 ≤ (partP a b x.1).den)
    · have Hst := Lib.hid (show stepP a b (bestP a b pre) x = bestP a b pre by simp [stepP, h16])
      clear hfp hfb
      unfold partP at h16
      gi_wp2
      refine ⟨trivial, ?_⟩
      gi_wp2
      have hE := ((Ext.refl W).ext z).alloc (.cells #[.int .i64 (ctr (turnI' a x.1) b), .int .i64 (cdn (turnI' a x.1) b), .int .i64 x.1] 98)
      refine ⟨keeps_ext hE, trivial, ⟨⟨HI.out.1.1.grow hE, HI.out.1.2.1.grow hE, HI.out.1.2.2.1.grow hE, ?_⟩, Ext.trans HI.out.2 hE⟩⟩
      rw [Hsn.out, Hst.out]
      exact HI.out.1.2.2.2.grow hE
    · cases hls : lessP (partP a b x.1) (bestP a b pre)
      · have Hst := Lib.hid (show stepP a b (bestP a b pre) x = bestP a b pre by simp [stepP, hls])
        have C := Lib.hid (fun w => hls ▸ less_any (partP a b x.1) (bestP a b pre) w hfp hfb)
        clear hls hfp hfb
        unfold partP at h16 C
        gi_wp2_with (refine ⟨trivial, ?_⟩; gi_at_call 61; refine (CallsIn.inRound l (callsIn_wide.2 (C.out _))).mono ?_; rintro e w' ⟨rfl, hw'⟩; obtain ⟨z2, rfl⟩ := ext_ex hw'; clear hw')
        have hE := (((Ext.refl W).ext z).alloc (.cells #[.int .i64 (ctr (turnI' a x.1) b), .int .i64 (cdn (turnI' a x.1) b), .int .i64 x.1] 98)).ext z2
        refine ⟨keeps_ext hE, trivial, ⟨⟨HI.out.1.1.grow hE, HI.out.1.2.1.grow hE, HI.out.1.2.2.1.grow hE, ?_⟩, Ext.trans HI.out.2 hE⟩⟩
        rw [Hsn.out, Hst.out]
        exact HI.out.1.2.2.2.grow hE
      · have Hst := Lib.hid (show stepP a b (bestP a b pre) x = partP a b x.1 by simp [stepP, h16, hls])
        have C := Lib.hid (fun w => hls ▸ less_any (partP a b x.1) (bestP a b pre) w hfp hfb)
        clear hls hfp hfb
        unfold partP at h16 C
        gi_wp2_with (refine ⟨trivial, ?_⟩; gi_at_call 61; refine (CallsIn.inRound l (callsIn_wide.2 (C.out _))).mono ?_; rintro e w' ⟨rfl, hw'⟩; obtain ⟨z2, rfl⟩ := ext_ex hw'; clear hw')
        have hE := (((Ext.refl W).ext z).alloc (.cells #[.int .i64 (ctr (turnI' a x.1) b), .int .i64 (cdn (turnI' a x.1) b), .int .i64 x.1] 98)).ext z2
        refine ⟨(keeps_ext hE).trans (((KeepsOthers.setCell _ _ _).trans (KeepsOthers.setCell _ _ _)).trans (KeepsOthers.setCell _ _ _)), trivial, ⟨⟨?_, ?_, ?_, ?_⟩, ?_⟩⟩
        · exact (((HI.out.1.1.grow hE).far (by show w.heap.size ≠ w.heap.size + 1 + 1 + 1; omega) _).far (by show w.heap.size ≠ w.heap.size + 1 + 1 + 1; omega) _).far (by show w.heap.size ≠ w.heap.size + 1 + 1 + 1; omega) _
        · exact (((HI.out.1.2.1.grow hE).far (by show w.heap.size + 1 ≠ w.heap.size + 1 + 1 + 1; omega) _).far (by show w.heap.size + 1 ≠ w.heap.size + 1 + 1 + 1; omega) _).far (by show w.heap.size + 1 ≠ w.heap.size + 1 + 1 + 1; omega) _
        · exact (((HI.out.1.2.2.1.grow hE).far (by show w.heap.size + 1 + 1 ≠ w.heap.size + 1 + 1 + 1; omega) _).far (by show w.heap.size + 1 + 1 ≠ w.heap.size + 1 + 1 + 1; omega) _).far (by show w.heap.size + 1 + 1 ≠ w.heap.size + 1 + 1 + 1; omega) _
        · rw [Hsn.out, Hst.out]
          exact (((HI.out.1.2.2.2.grow hE).set_ 0 _).set_ 1 _).set_ 2 _
        · exact (((Ext.trans HI.out.2 hE).setCell (p := ⟨w.heap.size + 1 + 1 + 1, 0, none⟩) (by show w.heap.size ≤ w.heap.size + 1 + 1 + 1; omega) _).setCell (p := ⟨w.heap.size + 1 + 1 + 1, 1, none⟩) (by show w.heap.size ≤ w.heap.size + 1 + 1 + 1; omega) _).setCell (p := ⟨w.heap.size + 1 + 1 + 1, 2, none⟩) (by show w.heap.size ≤ w.heap.size + 1 + 1 + 1; omega) _
  case done =>
    rintro D ys W hD rfl ⟨⟨c0, c1, c2, c3⟩, hB⟩ hK
    obtain ⟨p, hp⟩ : ∃ p, bestP a b (ordL (m + 1)) = p := ⟨_, rfl⟩
    rw [hp] at c3
    have HP := Lib.hid hp
    clear hp
    have p0 : W.cell? ⟨w.heap.size + 1 + 1 + 1, 0, none⟩ = some (.int .i64 p.num) := c3.cell 0
    have p1 : W.cell? ⟨w.heap.size + 1 + 1 + 1, 1, none⟩ = some (.int .i64 p.den) := c3.cell 1
    have p2 : W.cell? ⟨w.heap.size + 1 + 1 + 1, 2, none⟩ = some (.int .i64 p.turn) := c3.cell 2
    have r0 : W.cell? ⟨w.heap.size + 1 + 1, 0, none⟩ = some (.int .i64 0) := c2.cell 0
    have r1 : W.cell? ⟨w.heap.size + 1 + 1, 1, none⟩ = some (.int .i64 0) := c2.cell 1
    have r2 : W.cell? ⟨w.heap.size + 1 + 1, 2, none⟩ = some (.int .i64 0) := c2.cell 2
    have rf := c2.frozen
    have HC2 := Lib.hid c2
    have HB := Lib.hid hB
    have HK := Lib.hid hK
    clear c0 c1 c2 c3 hB hK
    gi_wp2
    have HS := Lib.hid (((HC2.out.set_ 0 (.int .i64 p.num)).set_ 1 (.int .i64 p.den)).set_ 2 (.int .i64 p.turn))
    have HK2 := Lib.hid ((((KeepsOthers.setCell W ⟨w.heap.size + 1 + 1, 0, none⟩ (.int .i64 p.num)).trans (KeepsOthers.setCell _ ⟨w.heap.size + 1 + 1, 1, none⟩ (.int .i64 p.den))).trans (KeepsOthers.setCell _ ⟨w.heap.size + 1 + 1, 2, none⟩ (.int .i64 p.turn))).same D _ HK.out rfl)
    have HB2 : Hid (Below w.heap.size w (((W.setCell ⟨w.heap.size + 1 + 1, 0, none⟩ (.int .i64 p.num)).setCell ⟨w.heap.size + 1 + 1, 1, none⟩ (.int .i64 p.den)).setCell ⟨w.heap.size + 1 + 1, 2, none⟩ (.int .i64 p.turn))) :=
      Lib.hid (((HB.out.setCell (p := ⟨w.heap.size + 1 + 1, 0, none⟩) (by show w.heap.size ≤ w.heap.size + 1 + 1; omega) _).setCell (p := ⟨w.heap.size + 1 + 1, 1, none⟩) (by show w.heap.size ≤ w.heap.size + 1 + 1; omega) _).setCell (p := ⟨w.heap.size + 1 + 1, 2, none⟩) (by show w.heap.size ≤ w.heap.size + 1 + 1; omega) _)
    generalize ((W.setCell ⟨w.heap.size + 1 + 1, 0, none⟩ (.int .i64 p.num)).setCell ⟨w.heap.size + 1 + 1, 1, none⟩ (.int .i64 p.den)).setCell ⟨w.heap.size + 1 + 1, 2, none⟩ (.int .i64 p.turn) = Wf at *
    have q0 : Wf.cell? ⟨w.heap.size + 1 + 1, 0, none⟩ = some (.int .i64 p.num) := HS.out.cell 0
    have q1 : Wf.cell? ⟨w.heap.size + 1 + 1, 1, none⟩ = some (.int .i64 p.den) := HS.out.cell 1
    have q2 : Wf.cell? ⟨w.heap.size + 1 + 1, 2, none⟩ = some (.int .i64 p.turn) := HS.out.cell 2
    refine ⟨by simp, .inl ⟨_, _, rfl, run_takeDeferred HK2.out, ?_⟩⟩
    have k0 := cell_kept q0 (grownBy_putObj' _ D (.deferred none)) (fun r e => by cases e; exact ⟨_, HK2.out, rfl⟩)
    have k1 := cell_kept q1 (grownBy_putObj' _ D (.deferred none)) (fun r e => by cases e; exact ⟨_, HK2.out, rfl⟩)
    have k2 := cell_kept q2 (grownBy_putObj' _ D (.deferred none)) (fun r e => by cases e; exact ⟨_, HK2.out, rfl⟩)
    refine ⟨p.val, ?_, by rw [HP.out], ?_⟩
    · simp [results, Try.f55, go_sem, k0, k1, k2]
    · exact HB2.out.trans (belowK_b (w := w) (Nat.le_refl _) _ D _ _ (by have := s0.out; omega) HK2.out rfl rfl)
  case stop =>
    rintro D c pre W _ _ h _
    exact h.elim
end Go.Proofs.Ytcacbolbedhcoaa
