/- The reference: whether some move of a block and some bend bring two points together (may, 77). -/
import Derived.Test.YthejomcibobieaaAsked
import Derived.Test.YthejomcibobieaaParLaw
namespace Go.Proofs.Ythejomcibobieaa
open Go.RowKit

def mayB (c : Cl) (m o : Mi) (k : Bk) : Bool := parB c m o k.turn k.x0 k.x1 (fun _ => k.y0 - c.elastic) (fun _ => k.y1 + c.elastic)
set_option maxRecDepth 100000 in
set_option maxHeartbeats 8000000 in
theorem may_any (c : Cl) (hc : c.ok) (m o : Mi) (k : Bk) (hk : isBlk c k = true) (hm : m.ok) (ho : o.ok) (w : World) :
    Calls Try.prog 77 #[c.val, m.val, o.val, k.val] w fun e w' => e = .returned (.bool (mayB c m o k)) ∧ Ext w w' := by
  have hc1 := hc.turns
  have hc2 := hc.shift
  have hc3 := hc.elastic
  rw [isBlk_iff] at hk
  have HM := Lib.hid (par_may c m o k.turn k.x0 k.x1 k.y0 k.y1 hc (by omega) (by omega))
  have HAl := Lib.hid (fun (dx dy e : Int) (h1 : -4 ≤ dx ∧ dx ≤ 4) (h2 : -4 ≤ dy ∧ dy ≤ 4) (h3 : -1 ≤ e ∧ e ≤ 1) w => alike_any c m o ⟨k.turn, dx, dy⟩ (fun _ => e) hm ho (by show -3 ≤ k.turn ∧ k.turn ≤ 3; omega) h1 h2 (fun _ _ => h3) w)
  simp only [Mv.val, bendV] at HAl
  clear hm ho
  go_enter Try.func77, Try.ntmps77
  go_wp2_with fail
  have HC := Lib.hid ((((Blk.new w 38 #[.int .i64 c.turns, .int .i64 c.shift, .int .i64 c.elastic, .int .i64 c.reach, .int .i64 c.spread]).alloc (.cells #[.int .i64 m.x, .int .i64 m.y, .int .u8 m.kind, .int .u8 m.dir] 24)).alloc (.cells #[.int .i64 o.x, .int .i64 o.y, .int .u8 o.kind, .int .u8 o.dir] 24)).alloc (.cells #[.int .i64 k.turn, .int .i64 k.x0, .int .i64 k.y0, .int .i64 k.x1, .int .i64 k.y1] 40))
  have HP := Lib.hid (((Blk.new' (w.alloc (.cells #[.int .i64 c.turns, .int .i64 c.shift, .int .i64 c.elastic, .int .i64 c.reach, .int .i64 c.spread] 38)) 24 #[.int .i64 m.x, .int .i64 m.y, .int .u8 m.kind, .int .u8 m.dir] (w.heap.size + 1) (by simp)).alloc (.cells #[.int .i64 o.x, .int .i64 o.y, .int .u8 o.kind, .int .u8 o.dir] 24)).alloc (.cells #[.int .i64 k.turn, .int .i64 k.x0, .int .i64 k.y0, .int .i64 k.x1, .int .i64 k.y1] 40))
  have HO := Lib.hid ((Blk.new' ((w.alloc (.cells #[.int .i64 c.turns, .int .i64 c.shift, .int .i64 c.elastic, .int .i64 c.reach, .int .i64 c.spread] 38)).alloc (.cells #[.int .i64 m.x, .int .i64 m.y, .int .u8 m.kind, .int .u8 m.dir] 24)) 24 #[.int .i64 o.x, .int .i64 o.y, .int .u8 o.kind, .int .u8 o.dir] (w.heap.size + 1 + 1) (by simp)).alloc (.cells #[.int .i64 k.turn, .int .i64 k.x0, .int .i64 k.y0, .int .i64 k.x1, .int .i64 k.y1] 40))
  have HK := Lib.hid (Blk.new' (((w.alloc (.cells #[.int .i64 c.turns, .int .i64 c.shift, .int .i64 c.elastic, .int .i64 c.reach, .int .i64 c.spread] 38)).alloc (.cells #[.int .i64 m.x, .int .i64 m.y, .int .u8 m.kind, .int .u8 m.dir] 24)).alloc (.cells #[.int .i64 o.x, .int .i64 o.y, .int .u8 o.kind, .int .u8 o.dir] 24)) 40 #[.int .i64 k.turn, .int .i64 k.x0, .int .i64 k.y0, .int .i64 k.x1, .int .i64 k.y1] (w.heap.size + 1 + 1 + 1) (by simp))
  have HE := Lib.hid (((((Ext.refl w).alloc (.cells #[.int .i64 c.turns, .int .i64 c.shift, .int .i64 c.elastic, .int .i64 c.reach, .int .i64 c.spread] 38)).alloc (.cells #[.int .i64 m.x, .int .i64 m.y, .int .u8 m.kind, .int .u8 m.dir] 24)).alloc (.cells #[.int .i64 o.x, .int .i64 o.y, .int .u8 o.kind, .int .u8 o.dir] 24)).alloc (.cells #[.int .i64 k.turn, .int .i64 k.x0, .int .i64 k.y0, .int .i64 k.x1, .int .i64 k.y1] 40))
  generalize (((w.alloc (.cells #[.int .i64 c.turns, .int .i64 c.shift, .int .i64 c.elastic, .int .i64 c.reach, .int .i64 c.spread] 38)).alloc (.cells #[.int .i64 m.x, .int .i64 m.y, .int .u8 m.kind, .int .u8 m.dir] 24)).alloc (.cells #[.int .i64 o.x, .int .i64 o.y, .int .u8 o.kind, .int .u8 o.dir] 24)).alloc (.cells #[.int .i64 k.turn, .int .i64 k.x0, .int .i64 k.y0, .int .i64 k.x1, .int .i64 k.y1] 40) = V at *
  go_loopw [9, 10, 11] (fun t _ _ wr => ∃ y : Int, k.y0 ≤ y ∧ y ≤ k.y1 + 1 ∧ t = .int .i64 y ∧ (∀ dx dy e, k.x0 ≤ dx → dx ≤ k.x1 → k.y0 ≤ dy → dy < y → -c.elastic ≤ e → e ≤ c.elastic → alikeB c m o ⟨k.turn, dx, dy⟩ (fun _ => e) = false) ∧ Ext V wr) (fun t _ _ _ => (k.y1 + 1 - intOf t).toNat)
  case atStart => exact ⟨k.y0, by omega, by omega, rfl, fun _ _ _ _ _ h1 h2 => absurd h2 (by omega), Ext.refl _⟩
  case round =>
    obtain ⟨y, hy0, hy1, rfl, hno, hE⟩ := hrel
    have HNo := Lib.hid hno
    have HEV := Lib.hid hE
    clear hno
    have k4 : wr.cell? ⟨w.heap.size + 1 + 1 + 1, 4, none⟩ = some (.int .i64 k.y1) := (HK.out.grow hE).cell 4
    have k1 : wr.cell? ⟨w.heap.size + 1 + 1 + 1, 1, none⟩ = some (.int .i64 k.x0) := (HK.out.grow hE).cell 1
    clear hE
    by_cases hyy : y ≤ k.y1
    · go_wp2_with fail
      clear k4 k1
      obtain ⟨V1, hV1⟩ : ∃ V1, V1 = wr := ⟨_, rfl⟩
      subst hV1
      go_loopw [10, 11] (fun t _ wr => ∃ x : Int, k.x0 ≤ x ∧ x ≤ k.x1 + 1 ∧ t = .int .i64 x ∧ (∀ dx e, k.x0 ≤ dx → dx < x → -c.elastic ≤ e → e ≤ c.elastic → alikeB c m o ⟨k.turn, dx, y⟩ (fun _ => e) = false) ∧ Ext V wr) (fun t _ _ => (k.x1 + 1 - intOf t).toNat)
      case atStart => exact ⟨k.x0, by omega, by omega, rfl, fun _ _ h1 h2 => absurd h2 (by omega), HEV.out⟩
      case round =>
        clear HEV
        obtain ⟨x, hx0, hx1, rfl, hno, hE⟩ := hrel
        have HNo2 := Lib.hid hno
        have HEV := Lib.hid hE
        clear hno
        have k3 : wr.cell? ⟨w.heap.size + 1 + 1 + 1, 3, none⟩ = some (.int .i64 k.x1) := (HK.out.grow hE).cell 3
        have c2 : wr.cell? ⟨w.heap.size, 2, none⟩ = some (.int .i64 c.elastic) := (HC.out.grow hE).cell 2
        clear hE
        by_cases hxx : x ≤ k.x1
        · go_wp2_with fail
          clear k3 c2
          obtain ⟨V2, hV2⟩ : ∃ V2, V2 = wr := ⟨_, rfl⟩
          subst hV2
          go_loopw [11] (fun t wr => ∃ e : Int, -c.elastic ≤ e ∧ e ≤ c.elastic + 1 ∧ t = .int .i64 e ∧ (∀ e', -c.elastic ≤ e' → e' < e → alikeB c m o ⟨k.turn, x, y⟩ (fun _ => e') = false) ∧ Ext V wr) (fun t _ => (c.elastic + 1 - intOf t).toNat)
          case atStart => exact ⟨-c.elastic, by omega, by omega, rfl, fun _ h1 h2 => absurd h2 (by omega), HEV.out⟩
          case round =>
            clear HEV
            obtain ⟨e, he0, he1, rfl, hno, hE⟩ := hrel
            have HNo3 := Lib.hid hno
            have HEV := Lib.hid hE
            clear hno
            have bC := HC.out.grow hE
            have bP := HP.out.grow hE
            have bO := HO.out.grow hE
            have bK := HK.out.grow hE
            have c0 : wr.cell? ⟨w.heap.size, 0, none⟩ = some (.int .i64 c.turns) := bC.cell 0
            have c1 : wr.cell? ⟨w.heap.size, 1, none⟩ = some (.int .i64 c.shift) := bC.cell 1
            have c2 : wr.cell? ⟨w.heap.size, 2, none⟩ = some (.int .i64 c.elastic) := bC.cell 2
            have c3 : wr.cell? ⟨w.heap.size, 3, none⟩ = some (.int .i64 c.reach) := bC.cell 3
            have c4 : wr.cell? ⟨w.heap.size, 4, none⟩ = some (.int .i64 c.spread) := bC.cell 4
            have m0 : wr.cell? ⟨w.heap.size + 1, 0, none⟩ = some (.int .i64 m.x) := bP.cell 0
            have m1 : wr.cell? ⟨w.heap.size + 1, 1, none⟩ = some (.int .i64 m.y) := bP.cell 1
            have m2 : wr.cell? ⟨w.heap.size + 1, 2, none⟩ = some (.int .u8 m.kind) := bP.cell 2
            have m3 : wr.cell? ⟨w.heap.size + 1, 3, none⟩ = some (.int .u8 m.dir) := bP.cell 3
            have o0 : wr.cell? ⟨w.heap.size + 1 + 1, 0, none⟩ = some (.int .i64 o.x) := bO.cell 0
            have o1 : wr.cell? ⟨w.heap.size + 1 + 1, 1, none⟩ = some (.int .i64 o.y) := bO.cell 1
            have o2 : wr.cell? ⟨w.heap.size + 1 + 1, 2, none⟩ = some (.int .u8 o.kind) := bO.cell 2
            have o3 : wr.cell? ⟨w.heap.size + 1 + 1, 3, none⟩ = some (.int .u8 o.dir) := bO.cell 3
            have k0 : wr.cell? ⟨w.heap.size + 1 + 1 + 1, 0, none⟩ = some (.int .i64 k.turn) := bK.cell 0
            clear bC bP bO bK hE
            by_cases hee : e ≤ c.elastic
            · have CA := Lib.hid (HAl.out x y e (by omega) (by omega) (by omega))
              cases ha : alikeB c m o ⟨k.turn, x, y⟩ (fun _ => e)
              · rw [ha] at CA
                have HNo4 := Lib.hid (show ∀ e', -c.elastic ≤ e' → e' < e + 1 → alikeB c m o ⟨k.turn, x, y⟩ (fun _ => e') = false from fun e' h1 h2 => by
                  rcases Int.lt_or_le e' e with h | h
                  · exact HNo3.out e' h1 h
                  · obtain rfl : e' = e := by omega
                    exact ha)
                clear ha
                go_wp2_with fail
                refine Calls.ext (CA.out _) fun z => ?_
                go_wp2_with fail
                exact ⟨⟨e + 1, by omega, by omega, rfl, HNo4.out, HEV.out.ext z⟩, by simp [intOf]; omega⟩
              · rw [ha] at CA
                have HV := Lib.hid (show mayB c m o k = true from HM.out.2 ⟨x, y, e, hx0, hxx, hy0, hyy, he0, hee, ha⟩)
                clear ha
                go_wp2_with fail
                refine Calls.ext (CA.out _) fun z => ?_
                go_wp2_with fail
                go_ret
                exact ⟨ret_of (by rw [HV.out]; rfl), (HE.out.trans HEV.out).ext z⟩
            · have HNo4 := Lib.hid (show ∀ dx e', k.x0 ≤ dx → dx < x + 1 → -c.elastic ≤ e' → e' ≤ c.elastic → alikeB c m o ⟨k.turn, dx, y⟩ (fun _ => e') = false from fun dx e' h1 h2 h3 h4 => by
                rcases Int.lt_or_le dx x with h | h
                · exact HNo2.out dx e' h1 h h3 h4
                · obtain rfl : dx = x := by omega
                  exact HNo3.out e' h3 (by omega))
              go_wp2_with fail
              exact ⟨⟨x + 1, by omega, by omega, rfl, HNo4.out, HEV.out⟩, by simp [intOf]; omega⟩
        · have HNo4 := Lib.hid (show ∀ dx dy e, k.x0 ≤ dx → dx ≤ k.x1 → k.y0 ≤ dy → dy < y + 1 → -c.elastic ≤ e → e ≤ c.elastic → alikeB c m o ⟨k.turn, dx, dy⟩ (fun _ => e) = false from fun dx dy e h1 h2 h3 h4 h5 h6 => by
            rcases Int.lt_or_le dy y with h | h
            · exact HNo.out dx dy e h1 h2 h3 h h5 h6
            · obtain rfl : dy = y := by omega
              exact HNo2.out dx e h1 (by omega) h5 h6)
          go_wp2_with fail
          exact ⟨⟨y + 1, by omega, by omega, rfl, HNo4.out, HEV.out⟩, by simp [intOf]; omega⟩
    · have HV := Lib.hid (show mayB c m o k = false from by
        rw [Bool.eq_false_iff]
        intro h
        obtain ⟨dx, dy, e, a1, a2, b1, b2, b3, b4, h5⟩ := HM.out.1 h
        rw [HNo.out dx dy e a1 a2 b1 (by omega) b3 b4] at h5
        cases h5)
      go_wp2_with fail
      go_ret
      exact ⟨ret_of (by rw [HV.out]; rfl), HE.out.trans HEV.out⟩
end Go.Proofs.Ythejomcibobieaa
