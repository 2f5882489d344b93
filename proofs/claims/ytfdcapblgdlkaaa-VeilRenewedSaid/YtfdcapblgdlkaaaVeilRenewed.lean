/- Proved: for all keys old, young, last and words w, the call of whorllaw06.VeilRenewed returns true and leaves its arguments as they were. No conditions. -/
import Derived.Test.YtfdcapblgdlkaaaAlive
import Derived.Test.YtfdcapblgdlkaaaKeyLaw2
import Derived.Test.YtfdcapblgdlkaaaArgs
namespace Go.Proofs.Ytfdcapblgdlkaaa
open Go.Joins Go.ChangeShapes Go.WideShapes Go.RowKit Go.Deep Go.ChangeAt

set_option maxRecDepth 100000 in
set_option maxHeartbeats 8000000 in
theorem veilRenewed_walk (a b c : K) (x : BitVec 16) (w : World) : Calls Try.prog 14 #[a.val, b.val, c.val, .int .u16 (uv x)] w fun e w' => e = .returned (.bool true) ∧ Ext w w' := by
  have D1 := fun w => refValid_any a w
  have D2 := fun w => refValid_any b w
  have D3 := fun w => refValid_any c w
  cases ka : okK a
  · rw [ka] at D1
    have D1 := Lib.hid D1
    clear ka D2 D3
    go_enter Try.func14, Try.ntmps14
    go_wp2_with fail
    refine Calls.ext (alive_any _) fun z0 => ?_
    have Ha0 := Lib.hid ((((Blk.new w 55 #[.int .i64 a.bits, .int .i64 a.perm, .int .u16 (uv a.pad)]).alloc (.cells #[.int .i64 b.bits, .int .i64 b.perm, .int .u16 (uv b.pad)] 55)).alloc (.cells #[.int .i64 c.bits, .int .i64 c.perm, .int .u16 (uv c.pad)] 55)).ext z0)
    have Hb0 := Lib.hid (((Blk.new' (w.alloc (.cells #[.int .i64 a.bits, .int .i64 a.perm, .int .u16 (uv a.pad)] 55)) 55 #[.int .i64 b.bits, .int .i64 b.perm, .int .u16 (uv b.pad)] (w.heap.size + 1) (by simp)).alloc (.cells #[.int .i64 c.bits, .int .i64 c.perm, .int .u16 (uv c.pad)] 55)).ext z0)
    have Hc0 := Lib.hid ((Blk.new' ((w.alloc (.cells #[.int .i64 a.bits, .int .i64 a.perm, .int .u16 (uv a.pad)] 55)).alloc (.cells #[.int .i64 b.bits, .int .i64 b.perm, .int .u16 (uv b.pad)] 55)) 55 #[.int .i64 c.bits, .int .i64 c.perm, .int .u16 (uv c.pad)] (w.heap.size + 1 + 1) (by simp)).ext z0)
    have HE0 := Lib.hid (((((Ext.refl w).alloc (.cells #[.int .i64 a.bits, .int .i64 a.perm, .int .u16 (uv a.pad)] 55)).alloc (.cells #[.int .i64 b.bits, .int .i64 b.perm, .int .u16 (uv b.pad)] 55)).alloc (.cells #[.int .i64 c.bits, .int .i64 c.perm, .int .u16 (uv c.pad)] 55)).ext z0)
    generalize ext (((w.alloc (.cells #[.int .i64 a.bits, .int .i64 a.perm, .int .u16 (uv a.pad)] 55)).alloc (.cells #[.int .i64 b.bits, .int .i64 b.perm, .int .u16 (uv b.pad)] 55)).alloc (.cells #[.int .i64 c.bits, .int .i64 c.perm, .int .u16 (uv c.pad)] 55)) z0 = V0 at *
    have ca0 : V0.cell? ⟨w.heap.size, 0, none⟩ = some (.int .i64 a.bits) := Ha0.out.cell 0
    have ca1 : V0.cell? ⟨w.heap.size, 1, none⟩ = some (.int .i64 a.perm) := Ha0.out.cell 1
    have ca2 : V0.cell? ⟨w.heap.size, 2, none⟩ = some (.int .u16 (uv a.pad)) := Ha0.out.cell 2
    have oa := Old.mk Ha0.out.lt
    have cb0 : V0.cell? ⟨w.heap.size + 1, 0, none⟩ = some (.int .i64 b.bits) := Hb0.out.cell 0
    have cb1 : V0.cell? ⟨w.heap.size + 1, 1, none⟩ = some (.int .i64 b.perm) := Hb0.out.cell 1
    have cb2 : V0.cell? ⟨w.heap.size + 1, 2, none⟩ = some (.int .u16 (uv b.pad)) := Hb0.out.cell 2
    have ob := Old.mk Hb0.out.lt
    have cc0 : V0.cell? ⟨w.heap.size + 1 + 1, 0, none⟩ = some (.int .i64 c.bits) := Hc0.out.cell 0
    have cc1 : V0.cell? ⟨w.heap.size + 1 + 1, 1, none⟩ = some (.int .i64 c.perm) := Hc0.out.cell 1
    have cc2 : V0.cell? ⟨w.heap.size + 1 + 1, 2, none⟩ = some (.int .u16 (uv c.pad)) := Hc0.out.cell 2
    have oc := Old.mk Hc0.out.lt
    go_wp2_with fail
    refine Calls.ext (D1.out _) fun z1 => ?_
    go_wp2_with fail
    go_ret
    exact ⟨rfl, (HE0.out.ext z1)⟩
  · rw [ka] at D1
    cases kb : okK b
    · rw [kb] at D2
      have D1 := Lib.hid D1; have D2 := Lib.hid D2
      clear ka kb D3
      go_enter Try.func14, Try.ntmps14
      go_wp2_with fail
      refine Calls.ext (alive_any _) fun z0 => ?_
      have Ha0 := Lib.hid ((((Blk.new w 55 #[.int .i64 a.bits, .int .i64 a.perm, .int .u16 (uv a.pad)]).alloc (.cells #[.int .i64 b.bits, .int .i64 b.perm, .int .u16 (uv b.pad)] 55)).alloc (.cells #[.int .i64 c.bits, .int .i64 c.perm, .int .u16 (uv c.pad)] 55)).ext z0)
      have Hb0 := Lib.hid (((Blk.new' (w.alloc (.cells #[.int .i64 a.bits, .int .i64 a.perm, .int .u16 (uv a.pad)] 55)) 55 #[.int .i64 b.bits, .int .i64 b.perm, .int .u16 (uv b.pad)] (w.heap.size + 1) (by simp)).alloc (.cells #[.int .i64 c.bits, .int .i64 c.perm, .int .u16 (uv c.pad)] 55)).ext z0)
      have Hc0 := Lib.hid ((Blk.new' ((w.alloc (.cells #[.int .i64 a.bits, .int .i64 a.perm, .int .u16 (uv a.pad)] 55)).alloc (.cells #[.int .i64 b.bits, .int .i64 b.perm, .int .u16 (uv b.pad)] 55)) 55 #[.int .i64 c.bits, .int .i64 c.perm, .int .u16 (uv c.pad)] (w.heap.size + 1 + 1) (by simp)).ext z0)
      have HE0 := Lib.hid (((((Ext.refl w).alloc (.cells #[.int .i64 a.bits, .int .i64 a.perm, .int .u16 (uv a.pad)] 55)).alloc (.cells #[.int .i64 b.bits, .int .i64 b.perm, .int .u16 (uv b.pad)] 55)).alloc (.cells #[.int .i64 c.bits, .int .i64 c.perm, .int .u16 (uv c.pad)] 55)).ext z0)
      generalize ext (((w.alloc (.cells #[.int .i64 a.bits, .int .i64 a.perm, .int .u16 (uv a.pad)] 55)).alloc (.cells #[.int .i64 b.bits, .int .i64 b.perm, .int .u16 (uv b.pad)] 55)).alloc (.cells #[.int .i64 c.bits, .int .i64 c.perm, .int .u16 (uv c.pad)] 55)) z0 = V0 at *
      have ca0 : V0.cell? ⟨w.heap.size, 0, none⟩ = some (.int .i64 a.bits) := Ha0.out.cell 0
      have ca1 : V0.cell? ⟨w.heap.size, 1, none⟩ = some (.int .i64 a.perm) := Ha0.out.cell 1
      have ca2 : V0.cell? ⟨w.heap.size, 2, none⟩ = some (.int .u16 (uv a.pad)) := Ha0.out.cell 2
      have oa := Old.mk Ha0.out.lt
      have cb0 : V0.cell? ⟨w.heap.size + 1, 0, none⟩ = some (.int .i64 b.bits) := Hb0.out.cell 0
      have cb1 : V0.cell? ⟨w.heap.size + 1, 1, none⟩ = some (.int .i64 b.perm) := Hb0.out.cell 1
      have cb2 : V0.cell? ⟨w.heap.size + 1, 2, none⟩ = some (.int .u16 (uv b.pad)) := Hb0.out.cell 2
      have ob := Old.mk Hb0.out.lt
      have cc0 : V0.cell? ⟨w.heap.size + 1 + 1, 0, none⟩ = some (.int .i64 c.bits) := Hc0.out.cell 0
      have cc1 : V0.cell? ⟨w.heap.size + 1 + 1, 1, none⟩ = some (.int .i64 c.perm) := Hc0.out.cell 1
      have cc2 : V0.cell? ⟨w.heap.size + 1 + 1, 2, none⟩ = some (.int .u16 (uv c.pad)) := Hc0.out.cell 2
      have oc := Old.mk Hc0.out.lt
      go_wp2_with fail
      refine Calls.ext (D1.out _) fun z1 => ?_
      go_wp2_with fail
      refine Calls.ext (D2.out _) fun z2 => ?_
      go_wp2_with fail
      go_ret
      exact ⟨rfl, ((HE0.out.ext z1).ext z2)⟩
    · rw [kb] at D2
      cases kc : okK c
      · rw [kc] at D3
        have D1 := Lib.hid D1; have D2 := Lib.hid D2; have D3 := Lib.hid D3
        clear ka kb kc
        go_enter Try.func14, Try.ntmps14
        go_wp2_with fail
        refine Calls.ext (alive_any _) fun z0 => ?_
        have Ha0 := Lib.hid ((((Blk.new w 55 #[.int .i64 a.bits, .int .i64 a.perm, .int .u16 (uv a.pad)]).alloc (.cells #[.int .i64 b.bits, .int .i64 b.perm, .int .u16 (uv b.pad)] 55)).alloc (.cells #[.int .i64 c.bits, .int .i64 c.perm, .int .u16 (uv c.pad)] 55)).ext z0)
        have Hb0 := Lib.hid (((Blk.new' (w.alloc (.cells #[.int .i64 a.bits, .int .i64 a.perm, .int .u16 (uv a.pad)] 55)) 55 #[.int .i64 b.bits, .int .i64 b.perm, .int .u16 (uv b.pad)] (w.heap.size + 1) (by simp)).alloc (.cells #[.int .i64 c.bits, .int .i64 c.perm, .int .u16 (uv c.pad)] 55)).ext z0)
        have Hc0 := Lib.hid ((Blk.new' ((w.alloc (.cells #[.int .i64 a.bits, .int .i64 a.perm, .int .u16 (uv a.pad)] 55)).alloc (.cells #[.int .i64 b.bits, .int .i64 b.perm, .int .u16 (uv b.pad)] 55)) 55 #[.int .i64 c.bits, .int .i64 c.perm, .int .u16 (uv c.pad)] (w.heap.size + 1 + 1) (by simp)).ext z0)
        have HE0 := Lib.hid (((((Ext.refl w).alloc (.cells #[.int .i64 a.bits, .int .i64 a.perm, .int .u16 (uv a.pad)] 55)).alloc (.cells #[.int .i64 b.bits, .int .i64 b.perm, .int .u16 (uv b.pad)] 55)).alloc (.cells #[.int .i64 c.bits, .int .i64 c.perm, .int .u16 (uv c.pad)] 55)).ext z0)
        generalize ext (((w.alloc (.cells #[.int .i64 a.bits, .int .i64 a.perm, .int .u16 (uv a.pad)] 55)).alloc (.cells #[.int .i64 b.bits, .int .i64 b.perm, .int .u16 (uv b.pad)] 55)).alloc (.cells #[.int .i64 c.bits, .int .i64 c.perm, .int .u16 (uv c.pad)] 55)) z0 = V0 at *
        have ca0 : V0.cell? ⟨w.heap.size, 0, none⟩ = some (.int .i64 a.bits) := Ha0.out.cell 0
        have ca1 : V0.cell? ⟨w.heap.size, 1, none⟩ = some (.int .i64 a.perm) := Ha0.out.cell 1
        have ca2 : V0.cell? ⟨w.heap.size, 2, none⟩ = some (.int .u16 (uv a.pad)) := Ha0.out.cell 2
        have oa := Old.mk Ha0.out.lt
        have cb0 : V0.cell? ⟨w.heap.size + 1, 0, none⟩ = some (.int .i64 b.bits) := Hb0.out.cell 0
        have cb1 : V0.cell? ⟨w.heap.size + 1, 1, none⟩ = some (.int .i64 b.perm) := Hb0.out.cell 1
        have cb2 : V0.cell? ⟨w.heap.size + 1, 2, none⟩ = some (.int .u16 (uv b.pad)) := Hb0.out.cell 2
        have ob := Old.mk Hb0.out.lt
        have cc0 : V0.cell? ⟨w.heap.size + 1 + 1, 0, none⟩ = some (.int .i64 c.bits) := Hc0.out.cell 0
        have cc1 : V0.cell? ⟨w.heap.size + 1 + 1, 1, none⟩ = some (.int .i64 c.perm) := Hc0.out.cell 1
        have cc2 : V0.cell? ⟨w.heap.size + 1 + 1, 2, none⟩ = some (.int .u16 (uv c.pad)) := Hc0.out.cell 2
        have oc := Old.mk Hc0.out.lt
        go_wp2_with fail
        refine Calls.ext (D1.out _) fun z1 => ?_
        go_wp2_with fail
        refine Calls.ext (D2.out _) fun z2 => ?_
        go_wp2_with fail
        refine Calls.ext (D3.out _) fun z3 => ?_
        go_wp2_with fail
        go_ret
        exact ⟨rfl, (((HE0.out.ext z1).ext z2).ext z3)⟩
      · rw [kc] at D3
        by_cases hab : a.bits = b.bits
        rotate_left
        · have e1 : (a.bits == b.bits) = false ∧ (a.bits != b.bits) = true ∧ decide (a.bits = b.bits) = false := (by simp [hab]); obtain ⟨e1, e1x, e1y⟩ := e1
          have D1 := Lib.hid D1; have D2 := Lib.hid D2; have D3 := Lib.hid D3
          clear ka kb kc hab
          go_enter Try.func14, Try.ntmps14
          go_wp2_with fail
          refine Calls.ext (alive_any _) fun z0 => ?_
          have Ha0 := Lib.hid ((((Blk.new w 55 #[.int .i64 a.bits, .int .i64 a.perm, .int .u16 (uv a.pad)]).alloc (.cells #[.int .i64 b.bits, .int .i64 b.perm, .int .u16 (uv b.pad)] 55)).alloc (.cells #[.int .i64 c.bits, .int .i64 c.perm, .int .u16 (uv c.pad)] 55)).ext z0)
          have Hb0 := Lib.hid (((Blk.new' (w.alloc (.cells #[.int .i64 a.bits, .int .i64 a.perm, .int .u16 (uv a.pad)] 55)) 55 #[.int .i64 b.bits, .int .i64 b.perm, .int .u16 (uv b.pad)] (w.heap.size + 1) (by simp)).alloc (.cells #[.int .i64 c.bits, .int .i64 c.perm, .int .u16 (uv c.pad)] 55)).ext z0)
          have Hc0 := Lib.hid ((Blk.new' ((w.alloc (.cells #[.int .i64 a.bits, .int .i64 a.perm, .int .u16 (uv a.pad)] 55)).alloc (.cells #[.int .i64 b.bits, .int .i64 b.perm, .int .u16 (uv b.pad)] 55)) 55 #[.int .i64 c.bits, .int .i64 c.perm, .int .u16 (uv c.pad)] (w.heap.size + 1 + 1) (by simp)).ext z0)
          have HE0 := Lib.hid (((((Ext.refl w).alloc (.cells #[.int .i64 a.bits, .int .i64 a.perm, .int .u16 (uv a.pad)] 55)).alloc (.cells #[.int .i64 b.bits, .int .i64 b.perm, .int .u16 (uv b.pad)] 55)).alloc (.cells #[.int .i64 c.bits, .int .i64 c.perm, .int .u16 (uv c.pad)] 55)).ext z0)
          generalize ext (((w.alloc (.cells #[.int .i64 a.bits, .int .i64 a.perm, .int .u16 (uv a.pad)] 55)).alloc (.cells #[.int .i64 b.bits, .int .i64 b.perm, .int .u16 (uv b.pad)] 55)).alloc (.cells #[.int .i64 c.bits, .int .i64 c.perm, .int .u16 (uv c.pad)] 55)) z0 = V0 at *
          have ca0 : V0.cell? ⟨w.heap.size, 0, none⟩ = some (.int .i64 a.bits) := Ha0.out.cell 0
          have ca1 : V0.cell? ⟨w.heap.size, 1, none⟩ = some (.int .i64 a.perm) := Ha0.out.cell 1
          have ca2 : V0.cell? ⟨w.heap.size, 2, none⟩ = some (.int .u16 (uv a.pad)) := Ha0.out.cell 2
          have oa := Old.mk Ha0.out.lt
          have cb0 : V0.cell? ⟨w.heap.size + 1, 0, none⟩ = some (.int .i64 b.bits) := Hb0.out.cell 0
          have cb1 : V0.cell? ⟨w.heap.size + 1, 1, none⟩ = some (.int .i64 b.perm) := Hb0.out.cell 1
          have cb2 : V0.cell? ⟨w.heap.size + 1, 2, none⟩ = some (.int .u16 (uv b.pad)) := Hb0.out.cell 2
          have ob := Old.mk Hb0.out.lt
          have cc0 : V0.cell? ⟨w.heap.size + 1 + 1, 0, none⟩ = some (.int .i64 c.bits) := Hc0.out.cell 0
          have cc1 : V0.cell? ⟨w.heap.size + 1 + 1, 1, none⟩ = some (.int .i64 c.perm) := Hc0.out.cell 1
          have cc2 : V0.cell? ⟨w.heap.size + 1 + 1, 2, none⟩ = some (.int .u16 (uv c.pad)) := Hc0.out.cell 2
          have oc := Old.mk Hc0.out.lt
          go_wp2_with fail
          refine Calls.ext (D1.out _) fun z1 => ?_
          go_wp2_with fail
          refine Calls.ext (D2.out _) fun z2 => ?_
          go_wp2_with fail
          refine Calls.ext (D3.out _) fun z3 => ?_
          go_wp2_with fail
          go_ret
          exact ⟨rfl, (((HE0.out.ext z1).ext z2).ext z3)⟩
        by_cases hac : a.bits = c.bits
        rotate_left
        · have e1 : (a.bits == b.bits) = true ∧ (a.bits != b.bits) = false ∧ decide (a.bits = b.bits) = true := (by simp [hab]); obtain ⟨e1, e1x, e1y⟩ := e1
          have e2 : (a.bits == c.bits) = false ∧ (a.bits != c.bits) = true ∧ decide (a.bits = c.bits) = false := (by simp [hac]); obtain ⟨e2, e2x, e2y⟩ := e2
          have D1 := Lib.hid D1; have D2 := Lib.hid D2; have D3 := Lib.hid D3
          clear ka kb kc hab hac
          go_enter Try.func14, Try.ntmps14
          go_wp2_with fail
          refine Calls.ext (alive_any _) fun z0 => ?_
          have Ha0 := Lib.hid ((((Blk.new w 55 #[.int .i64 a.bits, .int .i64 a.perm, .int .u16 (uv a.pad)]).alloc (.cells #[.int .i64 b.bits, .int .i64 b.perm, .int .u16 (uv b.pad)] 55)).alloc (.cells #[.int .i64 c.bits, .int .i64 c.perm, .int .u16 (uv c.pad)] 55)).ext z0)
          have Hb0 := Lib.hid (((Blk.new' (w.alloc (.cells #[.int .i64 a.bits, .int .i64 a.perm, .int .u16 (uv a.pad)] 55)) 55 #[.int .i64 b.bits, .int .i64 b.perm, .int .u16 (uv b.pad)] (w.heap.size + 1) (by simp)).alloc (.cells #[.int .i64 c.bits, .int .i64 c.perm, .int .u16 (uv c.pad)] 55)).ext z0)
          have Hc0 := Lib.hid ((Blk.new' ((w.alloc (.cells #[.int .i64 a.bits, .int .i64 a.perm, .int .u16 (uv a.pad)] 55)).alloc (.cells #[.int .i64 b.bits, .int .i64 b.perm, .int .u16 (uv b.pad)] 55)) 55 #[.int .i64 c.bits, .int .i64 c.perm, .int .u16 (uv c.pad)] (w.heap.size + 1 + 1) (by simp)).ext z0)
          have HE0 := Lib.hid (((((Ext.refl w).alloc (.cells #[.int .i64 a.bits, .int .i64 a.perm, .int .u16 (uv a.pad)] 55)).alloc (.cells #[.int .i64 b.bits, .int .i64 b.perm, .int .u16 (uv b.pad)] 55)).alloc (.cells #[.int .i64 c.bits, .int .i64 c.perm, .int .u16 (uv c.pad)] 55)).ext z0)
          generalize ext (((w.alloc (.cells #[.int .i64 a.bits, .int .i64 a.perm, .int .u16 (uv a.pad)] 55)).alloc (.cells #[.int .i64 b.bits, .int .i64 b.perm, .int .u16 (uv b.pad)] 55)).alloc (.cells #[.int .i64 c.bits, .int .i64 c.perm, .int .u16 (uv c.pad)] 55)) z0 = V0 at *
          have ca0 : V0.cell? ⟨w.heap.size, 0, none⟩ = some (.int .i64 a.bits) := Ha0.out.cell 0
          have ca1 : V0.cell? ⟨w.heap.size, 1, none⟩ = some (.int .i64 a.perm) := Ha0.out.cell 1
          have ca2 : V0.cell? ⟨w.heap.size, 2, none⟩ = some (.int .u16 (uv a.pad)) := Ha0.out.cell 2
          have oa := Old.mk Ha0.out.lt
          have cb0 : V0.cell? ⟨w.heap.size + 1, 0, none⟩ = some (.int .i64 b.bits) := Hb0.out.cell 0
          have cb1 : V0.cell? ⟨w.heap.size + 1, 1, none⟩ = some (.int .i64 b.perm) := Hb0.out.cell 1
          have cb2 : V0.cell? ⟨w.heap.size + 1, 2, none⟩ = some (.int .u16 (uv b.pad)) := Hb0.out.cell 2
          have ob := Old.mk Hb0.out.lt
          have cc0 : V0.cell? ⟨w.heap.size + 1 + 1, 0, none⟩ = some (.int .i64 c.bits) := Hc0.out.cell 0
          have cc1 : V0.cell? ⟨w.heap.size + 1 + 1, 1, none⟩ = some (.int .i64 c.perm) := Hc0.out.cell 1
          have cc2 : V0.cell? ⟨w.heap.size + 1 + 1, 2, none⟩ = some (.int .u16 (uv c.pad)) := Hc0.out.cell 2
          have oc := Old.mk Hc0.out.lt
          go_wp2_with fail
          refine Calls.ext (D1.out _) fun z1 => ?_
          go_wp2_with fail
          refine Calls.ext (D2.out _) fun z2 => ?_
          go_wp2_with fail
          refine Calls.ext (D3.out _) fun z3 => ?_
          go_wp2_with fail
          go_ret
          exact ⟨rfl, (((HE0.out.ext z1).ext z2).ext z3)⟩
        have e1 : (a.bits == b.bits) = true ∧ (a.bits != b.bits) = false ∧ decide (a.bits = b.bits) = true := (by simp [hab]); obtain ⟨e1, e1x, e1y⟩ := e1
        have e2 : (a.bits == c.bits) = true ∧ (a.bits != c.bits) = false ∧ decide (a.bits = c.bits) = true := (by simp [hac]); obtain ⟨e2, e2x, e2y⟩ := e2
        obtain ⟨pa, pn, ha15, -, hbits, -⟩ := ok_perm ka
        have CF : ∀ w, Calls Try.prog 44 #[.int .i64 a.bits, .int .u16 (uv x)] w fun e w' => e = .returned (.bool (fitB a.n x)) ∧ w = w' := fun w => by rw [hbits]; exact fits_any a.n (by omega) x w
        cases hx : fitB a.n x
        · rw [hx] at CF
          have D1 := Lib.hid D1; have D2 := Lib.hid D2; have D3 := Lib.hid D3
          have CF := Lib.hid CF
          clear ka kb kc hab hac pa pn ha15 hbits hx
          go_enter Try.func14, Try.ntmps14
          go_wp2_with fail
          refine Calls.ext (alive_any _) fun z0 => ?_
          have Ha0 := Lib.hid ((((Blk.new w 55 #[.int .i64 a.bits, .int .i64 a.perm, .int .u16 (uv a.pad)]).alloc (.cells #[.int .i64 b.bits, .int .i64 b.perm, .int .u16 (uv b.pad)] 55)).alloc (.cells #[.int .i64 c.bits, .int .i64 c.perm, .int .u16 (uv c.pad)] 55)).ext z0)
          have Hb0 := Lib.hid (((Blk.new' (w.alloc (.cells #[.int .i64 a.bits, .int .i64 a.perm, .int .u16 (uv a.pad)] 55)) 55 #[.int .i64 b.bits, .int .i64 b.perm, .int .u16 (uv b.pad)] (w.heap.size + 1) (by simp)).alloc (.cells #[.int .i64 c.bits, .int .i64 c.perm, .int .u16 (uv c.pad)] 55)).ext z0)
          have Hc0 := Lib.hid ((Blk.new' ((w.alloc (.cells #[.int .i64 a.bits, .int .i64 a.perm, .int .u16 (uv a.pad)] 55)).alloc (.cells #[.int .i64 b.bits, .int .i64 b.perm, .int .u16 (uv b.pad)] 55)) 55 #[.int .i64 c.bits, .int .i64 c.perm, .int .u16 (uv c.pad)] (w.heap.size + 1 + 1) (by simp)).ext z0)
          have HE0 := Lib.hid (((((Ext.refl w).alloc (.cells #[.int .i64 a.bits, .int .i64 a.perm, .int .u16 (uv a.pad)] 55)).alloc (.cells #[.int .i64 b.bits, .int .i64 b.perm, .int .u16 (uv b.pad)] 55)).alloc (.cells #[.int .i64 c.bits, .int .i64 c.perm, .int .u16 (uv c.pad)] 55)).ext z0)
          generalize ext (((w.alloc (.cells #[.int .i64 a.bits, .int .i64 a.perm, .int .u16 (uv a.pad)] 55)).alloc (.cells #[.int .i64 b.bits, .int .i64 b.perm, .int .u16 (uv b.pad)] 55)).alloc (.cells #[.int .i64 c.bits, .int .i64 c.perm, .int .u16 (uv c.pad)] 55)) z0 = V0 at *
          have ca0 : V0.cell? ⟨w.heap.size, 0, none⟩ = some (.int .i64 a.bits) := Ha0.out.cell 0
          have ca1 : V0.cell? ⟨w.heap.size, 1, none⟩ = some (.int .i64 a.perm) := Ha0.out.cell 1
          have ca2 : V0.cell? ⟨w.heap.size, 2, none⟩ = some (.int .u16 (uv a.pad)) := Ha0.out.cell 2
          have oa := Old.mk Ha0.out.lt
          have cb0 : V0.cell? ⟨w.heap.size + 1, 0, none⟩ = some (.int .i64 b.bits) := Hb0.out.cell 0
          have cb1 : V0.cell? ⟨w.heap.size + 1, 1, none⟩ = some (.int .i64 b.perm) := Hb0.out.cell 1
          have cb2 : V0.cell? ⟨w.heap.size + 1, 2, none⟩ = some (.int .u16 (uv b.pad)) := Hb0.out.cell 2
          have ob := Old.mk Hb0.out.lt
          have cc0 : V0.cell? ⟨w.heap.size + 1 + 1, 0, none⟩ = some (.int .i64 c.bits) := Hc0.out.cell 0
          have cc1 : V0.cell? ⟨w.heap.size + 1 + 1, 1, none⟩ = some (.int .i64 c.perm) := Hc0.out.cell 1
          have cc2 : V0.cell? ⟨w.heap.size + 1 + 1, 2, none⟩ = some (.int .u16 (uv c.pad)) := Hc0.out.cell 2
          have oc := Old.mk Hc0.out.lt
          go_wp2_with fail
          refine Calls.ext (D1.out _) fun z1 => ?_
          go_wp2_with fail
          refine Calls.ext (D2.out _) fun z2 => ?_
          go_wp2_with fail
          refine Calls.ext (D3.out _) fun z3 => ?_
          go_wp2_with fail
          refine Calls.same (CF.out _) ?_
          go_wp2_with fail
          go_ret
          exact ⟨rfl, (((HE0.out.ext z1).ext z2).ext z3)⟩
        · rw [hx] at CF
          have fx := (hide_law ka hx).2.2
          have nb := same_n hab
          have hxb : fitB b.n x = true := by rw [← nb]; exact hx
          have fy := (hide_law kb hxb).2.2
          obtain ⟨k1, e3⟩ := ren_ok ka kb hab
          obtain ⟨k2, e4⟩ := ren_ok kb ka hab.symm
          obtain ⟨k3, e5⟩ := ren_ok kb kc (hab.symm.trans hac)
          have q1 := both_ok ka kb hab
          have q2 := both_ok kb ka hab.symm
          have q3 := both_ok kb kc (hab.symm.trans hac)
          have q4 := both_ok ka kc hac
          have q5 := both_ok k1 k3 (e3.trans (hab.trans e5.symm))
          have r1 := ren_twice ka kb kc hab hac
          have r2 := ren_hide ka kb hab hx
          have r3 := ren_hide kb ka hab.symm hxb
          have v1 := (hide_law ka hx).1
          have v2 := (hide_law kb hxb).1
          have v3 := (hide_law (a := renX a b) k1 (x := hideX a x) (by rw [same_n e3]; exact fx)).1
          have v4 := (hide_law (a := renX b a) k2 (x := hideX b x) (by rw [same_n e4]; exact fy)).1
          have C1 := fun w => Renew_any a b w
          have C2 := fun w => Renew_any b a w
          have C3 := fun w => Renew_any b c w
          have C4 := fun w => Renew_any a c w
          have C5 := fun w => Compose_any (renX a b) (renX b c) w
          have C6 := fun w => Hide_any a x w
          have C7 := fun w => Hide_any b x w
          have C8 := fun w => Hide_any (renX a b) (hideX a x) w
          have C9 := fun w => Hide_any (renX b a) (hideX b x) w
          rw [q1] at C1
          rw [q2] at C2
          rw [q3] at C3
          rw [q4] at C4
          rw [q5, r1] at C5
          rw [v1] at C6
          rw [v2] at C7
          rw [v3, r2] at C8
          rw [v4, r3] at C9
          clear q1 q2 q3 q4 q5 r1 r2 r3 v1 v2 v3 v4 k1 k2 k3 e3 e4 e5 fx fy nb hxb ka kb kc hab hac pa pn ha15 hbits hx
          generalize renX a b = k at *
          generalize renX b a = m at *
          generalize renX b c = n at *
          generalize renX a c = o at *
          generalize hideX a x = hx at *
          generalize hideX b x = hy at *
          have D1 := Lib.hid D1; have D2 := Lib.hid D2; have D3 := Lib.hid D3
          have C1 := Lib.hid C1; have C2 := Lib.hid C2; have C3 := Lib.hid C3; have C4 := Lib.hid C4; have C5 := Lib.hid C5; have C6 := Lib.hid C6; have C7 := Lib.hid C7; have C8 := Lib.hid C8; have C9 := Lib.hid C9
          have CF := Lib.hid CF
          go_enter Try.func14, Try.ntmps14
          go_wp2_with fail
          refine Calls.ext (alive_any _) fun z0 => ?_
          have Ha0 := Lib.hid ((((Blk.new w 55 #[.int .i64 a.bits, .int .i64 a.perm, .int .u16 (uv a.pad)]).alloc (.cells #[.int .i64 b.bits, .int .i64 b.perm, .int .u16 (uv b.pad)] 55)).alloc (.cells #[.int .i64 c.bits, .int .i64 c.perm, .int .u16 (uv c.pad)] 55)).ext z0)
          have Hb0 := Lib.hid (((Blk.new' (w.alloc (.cells #[.int .i64 a.bits, .int .i64 a.perm, .int .u16 (uv a.pad)] 55)) 55 #[.int .i64 b.bits, .int .i64 b.perm, .int .u16 (uv b.pad)] (w.heap.size + 1) (by simp)).alloc (.cells #[.int .i64 c.bits, .int .i64 c.perm, .int .u16 (uv c.pad)] 55)).ext z0)
          have Hc0 := Lib.hid ((Blk.new' ((w.alloc (.cells #[.int .i64 a.bits, .int .i64 a.perm, .int .u16 (uv a.pad)] 55)).alloc (.cells #[.int .i64 b.bits, .int .i64 b.perm, .int .u16 (uv b.pad)] 55)) 55 #[.int .i64 c.bits, .int .i64 c.perm, .int .u16 (uv c.pad)] (w.heap.size + 1 + 1) (by simp)).ext z0)
          have HE0 := Lib.hid (((((Ext.refl w).alloc (.cells #[.int .i64 a.bits, .int .i64 a.perm, .int .u16 (uv a.pad)] 55)).alloc (.cells #[.int .i64 b.bits, .int .i64 b.perm, .int .u16 (uv b.pad)] 55)).alloc (.cells #[.int .i64 c.bits, .int .i64 c.perm, .int .u16 (uv c.pad)] 55)).ext z0)
          generalize ext (((w.alloc (.cells #[.int .i64 a.bits, .int .i64 a.perm, .int .u16 (uv a.pad)] 55)).alloc (.cells #[.int .i64 b.bits, .int .i64 b.perm, .int .u16 (uv b.pad)] 55)).alloc (.cells #[.int .i64 c.bits, .int .i64 c.perm, .int .u16 (uv c.pad)] 55)) z0 = V0 at *
          have ca0 : V0.cell? ⟨w.heap.size, 0, none⟩ = some (.int .i64 a.bits) := Ha0.out.cell 0
          have ca1 : V0.cell? ⟨w.heap.size, 1, none⟩ = some (.int .i64 a.perm) := Ha0.out.cell 1
          have ca2 : V0.cell? ⟨w.heap.size, 2, none⟩ = some (.int .u16 (uv a.pad)) := Ha0.out.cell 2
          have oa := Old.mk Ha0.out.lt
          have cb0 : V0.cell? ⟨w.heap.size + 1, 0, none⟩ = some (.int .i64 b.bits) := Hb0.out.cell 0
          have cb1 : V0.cell? ⟨w.heap.size + 1, 1, none⟩ = some (.int .i64 b.perm) := Hb0.out.cell 1
          have cb2 : V0.cell? ⟨w.heap.size + 1, 2, none⟩ = some (.int .u16 (uv b.pad)) := Hb0.out.cell 2
          have ob := Old.mk Hb0.out.lt
          have cc0 : V0.cell? ⟨w.heap.size + 1 + 1, 0, none⟩ = some (.int .i64 c.bits) := Hc0.out.cell 0
          have cc1 : V0.cell? ⟨w.heap.size + 1 + 1, 1, none⟩ = some (.int .i64 c.perm) := Hc0.out.cell 1
          have cc2 : V0.cell? ⟨w.heap.size + 1 + 1, 2, none⟩ = some (.int .u16 (uv c.pad)) := Hc0.out.cell 2
          have oc := Old.mk Hc0.out.lt
          go_wp2_with fail
          refine Calls.ext (D1.out _) fun z1 => ?_
          go_wp2_with fail
          refine Calls.ext (D2.out _) fun z2 => ?_
          go_wp2_with fail
          refine Calls.ext (D3.out _) fun z3 => ?_
          go_wp2_with fail
          refine Calls.same (CF.out _) ?_
          go_wp2_with fail
          have Ha1 := Lib.hid ((((Ha0.out.ext z1).ext z2).ext z3))
          have Hb1 := Lib.hid ((((Hb0.out.ext z1).ext z2).ext z3))
          have Hc1 := Lib.hid ((((Hc0.out.ext z1).ext z2).ext z3))
          have HE1 := Lib.hid ((((HE0.out.ext z1).ext z2).ext z3))
          clear ca0 ca1 ca2 oa cb0 cb1 cb2 ob cc0 cc1 cc2 oc
          generalize ext (ext (ext V0 z1) z2) z3 = V1 at *
          clear Ha0 Hb0 Hc0 HE0
          have ca0 : V1.cell? ⟨w.heap.size, 0, none⟩ = some (.int .i64 a.bits) := Ha1.out.cell 0
          have ca1 : V1.cell? ⟨w.heap.size, 1, none⟩ = some (.int .i64 a.perm) := Ha1.out.cell 1
          have ca2 : V1.cell? ⟨w.heap.size, 2, none⟩ = some (.int .u16 (uv a.pad)) := Ha1.out.cell 2
          have oa := Old.mk Ha1.out.lt
          have cb0 : V1.cell? ⟨w.heap.size + 1, 0, none⟩ = some (.int .i64 b.bits) := Hb1.out.cell 0
          have cb1 : V1.cell? ⟨w.heap.size + 1, 1, none⟩ = some (.int .i64 b.perm) := Hb1.out.cell 1
          have cb2 : V1.cell? ⟨w.heap.size + 1, 2, none⟩ = some (.int .u16 (uv b.pad)) := Hb1.out.cell 2
          have ob := Old.mk Hb1.out.lt
          have cc0 : V1.cell? ⟨w.heap.size + 1 + 1, 0, none⟩ = some (.int .i64 c.bits) := Hc1.out.cell 0
          have cc1 : V1.cell? ⟨w.heap.size + 1 + 1, 1, none⟩ = some (.int .i64 c.perm) := Hc1.out.cell 1
          have cc2 : V1.cell? ⟨w.heap.size + 1 + 1, 2, none⟩ = some (.int .u16 (uv c.pad)) := Hc1.out.cell 2
          have oc := Old.mk Hc1.out.lt
          refine Calls.ext (C1.out _) fun z4 => ?_
          go_wp2_with fail
          have Ha2 := Lib.hid (((Ha1.out.ext z4)).alloc (.cells #[.int .i64 k.bits, .int .i64 k.perm, .int .u16 (uv k.pad)] 55))
          have Hb2 := Lib.hid (((Hb1.out.ext z4)).alloc (.cells #[.int .i64 k.bits, .int .i64 k.perm, .int .u16 (uv k.pad)] 55))
          have Hc2 := Lib.hid (((Hc1.out.ext z4)).alloc (.cells #[.int .i64 k.bits, .int .i64 k.perm, .int .u16 (uv k.pad)] 55))
          have HE2 := Lib.hid (((HE1.out.ext z4)).alloc (.cells #[.int .i64 k.bits, .int .i64 k.perm, .int .u16 (uv k.pad)] 55))
          have Hk2 := Lib.hid (Blk.new (ext V1 z4) 55 #[.int .i64 k.bits, .int .i64 k.perm, .int .u16 (uv k.pad)])
          clear ca0 ca1 ca2 oa cb0 cb1 cb2 ob cc0 cc1 cc2 oc
          generalize (ext V1 z4).alloc (.cells #[.int .i64 k.bits, .int .i64 k.perm, .int .u16 (uv k.pad)] 55) = V2 at *
          generalize (ext V1 z4).heap.size = Gk at *
          clear Ha1 Hb1 Hc1 HE1
          have ca0 : V2.cell? ⟨w.heap.size, 0, none⟩ = some (.int .i64 a.bits) := Ha2.out.cell 0
          have ca1 : V2.cell? ⟨w.heap.size, 1, none⟩ = some (.int .i64 a.perm) := Ha2.out.cell 1
          have ca2 : V2.cell? ⟨w.heap.size, 2, none⟩ = some (.int .u16 (uv a.pad)) := Ha2.out.cell 2
          have oa := Old.mk Ha2.out.lt
          have cb0 : V2.cell? ⟨w.heap.size + 1, 0, none⟩ = some (.int .i64 b.bits) := Hb2.out.cell 0
          have cb1 : V2.cell? ⟨w.heap.size + 1, 1, none⟩ = some (.int .i64 b.perm) := Hb2.out.cell 1
          have cb2 : V2.cell? ⟨w.heap.size + 1, 2, none⟩ = some (.int .u16 (uv b.pad)) := Hb2.out.cell 2
          have ob := Old.mk Hb2.out.lt
          have cc0 : V2.cell? ⟨w.heap.size + 1 + 1, 0, none⟩ = some (.int .i64 c.bits) := Hc2.out.cell 0
          have cc1 : V2.cell? ⟨w.heap.size + 1 + 1, 1, none⟩ = some (.int .i64 c.perm) := Hc2.out.cell 1
          have cc2 : V2.cell? ⟨w.heap.size + 1 + 1, 2, none⟩ = some (.int .u16 (uv c.pad)) := Hc2.out.cell 2
          have oc := Old.mk Hc2.out.lt
          have ck0 : V2.cell? ⟨Gk, 0, none⟩ = some (.int .i64 k.bits) := Hk2.out.cell 0
          have ck1 : V2.cell? ⟨Gk, 1, none⟩ = some (.int .i64 k.perm) := Hk2.out.cell 1
          have ck2 : V2.cell? ⟨Gk, 2, none⟩ = some (.int .u16 (uv k.pad)) := Hk2.out.cell 2
          have ok := Old.mk Hk2.out.lt
          refine Calls.ext (C2.out _) fun z5 => ?_
          go_wp2_with fail
          have Ha3 := Lib.hid (((Ha2.out.ext z5)).alloc (.cells #[.int .i64 m.bits, .int .i64 m.perm, .int .u16 (uv m.pad)] 55))
          have Hb3 := Lib.hid (((Hb2.out.ext z5)).alloc (.cells #[.int .i64 m.bits, .int .i64 m.perm, .int .u16 (uv m.pad)] 55))
          have Hc3 := Lib.hid (((Hc2.out.ext z5)).alloc (.cells #[.int .i64 m.bits, .int .i64 m.perm, .int .u16 (uv m.pad)] 55))
          have Hk3 := Lib.hid (((Hk2.out.ext z5)).alloc (.cells #[.int .i64 m.bits, .int .i64 m.perm, .int .u16 (uv m.pad)] 55))
          have HE3 := Lib.hid (((HE2.out.ext z5)).alloc (.cells #[.int .i64 m.bits, .int .i64 m.perm, .int .u16 (uv m.pad)] 55))
          have Hm3 := Lib.hid (Blk.new (ext V2 z5) 55 #[.int .i64 m.bits, .int .i64 m.perm, .int .u16 (uv m.pad)])
          clear ca0 ca1 ca2 oa cb0 cb1 cb2 ob cc0 cc1 cc2 oc ck0 ck1 ck2 ok
          generalize (ext V2 z5).alloc (.cells #[.int .i64 m.bits, .int .i64 m.perm, .int .u16 (uv m.pad)] 55) = V3 at *
          generalize (ext V2 z5).heap.size = Gm at *
          clear Ha2 Hb2 Hc2 Hk2 HE2
          have ca0 : V3.cell? ⟨w.heap.size, 0, none⟩ = some (.int .i64 a.bits) := Ha3.out.cell 0
          have ca1 : V3.cell? ⟨w.heap.size, 1, none⟩ = some (.int .i64 a.perm) := Ha3.out.cell 1
          have ca2 : V3.cell? ⟨w.heap.size, 2, none⟩ = some (.int .u16 (uv a.pad)) := Ha3.out.cell 2
          have oa := Old.mk Ha3.out.lt
          have cb0 : V3.cell? ⟨w.heap.size + 1, 0, none⟩ = some (.int .i64 b.bits) := Hb3.out.cell 0
          have cb1 : V3.cell? ⟨w.heap.size + 1, 1, none⟩ = some (.int .i64 b.perm) := Hb3.out.cell 1
          have cb2 : V3.cell? ⟨w.heap.size + 1, 2, none⟩ = some (.int .u16 (uv b.pad)) := Hb3.out.cell 2
          have ob := Old.mk Hb3.out.lt
          have cc0 : V3.cell? ⟨w.heap.size + 1 + 1, 0, none⟩ = some (.int .i64 c.bits) := Hc3.out.cell 0
          have cc1 : V3.cell? ⟨w.heap.size + 1 + 1, 1, none⟩ = some (.int .i64 c.perm) := Hc3.out.cell 1
          have cc2 : V3.cell? ⟨w.heap.size + 1 + 1, 2, none⟩ = some (.int .u16 (uv c.pad)) := Hc3.out.cell 2
          have oc := Old.mk Hc3.out.lt
          have ck0 : V3.cell? ⟨Gk, 0, none⟩ = some (.int .i64 k.bits) := Hk3.out.cell 0
          have ck1 : V3.cell? ⟨Gk, 1, none⟩ = some (.int .i64 k.perm) := Hk3.out.cell 1
          have ck2 : V3.cell? ⟨Gk, 2, none⟩ = some (.int .u16 (uv k.pad)) := Hk3.out.cell 2
          have ok := Old.mk Hk3.out.lt
          have cm0 : V3.cell? ⟨Gm, 0, none⟩ = some (.int .i64 m.bits) := Hm3.out.cell 0
          have cm1 : V3.cell? ⟨Gm, 1, none⟩ = some (.int .i64 m.perm) := Hm3.out.cell 1
          have cm2 : V3.cell? ⟨Gm, 2, none⟩ = some (.int .u16 (uv m.pad)) := Hm3.out.cell 2
          have om := Old.mk Hm3.out.lt
          refine Calls.ext (C3.out _) fun z6 => ?_
          go_wp2_with fail
          have Ha4 := Lib.hid (((Ha3.out.ext z6)).alloc (.cells #[.int .i64 n.bits, .int .i64 n.perm, .int .u16 (uv n.pad)] 55))
          have Hb4 := Lib.hid (((Hb3.out.ext z6)).alloc (.cells #[.int .i64 n.bits, .int .i64 n.perm, .int .u16 (uv n.pad)] 55))
          have Hc4 := Lib.hid (((Hc3.out.ext z6)).alloc (.cells #[.int .i64 n.bits, .int .i64 n.perm, .int .u16 (uv n.pad)] 55))
          have Hk4 := Lib.hid (((Hk3.out.ext z6)).alloc (.cells #[.int .i64 n.bits, .int .i64 n.perm, .int .u16 (uv n.pad)] 55))
          have Hm4 := Lib.hid (((Hm3.out.ext z6)).alloc (.cells #[.int .i64 n.bits, .int .i64 n.perm, .int .u16 (uv n.pad)] 55))
          have HE4 := Lib.hid (((HE3.out.ext z6)).alloc (.cells #[.int .i64 n.bits, .int .i64 n.perm, .int .u16 (uv n.pad)] 55))
          have Hn4 := Lib.hid (Blk.new (ext V3 z6) 55 #[.int .i64 n.bits, .int .i64 n.perm, .int .u16 (uv n.pad)])
          clear ca0 ca1 ca2 oa cb0 cb1 cb2 ob cc0 cc1 cc2 oc ck0 ck1 ck2 ok cm0 cm1 cm2 om
          generalize (ext V3 z6).alloc (.cells #[.int .i64 n.bits, .int .i64 n.perm, .int .u16 (uv n.pad)] 55) = V4 at *
          generalize (ext V3 z6).heap.size = Gn at *
          clear Ha3 Hb3 Hc3 Hk3 Hm3 HE3
          have ca0 : V4.cell? ⟨w.heap.size, 0, none⟩ = some (.int .i64 a.bits) := Ha4.out.cell 0
          have ca1 : V4.cell? ⟨w.heap.size, 1, none⟩ = some (.int .i64 a.perm) := Ha4.out.cell 1
          have ca2 : V4.cell? ⟨w.heap.size, 2, none⟩ = some (.int .u16 (uv a.pad)) := Ha4.out.cell 2
          have oa := Old.mk Ha4.out.lt
          have cb0 : V4.cell? ⟨w.heap.size + 1, 0, none⟩ = some (.int .i64 b.bits) := Hb4.out.cell 0
          have cb1 : V4.cell? ⟨w.heap.size + 1, 1, none⟩ = some (.int .i64 b.perm) := Hb4.out.cell 1
          have cb2 : V4.cell? ⟨w.heap.size + 1, 2, none⟩ = some (.int .u16 (uv b.pad)) := Hb4.out.cell 2
          have ob := Old.mk Hb4.out.lt
          have cc0 : V4.cell? ⟨w.heap.size + 1 + 1, 0, none⟩ = some (.int .i64 c.bits) := Hc4.out.cell 0
          have cc1 : V4.cell? ⟨w.heap.size + 1 + 1, 1, none⟩ = some (.int .i64 c.perm) := Hc4.out.cell 1
          have cc2 : V4.cell? ⟨w.heap.size + 1 + 1, 2, none⟩ = some (.int .u16 (uv c.pad)) := Hc4.out.cell 2
          have oc := Old.mk Hc4.out.lt
          have ck0 : V4.cell? ⟨Gk, 0, none⟩ = some (.int .i64 k.bits) := Hk4.out.cell 0
          have ck1 : V4.cell? ⟨Gk, 1, none⟩ = some (.int .i64 k.perm) := Hk4.out.cell 1
          have ck2 : V4.cell? ⟨Gk, 2, none⟩ = some (.int .u16 (uv k.pad)) := Hk4.out.cell 2
          have ok := Old.mk Hk4.out.lt
          have cm0 : V4.cell? ⟨Gm, 0, none⟩ = some (.int .i64 m.bits) := Hm4.out.cell 0
          have cm1 : V4.cell? ⟨Gm, 1, none⟩ = some (.int .i64 m.perm) := Hm4.out.cell 1
          have cm2 : V4.cell? ⟨Gm, 2, none⟩ = some (.int .u16 (uv m.pad)) := Hm4.out.cell 2
          have om := Old.mk Hm4.out.lt
          have cn0 : V4.cell? ⟨Gn, 0, none⟩ = some (.int .i64 n.bits) := Hn4.out.cell 0
          have cn1 : V4.cell? ⟨Gn, 1, none⟩ = some (.int .i64 n.perm) := Hn4.out.cell 1
          have cn2 : V4.cell? ⟨Gn, 2, none⟩ = some (.int .u16 (uv n.pad)) := Hn4.out.cell 2
          have on := Old.mk Hn4.out.lt
          refine Calls.ext (C4.out _) fun z7 => ?_
          go_wp2_with fail
          have Ha5 := Lib.hid (((Ha4.out.ext z7)).alloc (.cells #[.int .i64 o.bits, .int .i64 o.perm, .int .u16 (uv o.pad)] 55))
          have Hb5 := Lib.hid (((Hb4.out.ext z7)).alloc (.cells #[.int .i64 o.bits, .int .i64 o.perm, .int .u16 (uv o.pad)] 55))
          have Hc5 := Lib.hid (((Hc4.out.ext z7)).alloc (.cells #[.int .i64 o.bits, .int .i64 o.perm, .int .u16 (uv o.pad)] 55))
          have Hk5 := Lib.hid (((Hk4.out.ext z7)).alloc (.cells #[.int .i64 o.bits, .int .i64 o.perm, .int .u16 (uv o.pad)] 55))
          have Hm5 := Lib.hid (((Hm4.out.ext z7)).alloc (.cells #[.int .i64 o.bits, .int .i64 o.perm, .int .u16 (uv o.pad)] 55))
          have Hn5 := Lib.hid (((Hn4.out.ext z7)).alloc (.cells #[.int .i64 o.bits, .int .i64 o.perm, .int .u16 (uv o.pad)] 55))
          have HE5 := Lib.hid (((HE4.out.ext z7)).alloc (.cells #[.int .i64 o.bits, .int .i64 o.perm, .int .u16 (uv o.pad)] 55))
          have Ho5 := Lib.hid (Blk.new (ext V4 z7) 55 #[.int .i64 o.bits, .int .i64 o.perm, .int .u16 (uv o.pad)])
          clear ca0 ca1 ca2 oa cb0 cb1 cb2 ob cc0 cc1 cc2 oc ck0 ck1 ck2 ok cm0 cm1 cm2 om cn0 cn1 cn2 on
          generalize (ext V4 z7).alloc (.cells #[.int .i64 o.bits, .int .i64 o.perm, .int .u16 (uv o.pad)] 55) = V5 at *
          generalize (ext V4 z7).heap.size = Go at *
          clear Ha4 Hb4 Hc4 Hk4 Hm4 Hn4 HE4
          have ca0 : V5.cell? ⟨w.heap.size, 0, none⟩ = some (.int .i64 a.bits) := Ha5.out.cell 0
          have ca1 : V5.cell? ⟨w.heap.size, 1, none⟩ = some (.int .i64 a.perm) := Ha5.out.cell 1
          have ca2 : V5.cell? ⟨w.heap.size, 2, none⟩ = some (.int .u16 (uv a.pad)) := Ha5.out.cell 2
          have oa := Old.mk Ha5.out.lt
          have cb0 : V5.cell? ⟨w.heap.size + 1, 0, none⟩ = some (.int .i64 b.bits) := Hb5.out.cell 0
          have cb1 : V5.cell? ⟨w.heap.size + 1, 1, none⟩ = some (.int .i64 b.perm) := Hb5.out.cell 1
          have cb2 : V5.cell? ⟨w.heap.size + 1, 2, none⟩ = some (.int .u16 (uv b.pad)) := Hb5.out.cell 2
          have ob := Old.mk Hb5.out.lt
          have cc0 : V5.cell? ⟨w.heap.size + 1 + 1, 0, none⟩ = some (.int .i64 c.bits) := Hc5.out.cell 0
          have cc1 : V5.cell? ⟨w.heap.size + 1 + 1, 1, none⟩ = some (.int .i64 c.perm) := Hc5.out.cell 1
          have cc2 : V5.cell? ⟨w.heap.size + 1 + 1, 2, none⟩ = some (.int .u16 (uv c.pad)) := Hc5.out.cell 2
          have oc := Old.mk Hc5.out.lt
          have ck0 : V5.cell? ⟨Gk, 0, none⟩ = some (.int .i64 k.bits) := Hk5.out.cell 0
          have ck1 : V5.cell? ⟨Gk, 1, none⟩ = some (.int .i64 k.perm) := Hk5.out.cell 1
          have ck2 : V5.cell? ⟨Gk, 2, none⟩ = some (.int .u16 (uv k.pad)) := Hk5.out.cell 2
          have ok := Old.mk Hk5.out.lt
          have cm0 : V5.cell? ⟨Gm, 0, none⟩ = some (.int .i64 m.bits) := Hm5.out.cell 0
          have cm1 : V5.cell? ⟨Gm, 1, none⟩ = some (.int .i64 m.perm) := Hm5.out.cell 1
          have cm2 : V5.cell? ⟨Gm, 2, none⟩ = some (.int .u16 (uv m.pad)) := Hm5.out.cell 2
          have om := Old.mk Hm5.out.lt
          have cn0 : V5.cell? ⟨Gn, 0, none⟩ = some (.int .i64 n.bits) := Hn5.out.cell 0
          have cn1 : V5.cell? ⟨Gn, 1, none⟩ = some (.int .i64 n.perm) := Hn5.out.cell 1
          have cn2 : V5.cell? ⟨Gn, 2, none⟩ = some (.int .u16 (uv n.pad)) := Hn5.out.cell 2
          have on := Old.mk Hn5.out.lt
          have co0 : V5.cell? ⟨Go, 0, none⟩ = some (.int .i64 o.bits) := Ho5.out.cell 0
          have co1 : V5.cell? ⟨Go, 1, none⟩ = some (.int .i64 o.perm) := Ho5.out.cell 1
          have co2 : V5.cell? ⟨Go, 2, none⟩ = some (.int .u16 (uv o.pad)) := Ho5.out.cell 2
          have oo := Old.mk Ho5.out.lt
          refine Calls.ext (C5.out _) fun z8 => ?_
          go_wp2_with fail
          have Ha6 := Lib.hid (((Ha5.out.ext z8)).alloc (.cells #[.int .i64 o.bits, .int .i64 o.perm, .int .u16 (uv o.pad)] 55))
          have Hb6 := Lib.hid (((Hb5.out.ext z8)).alloc (.cells #[.int .i64 o.bits, .int .i64 o.perm, .int .u16 (uv o.pad)] 55))
          have Hc6 := Lib.hid (((Hc5.out.ext z8)).alloc (.cells #[.int .i64 o.bits, .int .i64 o.perm, .int .u16 (uv o.pad)] 55))
          have Hk6 := Lib.hid (((Hk5.out.ext z8)).alloc (.cells #[.int .i64 o.bits, .int .i64 o.perm, .int .u16 (uv o.pad)] 55))
          have Hm6 := Lib.hid (((Hm5.out.ext z8)).alloc (.cells #[.int .i64 o.bits, .int .i64 o.perm, .int .u16 (uv o.pad)] 55))
          have Hn6 := Lib.hid (((Hn5.out.ext z8)).alloc (.cells #[.int .i64 o.bits, .int .i64 o.perm, .int .u16 (uv o.pad)] 55))
          have Ho6 := Lib.hid (((Ho5.out.ext z8)).alloc (.cells #[.int .i64 o.bits, .int .i64 o.perm, .int .u16 (uv o.pad)] 55))
          have HE6 := Lib.hid (((HE5.out.ext z8)).alloc (.cells #[.int .i64 o.bits, .int .i64 o.perm, .int .u16 (uv o.pad)] 55))
          have Hboth6 := Lib.hid (Blk.new (ext V5 z8) 55 #[.int .i64 o.bits, .int .i64 o.perm, .int .u16 (uv o.pad)])
          clear ca0 ca1 ca2 oa cb0 cb1 cb2 ob cc0 cc1 cc2 oc ck0 ck1 ck2 ok cm0 cm1 cm2 om cn0 cn1 cn2 on co0 co1 co2 oo
          generalize (ext V5 z8).alloc (.cells #[.int .i64 o.bits, .int .i64 o.perm, .int .u16 (uv o.pad)] 55) = V6 at *
          generalize (ext V5 z8).heap.size = Gboth at *
          clear Ha5 Hb5 Hc5 Hk5 Hm5 Hn5 Ho5 HE5
          have ca0 : V6.cell? ⟨w.heap.size, 0, none⟩ = some (.int .i64 a.bits) := Ha6.out.cell 0
          have ca1 : V6.cell? ⟨w.heap.size, 1, none⟩ = some (.int .i64 a.perm) := Ha6.out.cell 1
          have ca2 : V6.cell? ⟨w.heap.size, 2, none⟩ = some (.int .u16 (uv a.pad)) := Ha6.out.cell 2
          have oa := Old.mk Ha6.out.lt
          have cb0 : V6.cell? ⟨w.heap.size + 1, 0, none⟩ = some (.int .i64 b.bits) := Hb6.out.cell 0
          have cb1 : V6.cell? ⟨w.heap.size + 1, 1, none⟩ = some (.int .i64 b.perm) := Hb6.out.cell 1
          have cb2 : V6.cell? ⟨w.heap.size + 1, 2, none⟩ = some (.int .u16 (uv b.pad)) := Hb6.out.cell 2
          have ob := Old.mk Hb6.out.lt
          have cc0 : V6.cell? ⟨w.heap.size + 1 + 1, 0, none⟩ = some (.int .i64 c.bits) := Hc6.out.cell 0
          have cc1 : V6.cell? ⟨w.heap.size + 1 + 1, 1, none⟩ = some (.int .i64 c.perm) := Hc6.out.cell 1
          have cc2 : V6.cell? ⟨w.heap.size + 1 + 1, 2, none⟩ = some (.int .u16 (uv c.pad)) := Hc6.out.cell 2
          have oc := Old.mk Hc6.out.lt
          have ck0 : V6.cell? ⟨Gk, 0, none⟩ = some (.int .i64 k.bits) := Hk6.out.cell 0
          have ck1 : V6.cell? ⟨Gk, 1, none⟩ = some (.int .i64 k.perm) := Hk6.out.cell 1
          have ck2 : V6.cell? ⟨Gk, 2, none⟩ = some (.int .u16 (uv k.pad)) := Hk6.out.cell 2
          have ok := Old.mk Hk6.out.lt
          have cm0 : V6.cell? ⟨Gm, 0, none⟩ = some (.int .i64 m.bits) := Hm6.out.cell 0
          have cm1 : V6.cell? ⟨Gm, 1, none⟩ = some (.int .i64 m.perm) := Hm6.out.cell 1
          have cm2 : V6.cell? ⟨Gm, 2, none⟩ = some (.int .u16 (uv m.pad)) := Hm6.out.cell 2
          have om := Old.mk Hm6.out.lt
          have cn0 : V6.cell? ⟨Gn, 0, none⟩ = some (.int .i64 n.bits) := Hn6.out.cell 0
          have cn1 : V6.cell? ⟨Gn, 1, none⟩ = some (.int .i64 n.perm) := Hn6.out.cell 1
          have cn2 : V6.cell? ⟨Gn, 2, none⟩ = some (.int .u16 (uv n.pad)) := Hn6.out.cell 2
          have on := Old.mk Hn6.out.lt
          have co0 : V6.cell? ⟨Go, 0, none⟩ = some (.int .i64 o.bits) := Ho6.out.cell 0
          have co1 : V6.cell? ⟨Go, 1, none⟩ = some (.int .i64 o.perm) := Ho6.out.cell 1
          have co2 : V6.cell? ⟨Go, 2, none⟩ = some (.int .u16 (uv o.pad)) := Ho6.out.cell 2
          have oo := Old.mk Ho6.out.lt
          have cboth0 : V6.cell? ⟨Gboth, 0, none⟩ = some (.int .i64 o.bits) := Hboth6.out.cell 0
          have cboth1 : V6.cell? ⟨Gboth, 1, none⟩ = some (.int .i64 o.perm) := Hboth6.out.cell 1
          have cboth2 : V6.cell? ⟨Gboth, 2, none⟩ = some (.int .u16 (uv o.pad)) := Hboth6.out.cell 2
          have oboth := Old.mk Hboth6.out.lt
          refine Calls.ext (C6.out _) fun z9 => ?_
          go_wp2_with fail
          refine Calls.ext (C7.out _) fun z10 => ?_
          go_wp2_with fail
          refine Calls.ext (C8.out _) fun z11 => ?_
          go_wp2_with fail
          refine Calls.ext (C9.out _) fun z12 => ?_
          go_wp2_with fail
          go_ret
          exact ⟨rfl, ((((HE6.out.ext z9).ext z10).ext z11).ext z12)⟩
set_option maxRecDepth 100000 in
theorem veilRenewed_lifted (os : Os) (started : os.Started) (H : Type) (enc : TypeId × Value → H) :
    ReturnsInHanded {} Try.checked os 14 .any (Rows.veilRenewedSpec.pre6 enc Try.prog Try.f14 Rows.veilRenewedRow.domain false) (Rows.veilRenewedSpec.post enc Try.prog Try.f14 false true false false) := by
  refine returnsInHanded_of_change (C := Try.checked) own started (by kernel_rfl) Try.func14
    (ChangeSpec.witness6 (enc := enc) (C := Try.checked) false ⟨#[], #[.agg #[.int .i64 0, .int .i64 0, .int .u16 0], .agg #[.int .i64 0, .int .i64 0, .int .u16 0], .agg #[.int .i64 0, .int .i64 0, .int .u16 0], .int .u16 0], []⟩ 8 (by kernel_rfl) (by kernel_rfl) (by kernel_rfl) (by kernel_rfl)) ?_
  intro W base args ds gs before hval0 hW hcnd _
  have hval : ∀ (j : Nat) t v, Try.f14.params[j]? = some t → args[j]? = some v → Value.okWide Try.prog W .any base t v := hval0
  have hW' := hW
  obtain ⟨p, q, hA0, hV, rfl, hfz, hnd⟩ := hW
  have hA : DataW.TrodAll enc Try.prog W 0 (fun _ => true) true Try.f14.params.toList args.toList ds p := hA0
  rw [Try.params14] at hA hval
  obtain ⟨v0, vs0, d0, ds0, p0, q0, hargs, rfl, rfl, h0, r0⟩ := trodAll_cons hA
  obtain ⟨v1, vs1, d1, ds1, p1, q1, rfl, rfl, rfl, h1, r1⟩ := trodAll_cons r0
  obtain ⟨v2, vs2, d2, ds2, p2, q2, rfl, rfl, rfl, h2, r2⟩ := trodAll_cons r1
  obtain ⟨v3, vs3, d3, ds3, p3, q3, rfl, rfl, rfl, h3, r3⟩ := trodAll_cons r2
  obtain ⟨rfl, rfl, rfl⟩ := trodAll_nil r3
  obtain rfl : args = #[v0, v1, v2, v3] := by cases args; simp_all
  obtain ⟨rfl, rfl⟩ := trodVars_none hV
  have k0 := h0
  have lt0 : ∀ x ∈ p0, x.block < W.heap.size := by obtain ⟨m, hm⟩ := k0; exact DataW.trod_lt m _ _ _ hm
  obtain ⟨ns0, hl0, hv0, wf0⟩ := open_nums (ks := [.i64, .i64, .u16]) Try.underlying55 (by kernel_rfl) (by kernel_rfl) (kindsOf_of (by kernel_rfl)) (hval 0 55 v0 rfl rfl) h0
  have k1 := h1
  have lt1 : ∀ x ∈ p1, x.block < W.heap.size := by obtain ⟨m, hm⟩ := k1; exact DataW.trod_lt m _ _ _ hm
  obtain ⟨ns1, hl1, hv1, wf1⟩ := open_nums (ks := [.i64, .i64, .u16]) Try.underlying55 (by kernel_rfl) (by kernel_rfl) (kindsOf_of (by kernel_rfl)) (hval 1 55 v1 rfl rfl) h1
  have k2 := h2
  have lt2 : ∀ x ∈ p2, x.block < W.heap.size := by obtain ⟨m, hm⟩ := k2; exact DataW.trod_lt m _ _ _ hm
  obtain ⟨ns2, hl2, hv2, wf2⟩ := open_nums (ks := [.i64, .i64, .u16]) Try.underlying55 (by kernel_rfl) (by kernel_rfl) (kindsOf_of (by kernel_rfl)) (hval 2 55 v2 rfl rfl) h2
  have k3 := h3
  have lt3 : ∀ x ∈ p3, x.block < W.heap.size := by obtain ⟨m, hm⟩ := k3; exact DataW.trod_lt m _ _ _ hm
  obtain ⟨a3, rfl, _, _, w3⟩ := open_int Try.underlying27 (hval 3 27 v3 rfl rfl) h3
  clear hA0 hval0
  obtain ⟨ky0, hky0⟩ := key_of hl0 wf0
  rw [hky0] at hv0
  subst hv0
  obtain ⟨ky1, hky1⟩ := key_of hl1 wf1
  rw [hky1] at hv1
  subst hv1
  obtain ⟨ky2, hky2⟩ := key_of hl2 wf2
  rw [hky2] at hv2
  subst hv2
  have e3 := uv_of w3
  generalize BitVec.ofNat 16 a3.toNat = x3 at e3
  subst e3
  refine (veilRenewed_walk ky0 ky1 ky2 x3 W).mono fun e W' ⟨he, bel⟩ => ?_
  subst he
  exact ⟨_, rfl, _, _, _, [], _, [], hW', trodAll_mk1 (shut_bool Try.underlying4 _), (trodAll_cons_mk (Below.trod laidOut (by kernel_rfl) (of_decide_eq_true (by kernel_rfl)) k0 bel lt0) (trodAll_cons_mk (Below.trod laidOut (by kernel_rfl) (of_decide_eq_true (by kernel_rfl)) k1 bel lt1) (trodAll_cons_mk (Below.trod laidOut (by kernel_rfl) (of_decide_eq_true (by kernel_rfl)) k2 bel lt2) (trodAll_cons_mk (Below.trod laidOut (by kernel_rfl) (of_decide_eq_true (by kernel_rfl)) k3 bel lt3) trodAll_mk0)))), rfl, Below.frame bel _, fun h => by cases h⟩

theorem veilRenewed_holds : Rows.VeilRenewedSaid :=
  OpenClaim.holds_of_wide 14 Try.f14 rfl rfl rfl rfl rfl rfl rfl ⟨rfl, rfl, rfl, rfl, rfl⟩ rfl rfl rfl rfl rfl (by kernel_rfl) Try.func14 (by kernel_rfl)
    (of_decide_eq_true (by kernel_rfl)) (by unfold Func.isWrapper; first | (rw [if_pos (by decide +kernel)]; kernel_rfl) | (rw [if_neg (by decide +kernel)]; exact ⟨rfl, rfl⟩))
    (fun os started H enc _ => veilRenewed_lifted os started H enc)
end Go.Proofs.Ytfdcapblgdlkaaa
