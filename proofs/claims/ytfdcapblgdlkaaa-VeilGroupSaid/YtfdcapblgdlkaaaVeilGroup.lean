/- Proved: for all keys a, b, c and words w, the call of whorllaw06.VeilGroup returns true and leaves its arguments as they were. No conditions. -/
import Derived.Test.YtfdcapblgdlkaaaAlive
import Derived.Test.YtfdcapblgdlkaaaKeyLaw2
import Derived.Test.YtfdcapblgdlkaaaArgs
namespace Go.Proofs.Ytfdcapblgdlkaaa
open Go.Joins Go.ChangeShapes Go.WideShapes Go.RowKit Go.Deep Go.ChangeAt

set_option maxRecDepth 100000 in
set_option maxHeartbeats 8000000 in
theorem veilGroup_walk (a b c : K) (x : BitVec 16) (w : World) : Calls Try.prog 13 #[a.val, b.val, c.val, .int .u16 (uv x)] w fun e w' => e = .returned (.bool true) ∧ Ext w w' := by
  have D1 := fun w => refValid_any a w
  have D2 := fun w => refValid_any b w
  have D3 := fun w => refValid_any c w
  cases ka : okK a
  · rw [ka] at D1
    have D1 := Lib.hid D1
    clear ka D2 D3
    go_enter Try.func13, Try.ntmps13
    go_wp2_with fail
    refine Calls.ext (alive_any _) fun z0 => ?_
    have Ha0 := Lib.hid ((((Blk.new w 55 #[.int .i64 a.bits, .int .i64 a.perm, .int .u16 (uv a.pad)]).alloc (.cells #[.int .i64 b.bits, .int .i64 b.perm, .int .u16 (uv b.pad)] 55)).alloc (.cells #[.int .i64 c.bits, .int .i64 c.perm, .int .u16 (uv c.pad)] 55)).ext z0)
    have Hb0 := Lib.hid (((Blk.new' (w.alloc (.cells #[.int .i64 a.bits, .int .i64 a.perm, .int .u16 (uv a.pad)] 55)) 55 #[.int .i64 b.bits, .int .i64 b.perm, .int .u16 (uv b.pad)] (w.heap.size + 1) (by simp)).alloc (.cells #[.int .i64 c.bits, .int .i64 c.perm, .int .u16 (uv c.pad)] 55)).ext z0)
    have Hc0 := Lib.hid ((Blk.new' ((w.alloc (.cells #[.int .i64 a.bits, .int .i64 a.perm, .int .u16 (uv a.pad)] 55)).alloc (.cells #[.int .i64 b.bits, .int .i64 b.perm, .int .u16 (uv b.pad)] 55)) 55 #[.int .i64 c.bits, .int .i64 c.perm, .int .u16 (uv c.pad)] (w.heap.size + 1 + 1) (by simp)).ext z0)
    have HE0 := Lib.hid (((((Ext.refl w).alloc (.cells #[.int .i64 a.bits, .int .i64 a.perm, .int .u16 (uv a.pad)] 55)).alloc (.cells #[.int .i64 b.bits, .int .i64 b.perm, .int .u16 (uv b.pad)] 55)).alloc (.cells #[.int .i64 c.bits, .int .i64 c.perm, .int .u16 (uv c.pad)] 55)).ext z0)
    generalize ext (((w.alloc (.cells #[.int .i64 a.bits, .int .i64 a.perm, .int .u16 (uv a.pad)] 55)).alloc (.cells #[.int .i64 b.bits, .int .i64 b.perm, .int .u16 (uv b.pad)] 55)).alloc (.cells #[.int .i64 c.bits, .int .i64 c.perm, .int .u16 (uv c.pad)] 55)) z0 = V0 at *
    have ca0 : V0.cell? ⟨w.heap.size, 0, none⟩ = some (.int .i64 a.bits) := Ha0.out.cell 0
    have ca1 : V0.cell? ⟨w.heap.size, 1, none⟩ = some (.int .i64 a.perm) := Ha0.out.cell 1
    have ca2 : V0.cell? ⟨w.heap.size, 2, none⟩ = some (.int .u16 (uv a.pad)) := Ha0.out.cell 2
    have oa := Old.mk Ha0.out.lt
    have cb0 : V0.cell? ⟨w.heap.size + 1, 0, none⟩ = some (.int .i64 b.bits) := Hb0.out.cell 0
    have cb1 : V0.cell? ⟨w.heap.size + 1, 1, none⟩ = some (.int .i64 b.perm) := Hb0.out.cell 1
    have cb2 : V0.cell? ⟨w.heap.size + 1, 2, none⟩ = some (.int .u16 (uv b.pad)) := Hb0.out.cell 2
    have ob := Old.mk Hb0.out.lt
    have cc0 : V0.cell? ⟨w.heap.size + 1 + 1, 0, none⟩ = some (.int .i64 c.bits) := Hc0.out.cell 0
    have cc1 : V0.cell? ⟨w.heap.size + 1 + 1, 1, none⟩ = some (.int .i64 c.perm) := Hc0.out.cell 1
    have cc2 : V0.cell? ⟨w.heap.size + 1 + 1, 2, none⟩ = some (.int .u16 (uv c.pad)) := Hc0.out.cell 2
    have oc := Old.mk Hc0.out.lt
    go_wp2_with fail
    refine Calls.ext (D1.out _) fun z1 => ?_
    go_wp2_with fail
    go_ret
    exact ⟨rfl, (HE0.out.ext z1)⟩
  · rw [ka] at D1
    cases kb : okK b
    · rw [kb] at D2
      have D1 := Lib.hid D1; have D2 := Lib.hid D2
      clear ka kb D3
      go_enter Try.func13, Try.ntmps13
      go_wp2_with fail
      refine Calls.ext (alive_any _) fun z0 => ?_
      have Ha0 := Lib.hid ((((Blk.new w 55 #[.int .i64 a.bits, .int .i64 a.perm, .int .u16 (uv a.pad)]).alloc (.cells #[.int .i64 b.bits, .int .i64 b.perm, .int .u16 (uv b.pad)] 55)).alloc (.cells #[.int .i64 c.bits, .int .i64 c.perm, .int .u16 (uv c.pad)] 55)).ext z0)
      have Hb0 := Lib.hid (((Blk.new' (w.alloc (.cells #[.int .i64 a.bits, .int .i64 a.perm, .int .u16 (uv a.pad)] 55)) 55 #[.int .i64 b.bits, .int .i64 b.perm, .int .u16 (uv b.pad)] (w.heap.size + 1) (by simp)).alloc (.cells #[.int .i64 c.bits, .int .i64 c.perm, .int .u16 (uv c.pad)] 55)).ext z0)
      have Hc0 := Lib.hid ((Blk.new' ((w.alloc (.cells #[.int .i64 a.bits, .int .i64 a.perm, .int .u16 (uv a.pad)] 55)).alloc (.cells #[.int .i64 b.bits, .int .i64 b.perm, .int .u16 (uv b.pad)] 55)) 55 #[.int .i64 c.bits, .int .i64 c.perm, .int .u16 (uv c.pad)] (w.heap.size + 1 + 1) (by simp)).ext z0)
      have HE0 := Lib.hid (((((Ext.refl w).alloc (.cells #[.int .i64 a.bits, .int .i64 a.perm, .int .u16 (uv a.pad)] 55)).alloc (.cells #[.int .i64 b.bits, .int .i64 b.perm, .int .u16 (uv b.pad)] 55)).alloc (.cells #[.int .i64 c.bits, .int .i64 c.perm, .int .u16 (uv c.pad)] 55)).ext z0)
      generalize ext (((w.alloc (.cells #[.int .i64 a.bits, .int .i64 a.perm, .int .u16 (uv a.pad)] 55)).alloc (.cells #[.int .i64 b.bits, .int .i64 b.perm, .int .u16 (uv b.pad)] 55)).alloc (.cells #[.int .i64 c.bits, .int .i64 c.perm, .int .u16 (uv c.pad)] 55)) z0 = V0 at *
      have ca0 : V0.cell? ⟨w.heap.size, 0, none⟩ = some (.int .i64 a.bits) := Ha0.out.cell 0
      have ca1 : V0.cell? ⟨w.heap.size, 1, none⟩ = some (.int .i64 a.perm) := Ha0.out.cell 1
      have ca2 : V0.cell? ⟨w.heap.size, 2, none⟩ = some (.int .u16 (uv a.pad)) := Ha0.out.cell 2
      have oa := Old.mk Ha0.out.lt
      have cb0 : V0.cell? ⟨w.heap.size + 1, 0, none⟩ = some (.int .i64 b.bits) := Hb0.out.cell 0
      have cb1 : V0.cell? ⟨w.heap.size + 1, 1, none⟩ = some (.int .i64 b.perm) := Hb0.out.cell 1
      have cb2 : V0.cell? ⟨w.heap.size + 1, 2, none⟩ = some (.int .u16 (uv b.pad)) := Hb0.out.cell 2
      have ob := Old.mk Hb0.out.lt
      have cc0 : V0.cell? ⟨w.heap.size + 1 + 1, 0, none⟩ = some (.int .i64 c.bits) := Hc0.out.cell 0
      have cc1 : V0.cell? ⟨w.heap.size + 1 + 1, 1, none⟩ = some (.int .i64 c.perm) := Hc0.out.cell 1
      have cc2 : V0.cell? ⟨w.heap.size + 1 + 1, 2, none⟩ = some (.int .u16 (uv c.pad)) := Hc0.out.cell 2
      have oc := Old.mk Hc0.out.lt
      go_wp2_with fail
      refine Calls.ext (D1.out _) fun z1 => ?_
      go_wp2_with fail
      refine Calls.ext (D2.out _) fun z2 => ?_
      go_wp2_with fail
      go_ret
      exact ⟨rfl, ((HE0.out.ext z1).ext z2)⟩
    · rw [kb] at D2
      cases kc : okK c
      · rw [kc] at D3
        have D1 := Lib.hid D1; have D2 := Lib.hid D2; have D3 := Lib.hid D3
        clear ka kb kc
        go_enter Try.func13, Try.ntmps13
        go_wp2_with fail
        refine Calls.ext (alive_any _) fun z0 => ?_
        have Ha0 := Lib.hid ((((Blk.new w 55 #[.int .i64 a.bits, .int .i64 a.perm, .int .u16 (uv a.pad)]).alloc (.cells #[.int .i64 b.bits, .int .i64 b.perm, .int .u16 (uv b.pad)] 55)).alloc (.cells #[.int .i64 c.bits, .int .i64 c.perm, .int .u16 (uv c.pad)] 55)).ext z0)
        have Hb0 := Lib.hid (((Blk.new' (w.alloc (.cells #[.int .i64 a.bits, .int .i64 a.perm, .int .u16 (uv a.pad)] 55)) 55 #[.int .i64 b.bits, .int .i64 b.perm, .int .u16 (uv b.pad)] (w.heap.size + 1) (by simp)).alloc (.cells #[.int .i64 c.bits, .int .i64 c.perm, .int .u16 (uv c.pad)] 55)).ext z0)
        have Hc0 := Lib.hid ((Blk.new' ((w.alloc (.cells #[.int .i64 a.bits, .int .i64 a.perm, .int .u16 (uv a.pad)] 55)).alloc (.cells #[.int .i64 b.bits, .int .i64 b.perm, .int .u16 (uv b.pad)] 55)) 55 #[.int .i64 c.bits, .int .i64 c.perm, .int .u16 (uv c.pad)] (w.heap.size + 1 + 1) (by simp)).ext z0)
        have HE0 := Lib.hid (((((Ext.refl w).alloc (.cells #[.int .i64 a.bits, .int .i64 a.perm, .int .u16 (uv a.pad)] 55)).alloc (.cells #[.int .i64 b.bits, .int .i64 b.perm, .int .u16 (uv b.pad)] 55)).alloc (.cells #[.int .i64 c.bits, .int .i64 c.perm, .int .u16 (uv c.pad)] 55)).ext z0)
        generalize ext (((w.alloc (.cells #[.int .i64 a.bits, .int .i64 a.perm, .int .u16 (uv a.pad)] 55)).alloc (.cells #[.int .i64 b.bits, .int .i64 b.perm, .int .u16 (uv b.pad)] 55)).alloc (.cells #[.int .i64 c.bits, .int .i64 c.perm, .int .u16 (uv c.pad)] 55)) z0 = V0 at *
        have ca0 : V0.cell? ⟨w.heap.size, 0, none⟩ = some (.int .i64 a.bits) := Ha0.out.cell 0
        have ca1 : V0.cell? ⟨w.heap.size, 1, none⟩ = some (.int .i64 a.perm) := Ha0.out.cell 1
        have ca2 : V0.cell? ⟨w.heap.size, 2, none⟩ = some (.int .u16 (uv a.pad)) := Ha0.out.cell 2
        have oa := Old.mk Ha0.out.lt
        have cb0 : V0.cell? ⟨w.heap.size + 1, 0, none⟩ = some (.int .i64 b.bits) := Hb0.out.cell 0
        have cb1 : V0.cell? ⟨w.heap.size + 1, 1, none⟩ = some (.int .i64 b.perm) := Hb0.out.cell 1
        have cb2 : V0.cell? ⟨w.heap.size + 1, 2, none⟩ = some (.int .u16 (uv b.pad)) := Hb0.out.cell 2
        have ob := Old.mk Hb0.out.lt
        have cc0 : V0.cell? ⟨w.heap.size + 1 + 1, 0, none⟩ = some (.int .i64 c.bits) := Hc0.out.cell 0
        have cc1 : V0.cell? ⟨w.heap.size + 1 + 1, 1, none⟩ = some (.int .i64 c.perm) := Hc0.out.cell 1
        have cc2 : V0.cell? ⟨w.heap.size + 1 + 1, 2, none⟩ = some (.int .u16 (uv c.pad)) := Hc0.out.cell 2
        have oc := Old.mk Hc0.out.lt
        go_wp2_with fail
        refine Calls.ext (D1.out _) fun z1 => ?_
        go_wp2_with fail
        refine Calls.ext (D2.out _) fun z2 => ?_
        go_wp2_with fail
        refine Calls.ext (D3.out _) fun z3 => ?_
        go_wp2_with fail
        go_ret
        exact ⟨rfl, (((HE0.out.ext z1).ext z2).ext z3)⟩
      · rw [kc] at D3
        by_cases hab : a.bits = b.bits
        rotate_left
        · have e1 : (a.bits == b.bits) = false ∧ (a.bits != b.bits) = true ∧ decide (a.bits = b.bits) = false := (by simp [hab]); obtain ⟨e1, e1x, e1y⟩ := e1
          have D1 := Lib.hid D1; have D2 := Lib.hid D2; have D3 := Lib.hid D3
          clear ka kb kc hab
          go_enter Try.func13, Try.ntmps13
          go_wp2_with fail
          refine Calls.ext (alive_any _) fun z0 => ?_
          have Ha0 := Lib.hid ((((Blk.new w 55 #[.int .i64 a.bits, .int .i64 a.perm, .int .u16 (uv a.pad)]).alloc (.cells #[.int .i64 b.bits, .int .i64 b.perm, .int .u16 (uv b.pad)] 55)).alloc (.cells #[.int .i64 c.bits, .int .i64 c.perm, .int .u16 (uv c.pad)] 55)).ext z0)
          have Hb0 := Lib.hid (((Blk.new' (w.alloc (.cells #[.int .i64 a.bits, .int .i64 a.perm, .int .u16 (uv a.pad)] 55)) 55 #[.int .i64 b.bits, .int .i64 b.perm, .int .u16 (uv b.pad)] (w.heap.size + 1) (by simp)).alloc (.cells #[.int .i64 c.bits, .int .i64 c.perm, .int .u16 (uv c.pad)] 55)).ext z0)
          have Hc0 := Lib.hid ((Blk.new' ((w.alloc (.cells #[.int .i64 a.bits, .int .i64 a.perm, .int .u16 (uv a.pad)] 55)).alloc (.cells #[.int .i64 b.bits, .int .i64 b.perm, .int .u16 (uv b.pad)] 55)) 55 #[.int .i64 c.bits, .int .i64 c.perm, .int .u16 (uv c.pad)] (w.heap.size + 1 + 1) (by simp)).ext z0)
          have HE0 := Lib.hid (((((Ext.refl w).alloc (.cells #[.int .i64 a.bits, .int .i64 a.perm, .int .u16 (uv a.pad)] 55)).alloc (.cells #[.int .i64 b.bits, .int .i64 b.perm, .int .u16 (uv b.pad)] 55)).alloc (.cells #[.int .i64 c.bits, .int .i64 c.perm, .int .u16 (uv c.pad)] 55)).ext z0)
          generalize ext (((w.alloc (.cells #[.int .i64 a.bits, .int .i64 a.perm, .int .u16 (uv a.pad)] 55)).alloc (.cells #[.int .i64 b.bits, .int .i64 b.perm, .int .u16 (uv b.pad)] 55)).alloc (.cells #[.int .i64 c.bits, .int .i64 c.perm, .int .u16 (uv c.pad)] 55)) z0 = V0 at *
          have ca0 : V0.cell? ⟨w.heap.size, 0, none⟩ = some (.int .i64 a.bits) := Ha0.out.cell 0
          have ca1 : V0.cell? ⟨w.heap.size, 1, none⟩ = some (.int .i64 a.perm) := Ha0.out.cell 1
          have ca2 : V0.cell? ⟨w.heap.size, 2, none⟩ = some (.int .u16 (uv a.pad)) := Ha0.out.cell 2
          have oa := Old.mk Ha0.out.lt
          have cb0 : V0.cell? ⟨w.heap.size + 1, 0, none⟩ = some (.int .i64 b.bits) := Hb0.out.cell 0
          have cb1 : V0.cell? ⟨w.heap.size + 1, 1, none⟩ = some (.int .i64 b.perm) := Hb0.out.cell 1
          have cb2 : V0.cell? ⟨w.heap.size + 1, 2, none⟩ = some (.int .u16 (uv b.pad)) := Hb0.out.cell 2
          have ob := Old.mk Hb0.out.lt
          have cc0 : V0.cell? ⟨w.heap.size + 1 + 1, 0, none⟩ = some (.int .i64 c.bits) := Hc0.out.cell 0
          have cc1 : V0.cell? ⟨w.heap.size + 1 + 1, 1, none⟩ = some (.int .i64 c.perm) := Hc0.out.cell 1
          have cc2 : V0.cell? ⟨w.heap.size + 1 + 1, 2, none⟩ = some (.int .u16 (uv c.pad)) := Hc0.out.cell 2
          have oc := Old.mk Hc0.out.lt
          go_wp2_with fail
          refine Calls.ext (D1.out _) fun z1 => ?_
          go_wp2_with fail
          refine Calls.ext (D2.out _) fun z2 => ?_
          go_wp2_with fail
          refine Calls.ext (D3.out _) fun z3 => ?_
          go_wp2_with fail
          go_ret
          exact ⟨rfl, (((HE0.out.ext z1).ext z2).ext z3)⟩
        by_cases hac : a.bits = c.bits
        rotate_left
        · have e1 : (a.bits == b.bits) = true ∧ (a.bits != b.bits) = false ∧ decide (a.bits = b.bits) = true := (by simp [hab]); obtain ⟨e1, e1x, e1y⟩ := e1
          have e2 : (a.bits == c.bits) = false ∧ (a.bits != c.bits) = true ∧ decide (a.bits = c.bits) = false := (by simp [hac]); obtain ⟨e2, e2x, e2y⟩ := e2
          have D1 := Lib.hid D1; have D2 := Lib.hid D2; have D3 := Lib.hid D3
          clear ka kb kc hab hac
          go_enter Try.func13, Try.ntmps13
          go_wp2_with fail
          refine Calls.ext (alive_any _) fun z0 => ?_
          have Ha0 := Lib.hid ((((Blk.new w 55 #[.int .i64 a.bits, .int .i64 a.perm, .int .u16 (uv a.pad)]).alloc (.cells #[.int .i64 b.bits, .int .i64 b.perm, .int .u16 (uv b.pad)] 55)).alloc (.cells #[.int .i64 c.bits, .int .i64 c.perm, .int .u16 (uv c.pad)] 55)).ext z0)
          have Hb0 := Lib.hid (((Blk.new' (w.alloc (.cells #[.int .i64 a.bits, .int .i64 a.perm, .int .u16 (uv a.pad)] 55)) 55 #[.int .i64 b.bits, .int .i64 b.perm, .int .u16 (uv b.pad)] (w.heap.size + 1) (by simp)).alloc (.cells #[.int .i64 c.bits, .int .i64 c.perm, .int .u16 (uv c.pad)] 55)).ext z0)
          have Hc0 := Lib.hid ((Blk.new' ((w.alloc (.cells #[.int .i64 a.bits, .int .i64 a.perm, .int .u16 (uv a.pad)] 55)).alloc (.cells #[.int .i64 b.bits, .int .i64 b.perm, .int .u16 (uv b.pad)] 55)) 55 #[.int .i64 c.bits, .int .i64 c.perm, .int .u16 (uv c.pad)] (w.heap.size + 1 + 1) (by simp)).ext z0)
          have HE0 := Lib.hid (((((Ext.refl w).alloc (.cells #[.int .i64 a.bits, .int .i64 a.perm, .int .u16 (uv a.pad)] 55)).alloc (.cells #[.int .i64 b.bits, .int .i64 b.perm, .int .u16 (uv b.pad)] 55)).alloc (.cells #[.int .i64 c.bits, .int .i64 c.perm, .int .u16 (uv c.pad)] 55)).ext z0)
          generalize ext (((w.alloc (.cells #[.int .i64 a.bits, .int .i64 a.perm, .int .u16 (uv a.pad)] 55)).alloc (.cells #[.int .i64 b.bits, .int .i64 b.perm, .int .u16 (uv b.pad)] 55)).alloc (.cells #[.int .i64 c.bits, .int .i64 c.perm, .int .u16 (uv c.pad)] 55)) z0 = V0 at *
          have ca0 : V0.cell? ⟨w.heap.size, 0, none⟩ = some (.int .i64 a.bits) := Ha0.out.cell 0
          have ca1 : V0.cell? ⟨w.heap.size, 1, none⟩ = some (.int .i64 a.perm) := Ha0.out.cell 1
          have ca2 : V0.cell? ⟨w.heap.size, 2, none⟩ = some (.int .u16 (uv a.pad)) := Ha0.out.cell 2
          have oa := Old.mk Ha0.out.lt
          have cb0 : V0.cell? ⟨w.heap.size + 1, 0, none⟩ = some (.int .i64 b.bits) := Hb0.out.cell 0
          have cb1 : V0.cell? ⟨w.heap.size + 1, 1, none⟩ = some (.int .i64 b.perm) := Hb0.out.cell 1
          have cb2 : V0.cell? ⟨w.heap.size + 1, 2, none⟩ = some (.int .u16 (uv b.pad)) := Hb0.out.cell 2
          have ob := Old.mk Hb0.out.lt
          have cc0 : V0.cell? ⟨w.heap.size + 1 + 1, 0, none⟩ = some (.int .i64 c.bits) := Hc0.out.cell 0
          have cc1 : V0.cell? ⟨w.heap.size + 1 + 1, 1, none⟩ = some (.int .i64 c.perm) := Hc0.out.cell 1
          have cc2 : V0.cell? ⟨w.heap.size + 1 + 1, 2, none⟩ = some (.int .u16 (uv c.pad)) := Hc0.out.cell 2
          have oc := Old.mk Hc0.out.lt
          go_wp2_with fail
          refine Calls.ext (D1.out _) fun z1 => ?_
          go_wp2_with fail
          refine Calls.ext (D2.out _) fun z2 => ?_
          go_wp2_with fail
          refine Calls.ext (D3.out _) fun z3 => ?_
          go_wp2_with fail
          go_ret
          exact ⟨rfl, (((HE0.out.ext z1).ext z2).ext z3)⟩
        have e1 : (a.bits == b.bits) = true ∧ (a.bits != b.bits) = false ∧ decide (a.bits = b.bits) = true := (by simp [hab]); obtain ⟨e1, e1x, e1y⟩ := e1
        have e2 : (a.bits == c.bits) = true ∧ (a.bits != c.bits) = false ∧ decide (a.bits = c.bits) = true := (by simp [hac]); obtain ⟨e2, e2x, e2y⟩ := e2
        obtain ⟨pa, pn, ha15, -, hbits, -⟩ := ok_perm ka
        have CF : ∀ w, Calls Try.prog 44 #[.int .i64 a.bits, .int .u16 (uv x)] w fun e w' => e = .returned (.bool (fitB a.n x)) ∧ w = w' := fun w => by rw [hbits]; exact fits_any a.n (by omega) x w
        cases hx : fitB a.n x
        · rw [hx] at CF
          have D1 := Lib.hid D1; have D2 := Lib.hid D2; have D3 := Lib.hid D3
          have CF := Lib.hid CF
          clear ka kb kc hab hac pa pn ha15 hbits hx
          go_enter Try.func13, Try.ntmps13
          go_wp2_with fail
          refine Calls.ext (alive_any _) fun z0 => ?_
          have Ha0 := Lib.hid ((((Blk.new w 55 #[.int .i64 a.bits, .int .i64 a.perm, .int .u16 (uv a.pad)]).alloc (.cells #[.int .i64 b.bits, .int .i64 b.perm, .int .u16 (uv b.pad)] 55)).alloc (.cells #[.int .i64 c.bits, .int .i64 c.perm, .int .u16 (uv c.pad)] 55)).ext z0)
          have Hb0 := Lib.hid (((Blk.new' (w.alloc (.cells #[.int .i64 a.bits, .int .i64 a.perm, .int .u16 (uv a.pad)] 55)) 55 #[.int .i64 b.bits, .int .i64 b.perm, .int .u16 (uv b.pad)] (w.heap.size + 1) (by simp)).alloc (.cells #[.int .i64 c.bits, .int .i64 c.perm, .int .u16 (uv c.pad)] 55)).ext z0)
          have Hc0 := Lib.hid ((Blk.new' ((w.alloc (.cells #[.int .i64 a.bits, .int .i64 a.perm, .int .u16 (uv a.pad)] 55)).alloc (.cells #[.int .i64 b.bits, .int .i64 b.perm, .int .u16 (uv b.pad)] 55)) 55 #[.int .i64 c.bits, .int .i64 c.perm, .int .u16 (uv c.pad)] (w.heap.size + 1 + 1) (by simp)).ext z0)
          have HE0 := Lib.hid (((((Ext.refl w).alloc (.cells #[.int .i64 a.bits, .int .i64 a.perm, .int .u16 (uv a.pad)] 55)).alloc (.cells #[.int .i64 b.bits, .int .i64 b.perm, .int .u16 (uv b.pad)] 55)).alloc (.cells #[.int .i64 c.bits, .int .i64 c.perm, .int .u16 (uv c.pad)] 55)).ext z0)
          generalize ext (((w.alloc (.cells #[.int .i64 a.bits, .int .i64 a.perm, .int .u16 (uv a.pad)] 55)).alloc (.cells #[.int .i64 b.bits, .int .i64 b.perm, .int .u16 (uv b.pad)] 55)).alloc (.cells #[.int .i64 c.bits, .int .i64 c.perm, .int .u16 (uv c.pad)] 55)) z0 = V0 at *
          have ca0 : V0.cell? ⟨w.heap.size, 0, none⟩ = some (.int .i64 a.bits) := Ha0.out.cell 0
          have ca1 : V0.cell? ⟨w.heap.size, 1, none⟩ = some (.int .i64 a.perm) := Ha0.out.cell 1
          have ca2 : V0.cell? ⟨w.heap.size, 2, none⟩ = some (.int .u16 (uv a.pad)) := Ha0.out.cell 2
          have oa := Old.mk Ha0.out.lt
          have cb0 : V0.cell? ⟨w.heap.size + 1, 0, none⟩ = some (.int .i64 b.bits) := Hb0.out.cell 0
          have cb1 : V0.cell? ⟨w.heap.size + 1, 1, none⟩ = some (.int .i64 b.perm) := Hb0.out.cell 1
          have cb2 : V0.cell? ⟨w.heap.size + 1, 2, none⟩ = some (.int .u16 (uv b.pad)) := Hb0.out.cell 2
          have ob := Old.mk Hb0.out.lt
          have cc0 : V0.cell? ⟨w.heap.size + 1 + 1, 0, none⟩ = some (.int .i64 c.bits) := Hc0.out.cell 0
          have cc1 : V0.cell? ⟨w.heap.size + 1 + 1, 1, none⟩ = some (.int .i64 c.perm) := Hc0.out.cell 1
          have cc2 : V0.cell? ⟨w.heap.size + 1 + 1, 2, none⟩ = some (.int .u16 (uv c.pad)) := Hc0.out.cell 2
          have oc := Old.mk Hc0.out.lt
          go_wp2_with fail
          refine Calls.ext (D1.out _) fun z1 => ?_
          go_wp2_with fail
          refine Calls.ext (D2.out _) fun z2 => ?_
          go_wp2_with fail
          refine Calls.ext (D3.out _) fun z3 => ?_
          go_wp2_with fail
          refine Calls.same (CF.out _) ?_
          go_wp2_with fail
          go_ret
          exact ⟨rfl, (((HE0.out.ext z1).ext z2).ext z3)⟩
        · rw [hx] at CF
          have fx := (hide_law ka hx).2.2
          have nb := same_n hab
          obtain ⟨k1, e3, -, -⟩ := comp_law ka kb hab
          obtain ⟨k2, e4, -, -⟩ := comp_law kb kc (hab.symm.trans hac)
          obtain ⟨k3, e5, -, -⟩ := inv_law ka
          have q1 := both_ok ka kb hab
          have q2 := both_ok kb kc (hab.symm.trans hac)
          have q3 := both_ok k1 kc (e3.trans hac)
          have q4 := both_ok ka k2 (hab.trans e4.symm)
          have q5 := both_ok ka k3 e5.symm
          have q6 := both_ok k3 ka e5
          have r1 := comp_assoc ka kb kc hab hac
          have r2 := comp_one ka
          have r3 := comp_two ka
          have r4 := comp_hide ka kb hab hx
          have r5 := show_hide ka hx
          have r6 := hide_back ka hx
          have v1 := (hide_law ka hx).1
          have v2 := (hide_law kb (x := hideX a x) (by rw [← nb]; exact fx)).1
          have v3 := (hide_law (a := compX a b) k1 (x := x) (by rw [same_n e3]; exact hx)).1
          have v4 := (hide_law ka fx).1
          have v5 := (hide_law (a := invX a) k3 (x := hideX a x) (by rw [same_n e5]; exact fx)).1
          have hz : ∀ n : Int, (K.mk n 0 0#16).val = .agg #[.int .i64 n, .int .i64 0, .int .u16 0] := fun _ => rfl
          have C1 := fun w => Compose_any a b w
          have C2 := fun w => Compose_any b c w
          have C3 := fun w => Compose_any (compX a b) c w
          have C4 := fun w => Compose_any a (compX b c) w
          have C5 := fun w => Invert_any a w
          have C6 := fun w => Compose_any a (invX a) w
          have C7 := fun w => Compose_any (invX a) a w
          have C8 := fun w => Hide_any a x w
          have C9 := fun w => Hide_any b (hideX a x) w
          have C10 := fun w => Hide_any (compX a b) x w
          have C11 := fun w => Show_any a (hideX a x) w
          have C12 := fun w => Hide_any (invX a) (hideX a x) w
          rw [q1] at C1
          rw [q2] at C2
          rw [q3, r1] at C3
          rw [q4] at C4
          rw [chk_true ka] at C5
          rw [q5, r2, hz] at C6
          rw [q6, r3, hz] at C7
          rw [v1] at C8
          rw [v2, r4] at C9
          rw [v3] at C10
          rw [v4, r5] at C11
          rw [v5, r6] at C12
          clear q1 q2 q3 q4 q5 q6 r1 r2 r3 r4 r5 r6 v1 v2 v3 v4 v5 k1 k2 k3 e3 e4 e5 fx nb hz ka kb kc hab hac pa pn ha15 hbits hx
          generalize hideX (compX a b) x = hy at *
          generalize compX a (compX b c) = l at *
          generalize compX a b = k at *
          generalize compX b c = m at *
          generalize invX a = v at *
          generalize hideX a x = hx at *
          have D1 := Lib.hid D1; have D2 := Lib.hid D2; have D3 := Lib.hid D3
          have C1 := Lib.hid C1; have C2 := Lib.hid C2; have C3 := Lib.hid C3; have C4 := Lib.hid C4; have C5 := Lib.hid C5; have C6 := Lib.hid C6; have C7 := Lib.hid C7; have C8 := Lib.hid C8; have C9 := Lib.hid C9; have C10 := Lib.hid C10; have C11 := Lib.hid C11; have C12 := Lib.hid C12
          have CF := Lib.hid CF
          go_enter Try.func13, Try.ntmps13
          go_wp2_with fail
          refine Calls.ext (alive_any _) fun z0 => ?_
          have Ha0 := Lib.hid ((((Blk.new w 55 #[.int .i64 a.bits, .int .i64 a.perm, .int .u16 (uv a.pad)]).alloc (.cells #[.int .i64 b.bits, .int .i64 b.perm, .int .u16 (uv b.pad)] 55)).alloc (.cells #[.int .i64 c.bits, .int .i64 c.perm, .int .u16 (uv c.pad)] 55)).ext z0)
          have Hb0 := Lib.hid (((Blk.new' (w.alloc (.cells #[.int .i64 a.bits, .int .i64 a.perm, .int .u16 (uv a.pad)] 55)) 55 #[.int .i64 b.bits, .int .i64 b.perm, .int .u16 (uv b.pad)] (w.heap.size + 1) (by simp)).alloc (.cells #[.int .i64 c.bits, .int .i64 c.perm, .int .u16 (uv c.pad)] 55)).ext z0)
          have Hc0 := Lib.hid ((Blk.new' ((w.alloc (.cells #[.int .i64 a.bits, .int .i64 a.perm, .int .u16 (uv a.pad)] 55)).alloc (.cells #[.int .i64 b.bits, .int .i64 b.perm, .int .u16 (uv b.pad)] 55)) 55 #[.int .i64 c.bits, .int .i64 c.perm, .int .u16 (uv c.pad)] (w.heap.size + 1 + 1) (by simp)).ext z0)
          have HE0 := Lib.hid (((((Ext.refl w).alloc (.cells #[.int .i64 a.bits, .int .i64 a.perm, .int .u16 (uv a.pad)] 55)).alloc (.cells #[.int .i64 b.bits, .int .i64 b.perm, .int .u16 (uv b.pad)] 55)).alloc (.cells #[.int .i64 c.bits, .int .i64 c.perm, .int .u16 (uv c.pad)] 55)).ext z0)
          generalize ext (((w.alloc (.cells #[.int .i64 a.bits, .int .i64 a.perm, .int .u16 (uv a.pad)] 55)).alloc (.cells #[.int .i64 b.bits, .int .i64 b.perm, .int .u16 (uv b.pad)] 55)).alloc (.cells #[.int .i64 c.bits, .int .i64 c.perm, .int .u16 (uv c.pad)] 55)) z0 = V0 at *
          have ca0 : V0.cell? ⟨w.heap.size, 0, none⟩ = some (.int .i64 a.bits) := Ha0.out.cell 0
          have ca1 : V0.cell? ⟨w.heap.size, 1, none⟩ = some (.int .i64 a.perm) := Ha0.out.cell 1
          have ca2 : V0.cell? ⟨w.heap.size, 2, none⟩ = some (.int .u16 (uv a.pad)) := Ha0.out.cell 2
          have oa := Old.mk Ha0.out.lt
          have cb0 : V0.cell? ⟨w.heap.size + 1, 0, none⟩ = some (.int .i64 b.bits) := Hb0.out.cell 0
          have cb1 : V0.cell? ⟨w.heap.size + 1, 1, none⟩ = some (.int .i64 b.perm) := Hb0.out.cell 1
          have cb2 : V0.cell? ⟨w.heap.size + 1, 2, none⟩ = some (.int .u16 (uv b.pad)) := Hb0.out.cell 2
          have ob := Old.mk Hb0.out.lt
          have cc0 : V0.cell? ⟨w.heap.size + 1 + 1, 0, none⟩ = some (.int .i64 c.bits) := Hc0.out.cell 0
          have cc1 : V0.cell? ⟨w.heap.size + 1 + 1, 1, none⟩ = some (.int .i64 c.perm) := Hc0.out.cell 1
          have cc2 : V0.cell? ⟨w.heap.size + 1 + 1, 2, none⟩ = some (.int .u16 (uv c.pad)) := Hc0.out.cell 2
          have oc := Old.mk Hc0.out.lt
          go_wp2_with fail
          refine Calls.ext (D1.out _) fun z1 => ?_
          go_wp2_with fail
          refine Calls.ext (D2.out _) fun z2 => ?_
          go_wp2_with fail
          refine Calls.ext (D3.out _) fun z3 => ?_
          go_wp2_with fail
          refine Calls.same (CF.out _) ?_
          go_wp2_with fail
          have Ha1 := Lib.hid ((((Ha0.out.ext z1).ext z2).ext z3))
          have Hb1 := Lib.hid ((((Hb0.out.ext z1).ext z2).ext z3))
          have Hc1 := Lib.hid ((((Hc0.out.ext z1).ext z2).ext z3))
          have HE1 := Lib.hid ((((HE0.out.ext z1).ext z2).ext z3))
          clear ca0 ca1 ca2 oa cb0 cb1 cb2 ob cc0 cc1 cc2 oc
          generalize ext (ext (ext V0 z1) z2) z3 = V1 at *
          clear Ha0 Hb0 Hc0 HE0
          have ca0 : V1.cell? ⟨w.heap.size, 0, none⟩ = some (.int .i64 a.bits) := Ha1.out.cell 0
          have ca1 : V1.cell? ⟨w.heap.size, 1, none⟩ = some (.int .i64 a.perm) := Ha1.out.cell 1
          have ca2 : V1.cell? ⟨w.heap.size, 2, none⟩ = some (.int .u16 (uv a.pad)) := Ha1.out.cell 2
          have oa := Old.mk Ha1.out.lt
          have cb0 : V1.cell? ⟨w.heap.size + 1, 0, none⟩ = some (.int .i64 b.bits) := Hb1.out.cell 0
          have cb1 : V1.cell? ⟨w.heap.size + 1, 1, none⟩ = some (.int .i64 b.perm) := Hb1.out.cell 1
          have cb2 : V1.cell? ⟨w.heap.size + 1, 2, none⟩ = some (.int .u16 (uv b.pad)) := Hb1.out.cell 2
          have ob := Old.mk Hb1.out.lt
          have cc0 : V1.cell? ⟨w.heap.size + 1 + 1, 0, none⟩ = some (.int .i64 c.bits) := Hc1.out.cell 0
          have cc1 : V1.cell? ⟨w.heap.size + 1 + 1, 1, none⟩ = some (.int .i64 c.perm) := Hc1.out.cell 1
          have cc2 : V1.cell? ⟨w.heap.size + 1 + 1, 2, none⟩ = some (.int .u16 (uv c.pad)) := Hc1.out.cell 2
          have oc := Old.mk Hc1.out.lt
          refine Calls.ext (C1.out _) fun z4 => ?_
          go_wp2_with fail
          have Ha2 := Lib.hid (((Ha1.out.ext z4)).alloc (.cells #[.int .i64 k.bits, .int .i64 k.perm, .int .u16 (uv k.pad)] 55))
          have Hb2 := Lib.hid (((Hb1.out.ext z4)).alloc (.cells #[.int .i64 k.bits, .int .i64 k.perm, .int .u16 (uv k.pad)] 55))
          have Hc2 := Lib.hid (((Hc1.out.ext z4)).alloc (.cells #[.int .i64 k.bits, .int .i64 k.perm, .int .u16 (uv k.pad)] 55))
          have HE2 := Lib.hid (((HE1.out.ext z4)).alloc (.cells #[.int .i64 k.bits, .int .i64 k.perm, .int .u16 (uv k.pad)] 55))
          have Hk2 := Lib.hid (Blk.new (ext V1 z4) 55 #[.int .i64 k.bits, .int .i64 k.perm, .int .u16 (uv k.pad)])
          clear ca0 ca1 ca2 oa cb0 cb1 cb2 ob cc0 cc1 cc2 oc
          generalize (ext V1 z4).alloc (.cells #[.int .i64 k.bits, .int .i64 k.perm, .int .u16 (uv k.pad)] 55) = V2 at *
          generalize (ext V1 z4).heap.size = Gk at *
          clear Ha1 Hb1 Hc1 HE1
          have ca0 : V2.cell? ⟨w.heap.size, 0, none⟩ = some (.int .i64 a.bits) := Ha2.out.cell 0
          have ca1 : V2.cell? ⟨w.heap.size, 1, none⟩ = some (.int .i64 a.perm) := Ha2.out.cell 1
          have ca2 : V2.cell? ⟨w.heap.size, 2, none⟩ = some (.int .u16 (uv a.pad)) := Ha2.out.cell 2
          have oa := Old.mk Ha2.out.lt
          have cb0 : V2.cell? ⟨w.heap.size + 1, 0, none⟩ = some (.int .i64 b.bits) := Hb2.out.cell 0
          have cb1 : V2.cell? ⟨w.heap.size + 1, 1, none⟩ = some (.int .i64 b.perm) := Hb2.out.cell 1
          have cb2 : V2.cell? ⟨w.heap.size + 1, 2, none⟩ = some (.int .u16 (uv b.pad)) := Hb2.out.cell 2
          have ob := Old.mk Hb2.out.lt
          have cc0 : V2.cell? ⟨w.heap.size + 1 + 1, 0, none⟩ = some (.int .i64 c.bits) := Hc2.out.cell 0
          have cc1 : V2.cell? ⟨w.heap.size + 1 + 1, 1, none⟩ = some (.int .i64 c.perm) := Hc2.out.cell 1
          have cc2 : V2.cell? ⟨w.heap.size + 1 + 1, 2, none⟩ = some (.int .u16 (uv c.pad)) := Hc2.out.cell 2
          have oc := Old.mk Hc2.out.lt
          have ck0 : V2.cell? ⟨Gk, 0, none⟩ = some (.int .i64 k.bits) := Hk2.out.cell 0
          have ck1 : V2.cell? ⟨Gk, 1, none⟩ = some (.int .i64 k.perm) := Hk2.out.cell 1
          have ck2 : V2.cell? ⟨Gk, 2, none⟩ = some (.int .u16 (uv k.pad)) := Hk2.out.cell 2
          have ok := Old.mk Hk2.out.lt
          refine Calls.ext (C2.out _) fun z5 => ?_
          go_wp2_with fail
          have Ha3 := Lib.hid (((Ha2.out.ext z5)).alloc (.cells #[.int .i64 m.bits, .int .i64 m.perm, .int .u16 (uv m.pad)] 55))
          have Hb3 := Lib.hid (((Hb2.out.ext z5)).alloc (.cells #[.int .i64 m.bits, .int .i64 m.perm, .int .u16 (uv m.pad)] 55))
          have Hc3 := Lib.hid (((Hc2.out.ext z5)).alloc (.cells #[.int .i64 m.bits, .int .i64 m.perm, .int .u16 (uv m.pad)] 55))
          have Hk3 := Lib.hid (((Hk2.out.ext z5)).alloc (.cells #[.int .i64 m.bits, .int .i64 m.perm, .int .u16 (uv m.pad)] 55))
          have HE3 := Lib.hid (((HE2.out.ext z5)).alloc (.cells #[.int .i64 m.bits, .int .i64 m.perm, .int .u16 (uv m.pad)] 55))
          have Hm3 := Lib.hid (Blk.new (ext V2 z5) 55 #[.int .i64 m.bits, .int .i64 m.perm, .int .u16 (uv m.pad)])
          clear ca0 ca1 ca2 oa cb0 cb1 cb2 ob cc0 cc1 cc2 oc ck0 ck1 ck2 ok
          generalize (ext V2 z5).alloc (.cells #[.int .i64 m.bits, .int .i64 m.perm, .int .u16 (uv m.pad)] 55) = V3 at *
          generalize (ext V2 z5).heap.size = Gm at *
          clear Ha2 Hb2 Hc2 Hk2 HE2
          have ca0 : V3.cell? ⟨w.heap.size, 0, none⟩ = some (.int .i64 a.bits) := Ha3.out.cell 0
          have ca1 : V3.cell? ⟨w.heap.size, 1, none⟩ = some (.int .i64 a.perm) := Ha3.out.cell 1
          have ca2 : V3.cell? ⟨w.heap.size, 2, none⟩ = some (.int .u16 (uv a.pad)) := Ha3.out.cell 2
          have oa := Old.mk Ha3.out.lt
          have cb0 : V3.cell? ⟨w.heap.size + 1, 0, none⟩ = some (.int .i64 b.bits) := Hb3.out.cell 0
          have cb1 : V3.cell? ⟨w.heap.size + 1, 1, none⟩ = some (.int .i64 b.perm) := Hb3.out.cell 1
          have cb2 : V3.cell? ⟨w.heap.size + 1, 2, none⟩ = some (.int .u16 (uv b.pad)) := Hb3.out.cell 2
          have ob := Old.mk Hb3.out.lt
          have cc0 : V3.cell? ⟨w.heap.size + 1 + 1, 0, none⟩ = some (.int .i64 c.bits) := Hc3.out.cell 0
          have cc1 : V3.cell? ⟨w.heap.size + 1 + 1, 1, none⟩ = some (.int .i64 c.perm) := Hc3.out.cell 1
          have cc2 : V3.cell? ⟨w.heap.size + 1 + 1, 2, none⟩ = some (.int .u16 (uv c.pad)) := Hc3.out.cell 2
          have oc := Old.mk Hc3.out.lt
          have ck0 : V3.cell? ⟨Gk, 0, none⟩ = some (.int .i64 k.bits) := Hk3.out.cell 0
          have ck1 : V3.cell? ⟨Gk, 1, none⟩ = some (.int .i64 k.perm) := Hk3.out.cell 1
          have ck2 : V3.cell? ⟨Gk, 2, none⟩ = some (.int .u16 (uv k.pad)) := Hk3.out.cell 2
          have ok := Old.mk Hk3.out.lt
          have cm0 : V3.cell? ⟨Gm, 0, none⟩ = some (.int .i64 m.bits) := Hm3.out.cell 0
          have cm1 : V3.cell? ⟨Gm, 1, none⟩ = some (.int .i64 m.perm) := Hm3.out.cell 1
          have cm2 : V3.cell? ⟨Gm, 2, none⟩ = some (.int .u16 (uv m.pad)) := Hm3.out.cell 2
          have om := Old.mk Hm3.out.lt
          refine Calls.ext (C3.out _) fun z6 => ?_
          go_wp2_with fail
          have Ha4 := Lib.hid (((Ha3.out.ext z6)).alloc (.cells #[.int .i64 l.bits, .int .i64 l.perm, .int .u16 (uv l.pad)] 55))
          have Hb4 := Lib.hid (((Hb3.out.ext z6)).alloc (.cells #[.int .i64 l.bits, .int .i64 l.perm, .int .u16 (uv l.pad)] 55))
          have Hc4 := Lib.hid (((Hc3.out.ext z6)).alloc (.cells #[.int .i64 l.bits, .int .i64 l.perm, .int .u16 (uv l.pad)] 55))
          have Hk4 := Lib.hid (((Hk3.out.ext z6)).alloc (.cells #[.int .i64 l.bits, .int .i64 l.perm, .int .u16 (uv l.pad)] 55))
          have Hm4 := Lib.hid (((Hm3.out.ext z6)).alloc (.cells #[.int .i64 l.bits, .int .i64 l.perm, .int .u16 (uv l.pad)] 55))
          have HE4 := Lib.hid (((HE3.out.ext z6)).alloc (.cells #[.int .i64 l.bits, .int .i64 l.perm, .int .u16 (uv l.pad)] 55))
          have Hleft4 := Lib.hid (Blk.new (ext V3 z6) 55 #[.int .i64 l.bits, .int .i64 l.perm, .int .u16 (uv l.pad)])
          clear ca0 ca1 ca2 oa cb0 cb1 cb2 ob cc0 cc1 cc2 oc ck0 ck1 ck2 ok cm0 cm1 cm2 om
          generalize (ext V3 z6).alloc (.cells #[.int .i64 l.bits, .int .i64 l.perm, .int .u16 (uv l.pad)] 55) = V4 at *
          generalize (ext V3 z6).heap.size = Gleft at *
          clear Ha3 Hb3 Hc3 Hk3 Hm3 HE3
          have ca0 : V4.cell? ⟨w.heap.size, 0, none⟩ = some (.int .i64 a.bits) := Ha4.out.cell 0
          have ca1 : V4.cell? ⟨w.heap.size, 1, none⟩ = some (.int .i64 a.perm) := Ha4.out.cell 1
          have ca2 : V4.cell? ⟨w.heap.size, 2, none⟩ = some (.int .u16 (uv a.pad)) := Ha4.out.cell 2
          have oa := Old.mk Ha4.out.lt
          have cb0 : V4.cell? ⟨w.heap.size + 1, 0, none⟩ = some (.int .i64 b.bits) := Hb4.out.cell 0
          have cb1 : V4.cell? ⟨w.heap.size + 1, 1, none⟩ = some (.int .i64 b.perm) := Hb4.out.cell 1
          have cb2 : V4.cell? ⟨w.heap.size + 1, 2, none⟩ = some (.int .u16 (uv b.pad)) := Hb4.out.cell 2
          have ob := Old.mk Hb4.out.lt
          have cc0 : V4.cell? ⟨w.heap.size + 1 + 1, 0, none⟩ = some (.int .i64 c.bits) := Hc4.out.cell 0
          have cc1 : V4.cell? ⟨w.heap.size + 1 + 1, 1, none⟩ = some (.int .i64 c.perm) := Hc4.out.cell 1
          have cc2 : V4.cell? ⟨w.heap.size + 1 + 1, 2, none⟩ = some (.int .u16 (uv c.pad)) := Hc4.out.cell 2
          have oc := Old.mk Hc4.out.lt
          have ck0 : V4.cell? ⟨Gk, 0, none⟩ = some (.int .i64 k.bits) := Hk4.out.cell 0
          have ck1 : V4.cell? ⟨Gk, 1, none⟩ = some (.int .i64 k.perm) := Hk4.out.cell 1
          have ck2 : V4.cell? ⟨Gk, 2, none⟩ = some (.int .u16 (uv k.pad)) := Hk4.out.cell 2
          have ok := Old.mk Hk4.out.lt
          have cm0 : V4.cell? ⟨Gm, 0, none⟩ = some (.int .i64 m.bits) := Hm4.out.cell 0
          have cm1 : V4.cell? ⟨Gm, 1, none⟩ = some (.int .i64 m.perm) := Hm4.out.cell 1
          have cm2 : V4.cell? ⟨Gm, 2, none⟩ = some (.int .u16 (uv m.pad)) := Hm4.out.cell 2
          have om := Old.mk Hm4.out.lt
          have cleft0 : V4.cell? ⟨Gleft, 0, none⟩ = some (.int .i64 l.bits) := Hleft4.out.cell 0
          have cleft1 : V4.cell? ⟨Gleft, 1, none⟩ = some (.int .i64 l.perm) := Hleft4.out.cell 1
          have cleft2 : V4.cell? ⟨Gleft, 2, none⟩ = some (.int .u16 (uv l.pad)) := Hleft4.out.cell 2
          have oleft := Old.mk Hleft4.out.lt
          refine Calls.ext (C4.out _) fun z7 => ?_
          go_wp2_with fail
          have Ha5 := Lib.hid (((Ha4.out.ext z7)).alloc (.cells #[.int .i64 l.bits, .int .i64 l.perm, .int .u16 (uv l.pad)] 55))
          have Hb5 := Lib.hid (((Hb4.out.ext z7)).alloc (.cells #[.int .i64 l.bits, .int .i64 l.perm, .int .u16 (uv l.pad)] 55))
          have Hc5 := Lib.hid (((Hc4.out.ext z7)).alloc (.cells #[.int .i64 l.bits, .int .i64 l.perm, .int .u16 (uv l.pad)] 55))
          have Hk5 := Lib.hid (((Hk4.out.ext z7)).alloc (.cells #[.int .i64 l.bits, .int .i64 l.perm, .int .u16 (uv l.pad)] 55))
          have Hm5 := Lib.hid (((Hm4.out.ext z7)).alloc (.cells #[.int .i64 l.bits, .int .i64 l.perm, .int .u16 (uv l.pad)] 55))
          have Hleft5 := Lib.hid (((Hleft4.out.ext z7)).alloc (.cells #[.int .i64 l.bits, .int .i64 l.perm, .int .u16 (uv l.pad)] 55))
          have HE5 := Lib.hid (((HE4.out.ext z7)).alloc (.cells #[.int .i64 l.bits, .int .i64 l.perm, .int .u16 (uv l.pad)] 55))
          have Hright5 := Lib.hid (Blk.new (ext V4 z7) 55 #[.int .i64 l.bits, .int .i64 l.perm, .int .u16 (uv l.pad)])
          clear ca0 ca1 ca2 oa cb0 cb1 cb2 ob cc0 cc1 cc2 oc ck0 ck1 ck2 ok cm0 cm1 cm2 om cleft0 cleft1 cleft2 oleft
          generalize (ext V4 z7).alloc (.cells #[.int .i64 l.bits, .int .i64 l.perm, .int .u16 (uv l.pad)] 55) = V5 at *
          generalize (ext V4 z7).heap.size = Gright at *
          clear Ha4 Hb4 Hc4 Hk4 Hm4 Hleft4 HE4
          have ca0 : V5.cell? ⟨w.heap.size, 0, none⟩ = some (.int .i64 a.bits) := Ha5.out.cell 0
          have ca1 : V5.cell? ⟨w.heap.size, 1, none⟩ = some (.int .i64 a.perm) := Ha5.out.cell 1
          have ca2 : V5.cell? ⟨w.heap.size, 2, none⟩ = some (.int .u16 (uv a.pad)) := Ha5.out.cell 2
          have oa := Old.mk Ha5.out.lt
          have cb0 : V5.cell? ⟨w.heap.size + 1, 0, none⟩ = some (.int .i64 b.bits) := Hb5.out.cell 0
          have cb1 : V5.cell? ⟨w.heap.size + 1, 1, none⟩ = some (.int .i64 b.perm) := Hb5.out.cell 1
          have cb2 : V5.cell? ⟨w.heap.size + 1, 2, none⟩ = some (.int .u16 (uv b.pad)) := Hb5.out.cell 2
          have ob := Old.mk Hb5.out.lt
          have cc0 : V5.cell? ⟨w.heap.size + 1 + 1, 0, none⟩ = some (.int .i64 c.bits) := Hc5.out.cell 0
          have cc1 : V5.cell? ⟨w.heap.size + 1 + 1, 1, none⟩ = some (.int .i64 c.perm) := Hc5.out.cell 1
          have cc2 : V5.cell? ⟨w.heap.size + 1 + 1, 2, none⟩ = some (.int .u16 (uv c.pad)) := Hc5.out.cell 2
          have oc := Old.mk Hc5.out.lt
          have ck0 : V5.cell? ⟨Gk, 0, none⟩ = some (.int .i64 k.bits) := Hk5.out.cell 0
          have ck1 : V5.cell? ⟨Gk, 1, none⟩ = some (.int .i64 k.perm) := Hk5.out.cell 1
          have ck2 : V5.cell? ⟨Gk, 2, none⟩ = some (.int .u16 (uv k.pad)) := Hk5.out.cell 2
          have ok := Old.mk Hk5.out.lt
          have cm0 : V5.cell? ⟨Gm, 0, none⟩ = some (.int .i64 m.bits) := Hm5.out.cell 0
          have cm1 : V5.cell? ⟨Gm, 1, none⟩ = some (.int .i64 m.perm) := Hm5.out.cell 1
          have cm2 : V5.cell? ⟨Gm, 2, none⟩ = some (.int .u16 (uv m.pad)) := Hm5.out.cell 2
          have om := Old.mk Hm5.out.lt
          have cleft0 : V5.cell? ⟨Gleft, 0, none⟩ = some (.int .i64 l.bits) := Hleft5.out.cell 0
          have cleft1 : V5.cell? ⟨Gleft, 1, none⟩ = some (.int .i64 l.perm) := Hleft5.out.cell 1
          have cleft2 : V5.cell? ⟨Gleft, 2, none⟩ = some (.int .u16 (uv l.pad)) := Hleft5.out.cell 2
          have oleft := Old.mk Hleft5.out.lt
          have cright0 : V5.cell? ⟨Gright, 0, none⟩ = some (.int .i64 l.bits) := Hright5.out.cell 0
          have cright1 : V5.cell? ⟨Gright, 1, none⟩ = some (.int .i64 l.perm) := Hright5.out.cell 1
          have cright2 : V5.cell? ⟨Gright, 2, none⟩ = some (.int .u16 (uv l.pad)) := Hright5.out.cell 2
          have oright := Old.mk Hright5.out.lt
          refine Calls.ext (C5.out _) fun z8 => ?_
          go_wp2_with fail
          have Ha6 := Lib.hid (((Ha5.out.ext z8)).alloc (.cells #[.int .i64 v.bits, .int .i64 v.perm, .int .u16 (uv v.pad)] 55))
          have Hb6 := Lib.hid (((Hb5.out.ext z8)).alloc (.cells #[.int .i64 v.bits, .int .i64 v.perm, .int .u16 (uv v.pad)] 55))
          have Hc6 := Lib.hid (((Hc5.out.ext z8)).alloc (.cells #[.int .i64 v.bits, .int .i64 v.perm, .int .u16 (uv v.pad)] 55))
          have Hk6 := Lib.hid (((Hk5.out.ext z8)).alloc (.cells #[.int .i64 v.bits, .int .i64 v.perm, .int .u16 (uv v.pad)] 55))
          have Hm6 := Lib.hid (((Hm5.out.ext z8)).alloc (.cells #[.int .i64 v.bits, .int .i64 v.perm, .int .u16 (uv v.pad)] 55))
          have Hleft6 := Lib.hid (((Hleft5.out.ext z8)).alloc (.cells #[.int .i64 v.bits, .int .i64 v.perm, .int .u16 (uv v.pad)] 55))
          have Hright6 := Lib.hid (((Hright5.out.ext z8)).alloc (.cells #[.int .i64 v.bits, .int .i64 v.perm, .int .u16 (uv v.pad)] 55))
          have HE6 := Lib.hid (((HE5.out.ext z8)).alloc (.cells #[.int .i64 v.bits, .int .i64 v.perm, .int .u16 (uv v.pad)] 55))
          have Hv6 := Lib.hid (Blk.new (ext V5 z8) 55 #[.int .i64 v.bits, .int .i64 v.perm, .int .u16 (uv v.pad)])
          clear ca0 ca1 ca2 oa cb0 cb1 cb2 ob cc0 cc1 cc2 oc ck0 ck1 ck2 ok cm0 cm1 cm2 om cleft0 cleft1 cleft2 oleft cright0 cright1 cright2 oright
          generalize (ext V5 z8).alloc (.cells #[.int .i64 v.bits, .int .i64 v.perm, .int .u16 (uv v.pad)] 55) = V6 at *
          generalize (ext V5 z8).heap.size = Gv at *
          clear Ha5 Hb5 Hc5 Hk5 Hm5 Hleft5 Hright5 HE5
          have ca0 : V6.cell? ⟨w.heap.size, 0, none⟩ = some (.int .i64 a.bits) := Ha6.out.cell 0
          have ca1 : V6.cell? ⟨w.heap.size, 1, none⟩ = some (.int .i64 a.perm) := Ha6.out.cell 1
          have ca2 : V6.cell? ⟨w.heap.size, 2, none⟩ = some (.int .u16 (uv a.pad)) := Ha6.out.cell 2
          have oa := Old.mk Ha6.out.lt
          have cb0 : V6.cell? ⟨w.heap.size + 1, 0, none⟩ = some (.int .i64 b.bits) := Hb6.out.cell 0
          have cb1 : V6.cell? ⟨w.heap.size + 1, 1, none⟩ = some (.int .i64 b.perm) := Hb6.out.cell 1
          have cb2 : V6.cell? ⟨w.heap.size + 1, 2, none⟩ = some (.int .u16 (uv b.pad)) := Hb6.out.cell 2
          have ob := Old.mk Hb6.out.lt
          have cc0 : V6.cell? ⟨w.heap.size + 1 + 1, 0, none⟩ = some (.int .i64 c.bits) := Hc6.out.cell 0
          have cc1 : V6.cell? ⟨w.heap.size + 1 + 1, 1, none⟩ = some (.int .i64 c.perm) := Hc6.out.cell 1
          have cc2 : V6.cell? ⟨w.heap.size + 1 + 1, 2, none⟩ = some (.int .u16 (uv c.pad)) := Hc6.out.cell 2
          have oc := Old.mk Hc6.out.lt
          have ck0 : V6.cell? ⟨Gk, 0, none⟩ = some (.int .i64 k.bits) := Hk6.out.cell 0
          have ck1 : V6.cell? ⟨Gk, 1, none⟩ = some (.int .i64 k.perm) := Hk6.out.cell 1
          have ck2 : V6.cell? ⟨Gk, 2, none⟩ = some (.int .u16 (uv k.pad)) := Hk6.out.cell 2
          have ok := Old.mk Hk6.out.lt
          have cm0 : V6.cell? ⟨Gm, 0, none⟩ = some (.int .i64 m.bits) := Hm6.out.cell 0
          have cm1 : V6.cell? ⟨Gm, 1, none⟩ = some (.int .i64 m.perm) := Hm6.out.cell 1
          have cm2 : V6.cell? ⟨Gm, 2, none⟩ = some (.int .u16 (uv m.pad)) := Hm6.out.cell 2
          have om := Old.mk Hm6.out.lt
          have cleft0 : V6.cell? ⟨Gleft, 0, none⟩ = some (.int .i64 l.bits) := Hleft6.out.cell 0
          have cleft1 : V6.cell? ⟨Gleft, 1, none⟩ = some (.int .i64 l.perm) := Hleft6.out.cell 1
          have cleft2 : V6.cell? ⟨Gleft, 2, none⟩ = some (.int .u16 (uv l.pad)) := Hleft6.out.cell 2
          have oleft := Old.mk Hleft6.out.lt
          have cright0 : V6.cell? ⟨Gright, 0, none⟩ = some (.int .i64 l.bits) := Hright6.out.cell 0
          have cright1 : V6.cell? ⟨Gright, 1, none⟩ = some (.int .i64 l.perm) := Hright6.out.cell 1
          have cright2 : V6.cell? ⟨Gright, 2, none⟩ = some (.int .u16 (uv l.pad)) := Hright6.out.cell 2
          have oright := Old.mk Hright6.out.lt
          have cv0 : V6.cell? ⟨Gv, 0, none⟩ = some (.int .i64 v.bits) := Hv6.out.cell 0
          have cv1 : V6.cell? ⟨Gv, 1, none⟩ = some (.int .i64 v.perm) := Hv6.out.cell 1
          have cv2 : V6.cell? ⟨Gv, 2, none⟩ = some (.int .u16 (uv v.pad)) := Hv6.out.cell 2
          have ov := Old.mk Hv6.out.lt
          refine Calls.ext (C6.out _) fun z9 => ?_
          go_wp2_with fail
          have Ha7 := Lib.hid (((Ha6.out.ext z9)).alloc (.cells #[.int .i64 a.bits, .int .i64 0, .int .u16 0] 55))
          have Hb7 := Lib.hid (((Hb6.out.ext z9)).alloc (.cells #[.int .i64 a.bits, .int .i64 0, .int .u16 0] 55))
          have Hc7 := Lib.hid (((Hc6.out.ext z9)).alloc (.cells #[.int .i64 a.bits, .int .i64 0, .int .u16 0] 55))
          have Hk7 := Lib.hid (((Hk6.out.ext z9)).alloc (.cells #[.int .i64 a.bits, .int .i64 0, .int .u16 0] 55))
          have Hm7 := Lib.hid (((Hm6.out.ext z9)).alloc (.cells #[.int .i64 a.bits, .int .i64 0, .int .u16 0] 55))
          have Hleft7 := Lib.hid (((Hleft6.out.ext z9)).alloc (.cells #[.int .i64 a.bits, .int .i64 0, .int .u16 0] 55))
          have Hright7 := Lib.hid (((Hright6.out.ext z9)).alloc (.cells #[.int .i64 a.bits, .int .i64 0, .int .u16 0] 55))
          have Hv7 := Lib.hid (((Hv6.out.ext z9)).alloc (.cells #[.int .i64 a.bits, .int .i64 0, .int .u16 0] 55))
          have HE7 := Lib.hid (((HE6.out.ext z9)).alloc (.cells #[.int .i64 a.bits, .int .i64 0, .int .u16 0] 55))
          have Hone7 := Lib.hid (Blk.new (ext V6 z9) 55 #[.int .i64 a.bits, .int .i64 0, .int .u16 0])
          clear ca0 ca1 ca2 oa cb0 cb1 cb2 ob cc0 cc1 cc2 oc ck0 ck1 ck2 ok cm0 cm1 cm2 om cleft0 cleft1 cleft2 oleft cright0 cright1 cright2 oright cv0 cv1 cv2 ov
          generalize (ext V6 z9).alloc (.cells #[.int .i64 a.bits, .int .i64 0, .int .u16 0] 55) = V7 at *
          generalize (ext V6 z9).heap.size = Gone at *
          clear Ha6 Hb6 Hc6 Hk6 Hm6 Hleft6 Hright6 Hv6 HE6
          have ca0 : V7.cell? ⟨w.heap.size, 0, none⟩ = some (.int .i64 a.bits) := Ha7.out.cell 0
          have ca1 : V7.cell? ⟨w.heap.size, 1, none⟩ = some (.int .i64 a.perm) := Ha7.out.cell 1
          have ca2 : V7.cell? ⟨w.heap.size, 2, none⟩ = some (.int .u16 (uv a.pad)) := Ha7.out.cell 2
          have oa := Old.mk Ha7.out.lt
          have cb0 : V7.cell? ⟨w.heap.size + 1, 0, none⟩ = some (.int .i64 b.bits) := Hb7.out.cell 0
          have cb1 : V7.cell? ⟨w.heap.size + 1, 1, none⟩ = some (.int .i64 b.perm) := Hb7.out.cell 1
          have cb2 : V7.cell? ⟨w.heap.size + 1, 2, none⟩ = some (.int .u16 (uv b.pad)) := Hb7.out.cell 2
          have ob := Old.mk Hb7.out.lt
          have cc0 : V7.cell? ⟨w.heap.size + 1 + 1, 0, none⟩ = some (.int .i64 c.bits) := Hc7.out.cell 0
          have cc1 : V7.cell? ⟨w.heap.size + 1 + 1, 1, none⟩ = some (.int .i64 c.perm) := Hc7.out.cell 1
          have cc2 : V7.cell? ⟨w.heap.size + 1 + 1, 2, none⟩ = some (.int .u16 (uv c.pad)) := Hc7.out.cell 2
          have oc := Old.mk Hc7.out.lt
          have ck0 : V7.cell? ⟨Gk, 0, none⟩ = some (.int .i64 k.bits) := Hk7.out.cell 0
          have ck1 : V7.cell? ⟨Gk, 1, none⟩ = some (.int .i64 k.perm) := Hk7.out.cell 1
          have ck2 : V7.cell? ⟨Gk, 2, none⟩ = some (.int .u16 (uv k.pad)) := Hk7.out.cell 2
          have ok := Old.mk Hk7.out.lt
          have cm0 : V7.cell? ⟨Gm, 0, none⟩ = some (.int .i64 m.bits) := Hm7.out.cell 0
          have cm1 : V7.cell? ⟨Gm, 1, none⟩ = some (.int .i64 m.perm) := Hm7.out.cell 1
          have cm2 : V7.cell? ⟨Gm, 2, none⟩ = some (.int .u16 (uv m.pad)) := Hm7.out.cell 2
          have om := Old.mk Hm7.out.lt
          have cleft0 : V7.cell? ⟨Gleft, 0, none⟩ = some (.int .i64 l.bits) := Hleft7.out.cell 0
          have cleft1 : V7.cell? ⟨Gleft, 1, none⟩ = some (.int .i64 l.perm) := Hleft7.out.cell 1
          have cleft2 : V7.cell? ⟨Gleft, 2, none⟩ = some (.int .u16 (uv l.pad)) := Hleft7.out.cell 2
          have oleft := Old.mk Hleft7.out.lt
          have cright0 : V7.cell? ⟨Gright, 0, none⟩ = some (.int .i64 l.bits) := Hright7.out.cell 0
          have cright1 : V7.cell? ⟨Gright, 1, none⟩ = some (.int .i64 l.perm) := Hright7.out.cell 1
          have cright2 : V7.cell? ⟨Gright, 2, none⟩ = some (.int .u16 (uv l.pad)) := Hright7.out.cell 2
          have oright := Old.mk Hright7.out.lt
          have cv0 : V7.cell? ⟨Gv, 0, none⟩ = some (.int .i64 v.bits) := Hv7.out.cell 0
          have cv1 : V7.cell? ⟨Gv, 1, none⟩ = some (.int .i64 v.perm) := Hv7.out.cell 1
          have cv2 : V7.cell? ⟨Gv, 2, none⟩ = some (.int .u16 (uv v.pad)) := Hv7.out.cell 2
          have ov := Old.mk Hv7.out.lt
          have cone0 : V7.cell? ⟨Gone, 0, none⟩ = some (.int .i64 a.bits) := Hone7.out.cell 0
          have cone1 : V7.cell? ⟨Gone, 1, none⟩ = some (.int .i64 0) := Hone7.out.cell 1
          have cone2 : V7.cell? ⟨Gone, 2, none⟩ = some (.int .u16 0) := Hone7.out.cell 2
          have oone := Old.mk Hone7.out.lt
          refine Calls.ext (C7.out _) fun z10 => ?_
          go_wp2_with fail
          have Ha8 := Lib.hid ((((Ha7.out.ext z10)).alloc (.cells #[.int .i64 a.bits, .int .i64 0, .int .u16 0] 55)).alloc (.cells #[.int .i64 a.bits, .int .i64 0, .int .u16 0] 55))
          have Hb8 := Lib.hid ((((Hb7.out.ext z10)).alloc (.cells #[.int .i64 a.bits, .int .i64 0, .int .u16 0] 55)).alloc (.cells #[.int .i64 a.bits, .int .i64 0, .int .u16 0] 55))
          have Hc8 := Lib.hid ((((Hc7.out.ext z10)).alloc (.cells #[.int .i64 a.bits, .int .i64 0, .int .u16 0] 55)).alloc (.cells #[.int .i64 a.bits, .int .i64 0, .int .u16 0] 55))
          have Hk8 := Lib.hid ((((Hk7.out.ext z10)).alloc (.cells #[.int .i64 a.bits, .int .i64 0, .int .u16 0] 55)).alloc (.cells #[.int .i64 a.bits, .int .i64 0, .int .u16 0] 55))
          have Hm8 := Lib.hid ((((Hm7.out.ext z10)).alloc (.cells #[.int .i64 a.bits, .int .i64 0, .int .u16 0] 55)).alloc (.cells #[.int .i64 a.bits, .int .i64 0, .int .u16 0] 55))
          have Hleft8 := Lib.hid ((((Hleft7.out.ext z10)).alloc (.cells #[.int .i64 a.bits, .int .i64 0, .int .u16 0] 55)).alloc (.cells #[.int .i64 a.bits, .int .i64 0, .int .u16 0] 55))
          have Hright8 := Lib.hid ((((Hright7.out.ext z10)).alloc (.cells #[.int .i64 a.bits, .int .i64 0, .int .u16 0] 55)).alloc (.cells #[.int .i64 a.bits, .int .i64 0, .int .u16 0] 55))
          have Hv8 := Lib.hid ((((Hv7.out.ext z10)).alloc (.cells #[.int .i64 a.bits, .int .i64 0, .int .u16 0] 55)).alloc (.cells #[.int .i64 a.bits, .int .i64 0, .int .u16 0] 55))
          have Hone8 := Lib.hid ((((Hone7.out.ext z10)).alloc (.cells #[.int .i64 a.bits, .int .i64 0, .int .u16 0] 55)).alloc (.cells #[.int .i64 a.bits, .int .i64 0, .int .u16 0] 55))
          have HE8 := Lib.hid ((((HE7.out.ext z10)).alloc (.cells #[.int .i64 a.bits, .int .i64 0, .int .u16 0] 55)).alloc (.cells #[.int .i64 a.bits, .int .i64 0, .int .u16 0] 55))
          have Htwo8 := Lib.hid (((Blk.new (ext V7 z10) 55 #[.int .i64 a.bits, .int .i64 0, .int .u16 0])).alloc (.cells #[.int .i64 a.bits, .int .i64 0, .int .u16 0] 55))
          have Hnone8 := Lib.hid ((Blk.new' ((ext V7 z10).alloc (.cells #[.int .i64 a.bits, .int .i64 0, .int .u16 0] 55)) 55 #[.int .i64 a.bits, .int .i64 0, .int .u16 0] ((ext V7 z10).heap.size + 1) (by simp)))
          clear ca0 ca1 ca2 oa cb0 cb1 cb2 ob cc0 cc1 cc2 oc ck0 ck1 ck2 ok cm0 cm1 cm2 om cleft0 cleft1 cleft2 oleft cright0 cright1 cright2 oright cv0 cv1 cv2 ov cone0 cone1 cone2 oone
          generalize ((ext V7 z10).alloc (.cells #[.int .i64 a.bits, .int .i64 0, .int .u16 0] 55)).alloc (.cells #[.int .i64 a.bits, .int .i64 0, .int .u16 0] 55) = V8 at *
          generalize (ext V7 z10).heap.size = Gtwo at *
          clear Ha7 Hb7 Hc7 Hk7 Hm7 Hleft7 Hright7 Hv7 Hone7 HE7
          have ca0 : V8.cell? ⟨w.heap.size, 0, none⟩ = some (.int .i64 a.bits) := Ha8.out.cell 0
          have ca1 : V8.cell? ⟨w.heap.size, 1, none⟩ = some (.int .i64 a.perm) := Ha8.out.cell 1
          have ca2 : V8.cell? ⟨w.heap.size, 2, none⟩ = some (.int .u16 (uv a.pad)) := Ha8.out.cell 2
          have oa := Old.mk Ha8.out.lt
          have cb0 : V8.cell? ⟨w.heap.size + 1, 0, none⟩ = some (.int .i64 b.bits) := Hb8.out.cell 0
          have cb1 : V8.cell? ⟨w.heap.size + 1, 1, none⟩ = some (.int .i64 b.perm) := Hb8.out.cell 1
          have cb2 : V8.cell? ⟨w.heap.size + 1, 2, none⟩ = some (.int .u16 (uv b.pad)) := Hb8.out.cell 2
          have ob := Old.mk Hb8.out.lt
          have cc0 : V8.cell? ⟨w.heap.size + 1 + 1, 0, none⟩ = some (.int .i64 c.bits) := Hc8.out.cell 0
          have cc1 : V8.cell? ⟨w.heap.size + 1 + 1, 1, none⟩ = some (.int .i64 c.perm) := Hc8.out.cell 1
          have cc2 : V8.cell? ⟨w.heap.size + 1 + 1, 2, none⟩ = some (.int .u16 (uv c.pad)) := Hc8.out.cell 2
          have oc := Old.mk Hc8.out.lt
          have ck0 : V8.cell? ⟨Gk, 0, none⟩ = some (.int .i64 k.bits) := Hk8.out.cell 0
          have ck1 : V8.cell? ⟨Gk, 1, none⟩ = some (.int .i64 k.perm) := Hk8.out.cell 1
          have ck2 : V8.cell? ⟨Gk, 2, none⟩ = some (.int .u16 (uv k.pad)) := Hk8.out.cell 2
          have ok := Old.mk Hk8.out.lt
          have cm0 : V8.cell? ⟨Gm, 0, none⟩ = some (.int .i64 m.bits) := Hm8.out.cell 0
          have cm1 : V8.cell? ⟨Gm, 1, none⟩ = some (.int .i64 m.perm) := Hm8.out.cell 1
          have cm2 : V8.cell? ⟨Gm, 2, none⟩ = some (.int .u16 (uv m.pad)) := Hm8.out.cell 2
          have om := Old.mk Hm8.out.lt
          have cleft0 : V8.cell? ⟨Gleft, 0, none⟩ = some (.int .i64 l.bits) := Hleft8.out.cell 0
          have cleft1 : V8.cell? ⟨Gleft, 1, none⟩ = some (.int .i64 l.perm) := Hleft8.out.cell 1
          have cleft2 : V8.cell? ⟨Gleft, 2, none⟩ = some (.int .u16 (uv l.pad)) := Hleft8.out.cell 2
          have oleft := Old.mk Hleft8.out.lt
          have cright0 : V8.cell? ⟨Gright, 0, none⟩ = some (.int .i64 l.bits) := Hright8.out.cell 0
          have cright1 : V8.cell? ⟨Gright, 1, none⟩ = some (.int .i64 l.perm) := Hright8.out.cell 1
          have cright2 : V8.cell? ⟨Gright, 2, none⟩ = some (.int .u16 (uv l.pad)) := Hright8.out.cell 2
          have oright := Old.mk Hright8.out.lt
          have cv0 : V8.cell? ⟨Gv, 0, none⟩ = some (.int .i64 v.bits) := Hv8.out.cell 0
          have cv1 : V8.cell? ⟨Gv, 1, none⟩ = some (.int .i64 v.perm) := Hv8.out.cell 1
          have cv2 : V8.cell? ⟨Gv, 2, none⟩ = some (.int .u16 (uv v.pad)) := Hv8.out.cell 2
          have ov := Old.mk Hv8.out.lt
          have cone0 : V8.cell? ⟨Gone, 0, none⟩ = some (.int .i64 a.bits) := Hone8.out.cell 0
          have cone1 : V8.cell? ⟨Gone, 1, none⟩ = some (.int .i64 0) := Hone8.out.cell 1
          have cone2 : V8.cell? ⟨Gone, 2, none⟩ = some (.int .u16 0) := Hone8.out.cell 2
          have oone := Old.mk Hone8.out.lt
          have ctwo0 : V8.cell? ⟨Gtwo, 0, none⟩ = some (.int .i64 a.bits) := Htwo8.out.cell 0
          have ctwo1 : V8.cell? ⟨Gtwo, 1, none⟩ = some (.int .i64 0) := Htwo8.out.cell 1
          have ctwo2 : V8.cell? ⟨Gtwo, 2, none⟩ = some (.int .u16 0) := Htwo8.out.cell 2
          have otwo := Old.mk Htwo8.out.lt
          have cnone0 : V8.cell? ⟨Gtwo + 1, 0, none⟩ = some (.int .i64 a.bits) := Hnone8.out.cell 0
          have cnone1 : V8.cell? ⟨Gtwo + 1, 1, none⟩ = some (.int .i64 0) := Hnone8.out.cell 1
          have cnone2 : V8.cell? ⟨Gtwo + 1, 2, none⟩ = some (.int .u16 0) := Hnone8.out.cell 2
          have onone := Old.mk Hnone8.out.lt
          refine Calls.ext (C8.out _) fun z11 => ?_
          go_wp2_with fail
          refine Calls.ext (C9.out _) fun z12 => ?_
          go_wp2_with fail
          refine Calls.ext (C10.out _) fun z13 => ?_
          go_wp2_with fail
          refine Calls.ext (C11.out _) fun z14 => ?_
          go_wp2_with fail
          refine Calls.ext (C12.out _) fun z15 => ?_
          go_wp2_with fail
          go_ret
          exact ⟨rfl, (((((HE8.out.ext z11).ext z12).ext z13).ext z14).ext z15)⟩
set_option maxRecDepth 100000 in
theorem veilGroup_lifted (os : Os) (started : os.Started) (H : Type) (enc : TypeId × Value → H) :
    ReturnsInHanded {} Try.checked os 13 .any (Rows.veilGroupSpec.pre6 enc Try.prog Try.f13 Rows.veilGroupRow.domain false) (Rows.veilGroupSpec.post enc Try.prog Try.f13 false true false false) := by
  refine returnsInHanded_of_change (C := Try.checked) own started (by kernel_rfl) Try.func13
    (ChangeSpec.witness6 (enc := enc) (C := Try.checked) false ⟨#[], #[.agg #[.int .i64 0, .int .i64 0, .int .u16 0], .agg #[.int .i64 0, .int .i64 0, .int .u16 0], .agg #[.int .i64 0, .int .i64 0, .int .u16 0], .int .u16 0], []⟩ 8 (by kernel_rfl) (by kernel_rfl) (by kernel_rfl) (by kernel_rfl)) ?_
  intro W base args ds gs before hval0 hW hcnd _
  have hval : ∀ (j : Nat) t v, Try.f13.params[j]? = some t → args[j]? = some v → Value.okWide Try.prog W .any base t v := hval0
  have hW' := hW
  obtain ⟨p, q, hA0, hV, rfl, hfz, hnd⟩ := hW
  have hA : DataW.TrodAll enc Try.prog W 0 (fun _ => true) true Try.f13.params.toList args.toList ds p := hA0
  rw [Try.params13] at hA hval
  obtain ⟨v0, vs0, d0, ds0, p0, q0, hargs, rfl, rfl, h0, r0⟩ := trodAll_cons hA
  obtain ⟨v1, vs1, d1, ds1, p1, q1, rfl, rfl, rfl, h1, r1⟩ := trodAll_cons r0
  obtain ⟨v2, vs2, d2, ds2, p2, q2, rfl, rfl, rfl, h2, r2⟩ := trodAll_cons r1
  obtain ⟨v3, vs3, d3, ds3, p3, q3, rfl, rfl, rfl, h3, r3⟩ := trodAll_cons r2
  obtain ⟨rfl, rfl, rfl⟩ := trodAll_nil r3
  obtain rfl : args = #[v0, v1, v2, v3] := by cases args; simp_all
  obtain ⟨rfl, rfl⟩ := trodVars_none hV
  have k0 := h0
  have lt0 : ∀ x ∈ p0, x.block < W.heap.size := by obtain ⟨m, hm⟩ := k0; exact DataW.trod_lt m _ _ _ hm
  obtain ⟨ns0, hl0, hv0, wf0⟩ := open_nums (ks := [.i64, .i64, .u16]) Try.underlying55 (by kernel_rfl) (by kernel_rfl) (kindsOf_of (by kernel_rfl)) (hval 0 55 v0 rfl rfl) h0
  have k1 := h1
  have lt1 : ∀ x ∈ p1, x.block < W.heap.size := by obtain ⟨m, hm⟩ := k1; exact DataW.trod_lt m _ _ _ hm
  obtain ⟨ns1, hl1, hv1, wf1⟩ := open_nums (ks := [.i64, .i64, .u16]) Try.underlying55 (by kernel_rfl) (by kernel_rfl) (kindsOf_of (by kernel_rfl)) (hval 1 55 v1 rfl rfl) h1
  have k2 := h2
  have lt2 : ∀ x ∈ p2, x.block < W.heap.size := by obtain ⟨m, hm⟩ := k2; exact DataW.trod_lt m _ _ _ hm
  obtain ⟨ns2, hl2, hv2, wf2⟩ := open_nums (ks := [.i64, .i64, .u16]) Try.underlying55 (by kernel_rfl) (by kernel_rfl) (kindsOf_of (by kernel_rfl)) (hval 2 55 v2 rfl rfl) h2
  have k3 := h3
  have lt3 : ∀ x ∈ p3, x.block < W.heap.size := by obtain ⟨m, hm⟩ := k3; exact DataW.trod_lt m _ _ _ hm
  obtain ⟨a3, rfl, _, _, w3⟩ := open_int Try.underlying27 (hval 3 27 v3 rfl rfl) h3
  clear hA0 hval0
  obtain ⟨ky0, hky0⟩ := key_of hl0 wf0
  rw [hky0] at hv0
  subst hv0
  obtain ⟨ky1, hky1⟩ := key_of hl1 wf1
  rw [hky1] at hv1
  subst hv1
  obtain ⟨ky2, hky2⟩ := key_of hl2 wf2
  rw [hky2] at hv2
  subst hv2
  have e3 := uv_of w3
  generalize BitVec.ofNat 16 a3.toNat = x3 at e3
  subst e3
  refine (veilGroup_walk ky0 ky1 ky2 x3 W).mono fun e W' ⟨he, bel⟩ => ?_
  subst he
  exact ⟨_, rfl, _, _, _, [], _, [], hW', trodAll_mk1 (shut_bool Try.underlying4 _), (trodAll_cons_mk (Below.trod laidOut (by kernel_rfl) (of_decide_eq_true (by kernel_rfl)) k0 bel lt0) (trodAll_cons_mk (Below.trod laidOut (by kernel_rfl) (of_decide_eq_true (by kernel_rfl)) k1 bel lt1) (trodAll_cons_mk (Below.trod laidOut (by kernel_rfl) (of_decide_eq_true (by kernel_rfl)) k2 bel lt2) (trodAll_cons_mk (Below.trod laidOut (by kernel_rfl) (of_decide_eq_true (by kernel_rfl)) k3 bel lt3) trodAll_mk0)))), rfl, Below.frame bel _, fun h => by cases h⟩

theorem veilGroup_holds : Rows.VeilGroupSaid :=
  OpenClaim.holds_of_wide 13 Try.f13 rfl rfl rfl rfl rfl rfl rfl ⟨rfl, rfl, rfl, rfl, rfl⟩ rfl rfl rfl rfl rfl (by kernel_rfl) Try.func13 (by kernel_rfl)
    (of_decide_eq_true (by kernel_rfl)) (by unfold Func.isWrapper; first | (rw [if_pos (by decide +kernel)]; kernel_rfl) | (rw [if_neg (by decide +kernel)]; exact ⟨rfl, rfl⟩))
    (fun os started H enc _ => veilGroup_lifted os started H enc)
end Go.Proofs.Ytfdcapblgdlkaaa
