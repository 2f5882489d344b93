/- Deals as cells; which ones are valid. -/
import Derived.Test.YtfdcapblgdlkaaaPlays2
namespace Go.Proofs.Ytfdcapblgdlkaaa
open Go.RowKit

structure Dl where
  a : Nat → Int
  b : Nat → Int
  u : Nat → Int
  rc : Int
  rs : Int
  t : Nat → Int
def Dl.cells (d : Dl) : Array Value := A15 d.a ++ A15 d.b ++ A15 d.u ++ #[.int .u8 d.rc, .int .u8 d.rs] ++ A31 d.t
abbrev Dl.val (d : Dl) : Value := .agg d.cells
theorem Dl.size (d : Dl) : d.cells.size = 78 := by simp [Dl.cells, A15_size, A31_size]
theorem Dl.at_a (d : Dl) (i : Nat) (h : i < 15) : d.cells[i]? = some (.int .u8 (d.a i)) := by
  unfold Dl.cells
  rw [Array.getElem?_append_left (by simp [A15_size]; omega), Array.getElem?_append_left (by simp [A15_size]; omega), Array.getElem?_append_left (by simp [A15_size]; omega), Array.getElem?_append_left (by simp [A15_size]; omega), A15_at _ _ h]
theorem Dl.at_b (d : Dl) (i : Nat) (h : i < 15) : d.cells[15 + i]? = some (.int .u8 (d.b i)) := by
  unfold Dl.cells
  rw [Array.getElem?_append_left (by simp [A15_size]; omega), Array.getElem?_append_left (by simp [A15_size]; omega), Array.getElem?_append_left (by simp [A15_size]; omega), Array.getElem?_append_right (by simp [A15_size]), A15_size, show 15 + i - 15 = i by omega, A15_at _ _ h]
theorem Dl.at_u (d : Dl) (i : Nat) (h : i < 15) : d.cells[30 + i]? = some (.int .u8 (d.u i)) := by
  unfold Dl.cells
  rw [Array.getElem?_append_left (by simp [A15_size]; omega), Array.getElem?_append_left (by simp [A15_size]; omega), Array.getElem?_append_right (by simp [A15_size])]
  simp only [Array.size_append, A15_size]
  rw [show 30 + i - (15 + 15) = i by omega, A15_at _ _ h]
theorem Dl.at_rc (d : Dl) : d.cells[45]? = some (.int .u8 d.rc) := by
  unfold Dl.cells
  rw [Array.getElem?_append_left (by simp [A15_size]), Array.getElem?_append_right (by simp [A15_size])]
  simp [A15_size]
theorem Dl.at_rs (d : Dl) : d.cells[46]? = some (.int .u8 d.rs) := by
  unfold Dl.cells
  rw [Array.getElem?_append_left (by simp [A15_size]), Array.getElem?_append_right (by simp [A15_size])]
  simp [A15_size]
theorem Dl.at_t (d : Dl) (i : Nat) (h : i < 31) : d.cells[47 + i]? = some (.int .u32 (d.t i)) := by
  unfold Dl.cells
  rw [Array.getElem?_append_right (by simp [A15_size])]
  simp only [Array.size_append, A15_size, List.size_toArray, List.length_cons, List.length_nil]
  rw [show 47 + i - (15 + 15 + 15 + (0 + 1 + 1)) = i by omega, A31_at _ _ h]
structure Dl.ok (d : Dl) : Prop where
  a : ∀ i, i < 15 → 0 ≤ d.a i ∧ d.a i < 256
  b : ∀ i, i < 15 → 0 ≤ d.b i ∧ d.b i < 256
  u : ∀ i, i < 15 → 0 ≤ d.u i ∧ d.u i < 256
  rc : 0 ≤ d.rc ∧ d.rc < 256
  rs : 0 ≤ d.rs ∧ d.rs < 256
  t : ∀ i, i < 31 → 0 ≤ d.t i ∧ d.t i < 4294967296
def Dl.okB (d : Dl) : Bool := numB d.a && numB d.b && numB d.u && decide (d.rc < 31) && decide (d.rs < 31) && tabB d.t
theorem info42 (d : Dl) : (Try.prog.info? 42).map (·.size) = some d.cells.size := by rw [Dl.size]; kernel_rfl
section
variable {w : World} {g : Nat} {d : Dl} (h : Blk w g 42 d.cells)
include h
theorem cut_a : ∀ j, j < 15 → w.cell? ⟨g, 0 + j, none⟩ = some (u8V d.a j) := fun j hj => by rw [Nat.zero_add]; exact (h.cell j).trans (d.at_a j hj)
theorem cut_b : ∀ j, j < 15 → w.cell? ⟨g, 15 + j, none⟩ = some (u8V d.b j) := fun j hj => (h.cell (15 + j)).trans (d.at_b j hj)
theorem cut_u : ∀ j, j < 15 → w.cell? ⟨g, 30 + j, none⟩ = some (u8V d.u j) := fun j hj => (h.cell (30 + j)).trans (d.at_u j hj)
theorem cut_t : ∀ j, j < 31 → w.cell? ⟨g, 47 + j, none⟩ = some (u32V d.t j) := fun j hj => (h.cell (47 + j)).trans (d.at_t j hj)
theorem cut_rc : w.cell? ⟨g, 45, none⟩ = some (.int .u8 d.rc) := (h.cell 45).trans d.at_rc
theorem cut_rs : w.cell? ⟨g, 46, none⟩ = some (.int .u8 d.rs) := (h.cell 46).trans d.at_rs
end
set_option maxRecDepth 100000 in
set_option maxHeartbeats 2000000 in
theorem validDeal_any (d : Dl) (hok : d.ok) (w : World) : Calls Try.prog 47 #[d.val] w fun e w' => e = .returned (.bool d.okB) ∧ Ext w w' := by
  have HO := Lib.hid (show d.okB = (numB d.a && numB d.b && numB d.u && decide (d.rc < 31) && decide (d.rs < 31) && tabB d.t) from rfl)
  have C1 := fun w => numbers_any d.a hok.a w
  have C2 := fun w => numbers_any d.b hok.b w
  have C3 := fun w => numbers_any d.u hok.u w
  have C4 := fun w => tabled_any d.t hok.t w
  clear hok
  have HB := Lib.hid (Blk.new w 42 d.cells)
  have HE := Lib.hid ((Ext.refl w).alloc (.cells d.cells 42))
  cases b0 : numB d.a
  · rw [b0] at C1 HO
    have D1 := Lib.hid C1
    have D2 := Lib.hid C2
    have D3 := Lib.hid C3
    have D4 := Lib.hid C4
    clear C1 C2 C3 C4
    go_enter Try.func47, Try.ntmps47
    go_wp2_with (refine wpList_load_sub rfl 22 (.tmp 3) rfl w.heap.size 0 rfl 15 (u8V d.a) _ (cut_a HB.out) Try.underlying22 rfl info22 ?_)
    refine Calls.ext (D1.out _) fun z1 => ?_
    go_wp2_with fail
    go_ret
    exact ⟨ret_of (by rw [HO.out]; rfl), HE.out.ext _⟩
  · rw [b0] at C1 HO
    cases b1 : numB d.b
    · rw [b1] at C2 HO
      have D1 := Lib.hid C1
      have D2 := Lib.hid C2
      have D3 := Lib.hid C3
      have D4 := Lib.hid C4
      clear C1 C2 C3 C4
      go_enter Try.func47, Try.ntmps47
      go_wp2_with (refine wpList_load_sub rfl 22 (.tmp 3) rfl w.heap.size 0 rfl 15 (u8V d.a) _ (cut_a HB.out) Try.underlying22 rfl info22 ?_)
      refine Calls.ext (D1.out _) fun z1 => ?_
      go_wp2_with (refine wpList_load_sub_g 22 (.tmp 7) rfl rfl w.heap.size 15 rfl 15 (u8V d.b) _ (cut_b (HB.out.ext z1)) Try.underlying22 rfl info22 ?_)
      refine Calls.ext (D2.out _) fun z2 => ?_
      go_wp2_with fail
      go_ret
      exact ⟨ret_of (by rw [HO.out]; rfl), (HE.out.ext _).ext _⟩
    · rw [b1] at C2 HO
      cases b2 : numB d.u
      · rw [b2] at C3 HO
        have D1 := Lib.hid C1
        have D2 := Lib.hid C2
        have D3 := Lib.hid C3
        have D4 := Lib.hid C4
        clear C1 C2 C3 C4
        go_enter Try.func47, Try.ntmps47
        go_wp2_with (refine wpList_load_sub rfl 22 (.tmp 3) rfl w.heap.size 0 rfl 15 (u8V d.a) _ (cut_a HB.out) Try.underlying22 rfl info22 ?_)
        refine Calls.ext (D1.out _) fun z1 => ?_
        go_wp2_with (refine wpList_load_sub_g 22 (.tmp 7) rfl rfl w.heap.size 15 rfl 15 (u8V d.b) _ (cut_b (HB.out.ext z1)) Try.underlying22 rfl info22 ?_)
        refine Calls.ext (D2.out _) fun z2 => ?_
        go_wp2_with (refine wpList_load_sub_g 22 (.tmp 12) rfl rfl w.heap.size 30 rfl 15 (u8V d.u) _ (cut_u ((HB.out.ext z1).ext z2)) Try.underlying22 rfl info22 ?_)
        refine Calls.ext (D3.out _) fun z3 => ?_
        go_wp2_with fail
        go_ret
        exact ⟨ret_of (by rw [HO.out]; rfl), ((HE.out.ext _).ext _).ext _⟩
      · rw [b2] at C3 HO
        by_cases h3 : d.rc < 31
        · have b3 : decide (d.rc < 31) = true := by simpa using h3
          rw [b3] at HO
          by_cases h4 : d.rs < 31
          · have b4 : decide (d.rs < 31) = true := by simpa using h4
            rw [b4] at HO
            cases b5 : tabB d.t
            · rw [b5] at C4 HO
              have D1 := Lib.hid C1
              have D2 := Lib.hid C2
              have D3 := Lib.hid C3
              have D4 := Lib.hid C4
              clear C1 C2 C3 C4
              have cC : ∀ z1 z2 z3, (ext (ext (ext (w.alloc (.cells d.cells 42)) z1) z2) z3).cell? ⟨w.heap.size, 45, none⟩ = some (.int .u8 d.rc) := fun z1 z2 z3 => cut_rc (((HB.out.ext z1).ext z2).ext z3)
              have cS : ∀ z1 z2 z3, (ext (ext (ext (w.alloc (.cells d.cells 42)) z1) z2) z3).cell? ⟨w.heap.size, 46, none⟩ = some (.int .u8 d.rs) := fun z1 z2 z3 => cut_rs (((HB.out.ext z1).ext z2).ext z3)
              go_enter Try.func47, Try.ntmps47
              go_wp2_with (refine wpList_load_sub rfl 22 (.tmp 3) rfl w.heap.size 0 rfl 15 (u8V d.a) _ (cut_a HB.out) Try.underlying22 rfl info22 ?_)
              refine Calls.ext (D1.out _) fun z1 => ?_
              go_wp2_with (refine wpList_load_sub_g 22 (.tmp 7) rfl rfl w.heap.size 15 rfl 15 (u8V d.b) _ (cut_b (HB.out.ext z1)) Try.underlying22 rfl info22 ?_)
              refine Calls.ext (D2.out _) fun z2 => ?_
              go_wp2_with (refine wpList_load_sub_g 22 (.tmp 12) rfl rfl w.heap.size 30 rfl 15 (u8V d.u) _ (cut_u ((HB.out.ext z1).ext z2)) Try.underlying22 rfl info22 ?_)
              refine Calls.ext (D3.out _) fun z3 => ?_
              go_wp2_with (refine wpList_load_sub_g 24 (.tmp 27) rfl rfl w.heap.size 47 rfl 31 (u32V d.t) _ (cut_t (((HB.out.ext z1).ext z2).ext z3)) Try.underlying24 rfl info24 ?_)
              refine Calls.ext (D4.out _) fun z4 => ?_
              go_wp2_with fail
              go_ret
              exact ⟨ret_of (by rw [HO.out]; rfl), (((HE.out.ext _).ext _).ext _).ext _⟩
            · rw [b5] at C4 HO
              have D1 := Lib.hid C1
              have D2 := Lib.hid C2
              have D3 := Lib.hid C3
              have D4 := Lib.hid C4
              clear C1 C2 C3 C4
              have cC : ∀ z1 z2 z3, (ext (ext (ext (w.alloc (.cells d.cells 42)) z1) z2) z3).cell? ⟨w.heap.size, 45, none⟩ = some (.int .u8 d.rc) := fun z1 z2 z3 => cut_rc (((HB.out.ext z1).ext z2).ext z3)
              have cS : ∀ z1 z2 z3, (ext (ext (ext (w.alloc (.cells d.cells 42)) z1) z2) z3).cell? ⟨w.heap.size, 46, none⟩ = some (.int .u8 d.rs) := fun z1 z2 z3 => cut_rs (((HB.out.ext z1).ext z2).ext z3)
              go_enter Try.func47, Try.ntmps47
              go_wp2_with (refine wpList_load_sub rfl 22 (.tmp 3) rfl w.heap.size 0 rfl 15 (u8V d.a) _ (cut_a HB.out) Try.underlying22 rfl info22 ?_)
              refine Calls.ext (D1.out _) fun z1 => ?_
              go_wp2_with (refine wpList_load_sub_g 22 (.tmp 7) rfl rfl w.heap.size 15 rfl 15 (u8V d.b) _ (cut_b (HB.out.ext z1)) Try.underlying22 rfl info22 ?_)
              refine Calls.ext (D2.out _) fun z2 => ?_
              go_wp2_with (refine wpList_load_sub_g 22 (.tmp 12) rfl rfl w.heap.size 30 rfl 15 (u8V d.u) _ (cut_u ((HB.out.ext z1).ext z2)) Try.underlying22 rfl info22 ?_)
              refine Calls.ext (D3.out _) fun z3 => ?_
              go_wp2_with (refine wpList_load_sub_g 24 (.tmp 27) rfl rfl w.heap.size 47 rfl 31 (u32V d.t) _ (cut_t (((HB.out.ext z1).ext z2).ext z3)) Try.underlying24 rfl info24 ?_)
              refine Calls.ext (D4.out _) fun z4 => ?_
              go_wp2_with fail
              go_ret
              exact ⟨ret_of (by rw [HO.out]; rfl), (((HE.out.ext _).ext _).ext _).ext _⟩
          · have b4 : decide (d.rs < 31) = false := by simpa using h4
            rw [b4] at HO
            have D1 := Lib.hid C1
            have D2 := Lib.hid C2
            have D3 := Lib.hid C3
            have D4 := Lib.hid C4
            clear C1 C2 C3 C4
            have cC : ∀ z1 z2 z3, (ext (ext (ext (w.alloc (.cells d.cells 42)) z1) z2) z3).cell? ⟨w.heap.size, 45, none⟩ = some (.int .u8 d.rc) := fun z1 z2 z3 => cut_rc (((HB.out.ext z1).ext z2).ext z3)
            have cS : ∀ z1 z2 z3, (ext (ext (ext (w.alloc (.cells d.cells 42)) z1) z2) z3).cell? ⟨w.heap.size, 46, none⟩ = some (.int .u8 d.rs) := fun z1 z2 z3 => cut_rs (((HB.out.ext z1).ext z2).ext z3)
            go_enter Try.func47, Try.ntmps47
            go_wp2_with (refine wpList_load_sub rfl 22 (.tmp 3) rfl w.heap.size 0 rfl 15 (u8V d.a) _ (cut_a HB.out) Try.underlying22 rfl info22 ?_)
            refine Calls.ext (D1.out _) fun z1 => ?_
            go_wp2_with (refine wpList_load_sub_g 22 (.tmp 7) rfl rfl w.heap.size 15 rfl 15 (u8V d.b) _ (cut_b (HB.out.ext z1)) Try.underlying22 rfl info22 ?_)
            refine Calls.ext (D2.out _) fun z2 => ?_
            go_wp2_with (refine wpList_load_sub_g 22 (.tmp 12) rfl rfl w.heap.size 30 rfl 15 (u8V d.u) _ (cut_u ((HB.out.ext z1).ext z2)) Try.underlying22 rfl info22 ?_)
            refine Calls.ext (D3.out _) fun z3 => ?_
            go_wp2_with fail
            go_ret
            exact ⟨ret_of (by rw [HO.out]; rfl), ((HE.out.ext _).ext _).ext _⟩
        · have b3 : decide (d.rc < 31) = false := by simpa using h3
          rw [b3] at HO
          have D1 := Lib.hid C1
          have D2 := Lib.hid C2
          have D3 := Lib.hid C3
          have D4 := Lib.hid C4
          clear C1 C2 C3 C4
          have cC : ∀ z1 z2 z3, (ext (ext (ext (w.alloc (.cells d.cells 42)) z1) z2) z3).cell? ⟨w.heap.size, 45, none⟩ = some (.int .u8 d.rc) := fun z1 z2 z3 => cut_rc (((HB.out.ext z1).ext z2).ext z3)
          go_enter Try.func47, Try.ntmps47
          go_wp2_with (refine wpList_load_sub rfl 22 (.tmp 3) rfl w.heap.size 0 rfl 15 (u8V d.a) _ (cut_a HB.out) Try.underlying22 rfl info22 ?_)
          refine Calls.ext (D1.out _) fun z1 => ?_
          go_wp2_with (refine wpList_load_sub_g 22 (.tmp 7) rfl rfl w.heap.size 15 rfl 15 (u8V d.b) _ (cut_b (HB.out.ext z1)) Try.underlying22 rfl info22 ?_)
          refine Calls.ext (D2.out _) fun z2 => ?_
          go_wp2_with (refine wpList_load_sub_g 22 (.tmp 12) rfl rfl w.heap.size 30 rfl 15 (u8V d.u) _ (cut_u ((HB.out.ext z1).ext z2)) Try.underlying22 rfl info22 ?_)
          refine Calls.ext (D3.out _) fun z3 => ?_
          go_wp2_with fail
          go_ret
          exact ⟨ret_of (by rw [HO.out]; rfl), ((HE.out.ext _).ext _).ext _⟩
end Go.Proofs.Ytfdcapblgdlkaaa
/- The check of a deal. -/
namespace Go.Proofs.Ytfdcapblgdlkaaa
open Go.RowKit

section
variable {P : Program} {ops : Array Oper} {rest : List Oper} {o : Oper} {a : Act} {w : World} {K : Act → World → Prop} {Q : Exit → Act → World → Prop}
theorem wp_build_row (T : TypeId) (ps : List (Nat × Operand)) (ho : o.op = .build T ps.toArray) (xs : List (Nat × Value)) (hx : ps.map (fun p => (p.1, a.eval p.2)) = xs) (c : Array Value) (hb : ∀ w, (Instr.build T xs.toArray).run P w = .ok (.agg c) w)
    (h : K (a.put o.dst (.agg c)) w) : o.wp P a w K Q := by
  subst hx
  unfold Oper.wp execOp
  simp only [ho, List.map_toArray, Sem.run_bind, hb w, Result.andThen_ok]
  exact h
theorem wpList_build_row (hgd : o.guard = none) (T : TypeId) (ps : List (Nat × Operand)) (ho : o.op = .build T ps.toArray) (xs : List (Nat × Value)) (hx : ps.map (fun p => (p.1, a.eval p.2)) = xs) (c : Array Value) (hb : ∀ w, (Instr.build T xs.toArray).run P w = .ok (.agg c) w)
    (h : wpList P ops Q rest (a.put o.dst (.agg c)) w) : wpList P ops Q (o :: rest) a w :=
  wpList_plain hgd fun _ hK => wp_build_row T ps ho xs hx c hb (hK _ _ h)
theorem wpList_build_row_g (T : TypeId) (ps : List (Nat × Operand)) (ho : o.op = .build T ps.toArray) (hw : Region.wanted o (yielded ops a.tmps) = true) (xs : List (Nat × Value)) (hx : ps.map (fun p => (p.1, a.eval p.2)) = xs) (c : Array Value) (hb : ∀ w, (Instr.build T xs.toArray).run P w = .ok (.agg c) w)
    (h : wpList P ops Q rest (a.put o.dst (.agg c)) w) : wpList P ops Q (o :: rest) a w := by
  unfold wpList
  rw [if_pos hw]
  exact .inl (wp_build_row T ps ho xs hx c hb h)
end
theorem build26 (m s : Nat → Int) (sh : Int) (t : Nat → Int) (w : World) : (Instr.build 26 #[(0, .agg (valL 15 (u8V m)).toArray), (1, .agg (valL 15 (u8V s)).toArray), (2, .int .u8 sh), (3, .agg (valL 31 (u32V t)).toArray)]).run Try.prog w = .ok (.agg (Pty.cells ⟨m, s, sh, t⟩)) w := by kernel_rfl
theorem build26' (m : Nat → Int) (sh : Int) (w : World) : (Instr.build 26 #[(0, .agg (valL 15 (u8V m)).toArray), (2, .int .u8 sh)]).run Try.prog w = .ok (.agg (Pty.cells ⟨m, fun _ => 0, sh, fun _ => 0⟩)) w := by kernel_rfl
theorem numB_zero : numB (fun _ => 0) = true := by decide
theorem tabB_zero : tabB (fun _ => 0) = true := by decide
theorem deal_split (d : Dl) : d.okB = (Pty.okB ⟨d.a, d.u, d.rc, d.t⟩ && Pty.okB ⟨d.b, fun _ => 0, d.rs, fun _ => 0⟩) := by
  simp only [Dl.okB, Pty.okB, numB_zero, tabB_zero, Bool.and_true]
  cases numB d.a <;> cases numB d.b <;> cases numB d.u <;> cases decide (d.rc < 31) <;> cases decide (d.rs < 31) <;> cases tabB d.t <;> rfl
def chkD (d : Dl) : Int := if d.okB = true then 0 else 60
set_option maxRecDepth 100000 in
set_option maxHeartbeats 2000000 in
theorem checkDeal_any (d : Dl) (w : World) : Calls Try.prog 23 #[d.val] w fun e w' => e = .returned (.int .i64 (chkD d)) ∧ Ext w w' := by
  have HO := Lib.hid (show chkD d = if (Pty.okB ⟨d.a, d.u, d.rc, d.t⟩ && Pty.okB ⟨d.b, fun _ => 0, d.rs, fun _ => 0⟩) = true then 0 else 60 by unfold chkD; rw [deal_split])
  have C1 := fun w => party_any ⟨d.a, d.u, d.rc, d.t⟩ w
  have C2 := fun w => party_any ⟨d.b, fun _ => 0, d.rs, fun _ => 0⟩ w
  have HB := Lib.hid (Blk.new w 42 d.cells)
  have HE := Lib.hid ((Ext.refl w).alloc (.cells d.cells 42))
  have cR : (w.alloc (.cells d.cells 42)).cell? ⟨w.heap.size, 45, none⟩ = some (.int .u8 d.rc) := cut_rc HB.out
  have cS : ∀ z, (ext (w.alloc (.cells d.cells 42)) z).cell? ⟨w.heap.size, 46, none⟩ = some (.int .u8 d.rs) := fun z => cut_rs (HB.out.ext z)
  cases b1 : Pty.okB ⟨d.a, d.u, d.rc, d.t⟩
  · rw [b1] at C1 HO
    have D1 := Lib.hid C1
    clear C1 C2 b1
    go_enter Try.func23, Try.ntmps23
    go_wp2_with (first | (refine wpList_build_row rfl 26 [(0, .tmp 4), (1, .tmp 6), (2, .tmp 8), (3, .tmp 10)] rfl [(0, .agg (valL 15 (u8V d.a)).toArray), (1, .agg (valL 15 (u8V d.u)).toArray), (2, .int .u8 d.rc), (3, .agg (valL 31 (u32V d.t)).toArray)] rfl _ (build26 d.a d.u d.rc d.t) ?_) | (refine wpList_load_sub rfl 22 (.tmp 3) rfl w.heap.size 0 rfl 15 (u8V d.a) _ (cut_a HB.out) Try.underlying22 rfl info22 ?_) | (refine wpList_load_sub rfl 22 (.tmp 5) rfl w.heap.size 30 rfl 15 (u8V d.u) _ (cut_u HB.out) Try.underlying22 rfl info22 ?_) | (refine wpList_load_sub rfl 24 (.tmp 9) rfl w.heap.size 47 rfl 31 (u32V d.t) _ (cut_t HB.out) Try.underlying24 rfl info24 ?_))
    refine Calls.ext (D1.out _) fun z1 => ?_
    go_wp2_with fail
    go_ret
    exact ⟨ret_of (by rw [HO.out]; rfl), HE.out.ext _⟩
  · rw [b1] at C1 HO
    cases b2 : Pty.okB ⟨d.b, fun _ => 0, d.rs, fun _ => 0⟩
    all_goals
      rw [b2] at C2 HO
      have D1 := Lib.hid C1
      have D2 := Lib.hid C2
      clear C1 C2 b1 b2
      go_enter Try.func23, Try.ntmps23
      go_wp2_with (first | (refine wpList_build_row rfl 26 [(0, .tmp 4), (1, .tmp 6), (2, .tmp 8), (3, .tmp 10)] rfl [(0, .agg (valL 15 (u8V d.a)).toArray), (1, .agg (valL 15 (u8V d.u)).toArray), (2, .int .u8 d.rc), (3, .agg (valL 31 (u32V d.t)).toArray)] rfl _ (build26 d.a d.u d.rc d.t) ?_) | (refine wpList_load_sub rfl 22 (.tmp 3) rfl w.heap.size 0 rfl 15 (u8V d.a) _ (cut_a HB.out) Try.underlying22 rfl info22 ?_) | (refine wpList_load_sub rfl 22 (.tmp 5) rfl w.heap.size 30 rfl 15 (u8V d.u) _ (cut_u HB.out) Try.underlying22 rfl info22 ?_) | (refine wpList_load_sub rfl 24 (.tmp 9) rfl w.heap.size 47 rfl 31 (u32V d.t) _ (cut_t HB.out) Try.underlying24 rfl info24 ?_))
      refine Calls.ext (D1.out _) fun z1 => ?_
      go_wp2_with (first | (refine wpList_build_row_g 26 [(0, .tmp 16), (2, .tmp 18)] rfl rfl [(0, .agg (valL 15 (u8V d.b)).toArray), (2, .int .u8 d.rs)] rfl _ (build26' d.b d.rs) ?_) | (refine wpList_load_sub_g 22 (.tmp 15) rfl rfl w.heap.size 15 rfl 15 (u8V d.b) _ (cut_b (HB.out.ext z1)) Try.underlying22 rfl info22 ?_))
      refine Calls.ext (D2.out _) fun z2 => ?_
      go_wp2_with fail
      go_ret
      exact ⟨ret_of (by rw [HO.out]; rfl), (HE.out.ext _).ext _⟩
set_option maxRecDepth 100000 in
set_option maxHeartbeats 2000000 in
theorem refCheckDeal_any (d : Dl) (hok : d.ok) (w : World) : Calls Try.prog 24 #[d.val] w fun e w' => e = .returned (.int .i64 (chkD d)) ∧ Ext w w' := by
  have HO := Lib.hid (show chkD d = if d.okB = true then 0 else 60 from rfl)
  have C1 := fun w => validDeal_any d hok w
  have HB := Lib.hid (Blk.new w 42 d.cells)
  have HE := Lib.hid ((Ext.refl w).alloc (.cells d.cells 42))
  cases b1 : d.okB
  all_goals
    rw [b1] at C1 HO
    have D1 := Lib.hid C1
    clear C1 b1
    go_enter Try.func24, Try.ntmps24
    go_wp2_with (refine wpList_load_row rfl 42 (.tmp 1) rfl w.heap.size rfl 42 d.cells (0, 0) _ HB.out Try.underlying42 rfl (info42 d) ?_)
    refine Calls.ext (D1.out _) fun z1 => ?_
    go_wp2_with fail
    go_ret
    exact ⟨ret_of (by rw [HO.out]; rfl), HE.out.ext _⟩
end Go.Proofs.Ytfdcapblgdlkaaa
