/- Which parties are valid. -/
import Derived.Test.YtfdcapblgdlkaaaCells
namespace Go.Proofs.Ytfdcapblgdlkaaa
open Go.RowKit

set_option maxRecDepth 100000 in
set_option maxHeartbeats 2000000 in
theorem party_any (p : Pty) (w : World) : Calls Try.prog 50 #[p.val] w fun e w' => e = .returned (.bool p.okB) ∧ Ext w w' := by
  have HO := Lib.hid (show p.okB = (numB p.m && numB p.s && decide (p.sh < 31) && tabB p.t) from rfl)
  go_enter Try.func50, Try.ntmps50
  go_wp2_with fail
  have HB := Lib.hid (Blk.new w 26 p.cells)
  have HE := Lib.hid ((Ext.refl w).alloc (.cells p.cells 26))
  generalize w.alloc (.cells p.cells 26) = W at *
  have cS : W.cell? ⟨w.heap.size, 30, none⟩ = some (.int .u8 p.sh) := (HB.out.cell 30).trans p.at_sh
  have C1 := contains8_any p.m w.heap.size 0 W (fun j hj => by rw [Nat.zero_add]; exact (HB.out.cell j).trans (p.at_m j hj))
  have C2 := contains8_any p.s w.heap.size 15 W (fun j hj => (HB.out.cell (15 + j)).trans (p.at_s j hj))
  have C3 := fun w => large8_any p.sh w
  have C4 := contains32_any p.t w.heap.size 31 W (fun j hj => (HB.out.cell (31 + j)).trans (p.at_t j hj))
  cases b1 : numB p.m
  · rw [b1] at C1 HO
    have D1 := Lib.hid C1
    have D2 := Lib.hid C2
    have D3 := Lib.hid C3
    have D4 := Lib.hid C4
    clear C1 C2 C3 C4
    go_wp2_with fail
    refine Calls.same (D1.out) ?_
    go_wp2_with fail
    go_ret
    exact ⟨ret_of (by rw [HO.out]; rfl), HE.out⟩
  · rw [b1] at C1 HO
    cases b2 : numB p.s
    · rw [b2] at C2 HO
      have D1 := Lib.hid C1
      have D2 := Lib.hid C2
      have D3 := Lib.hid C3
      have D4 := Lib.hid C4
      clear C1 C2 C3 C4
      go_wp2_with fail
      refine Calls.same (D1.out) ?_
      go_wp2_with fail
      refine Calls.same (D2.out) ?_
      go_wp2_with fail
      go_ret
      exact ⟨ret_of (by rw [HO.out]; rfl), HE.out⟩
    · rw [b2] at C2 HO
      by_cases h3 : p.sh < 31
      · have b3 : decide (31 ≤ p.sh) = false := by simp; omega
        have b3' : decide (p.sh < 31) = true := by simpa using h3
        rw [b3] at C3
        rw [b3'] at HO
        cases b4 : tabB p.t
        · rw [b4] at C4 HO
          have D1 := Lib.hid C1
          have D2 := Lib.hid C2
          have D3 := Lib.hid C3
          have D4 := Lib.hid C4
          clear C1 C2 C3 C4
          go_wp2_with fail
          refine Calls.same (D1.out) ?_
          go_wp2_with fail
          refine Calls.same (D2.out) ?_
          go_wp2_with fail
          refine Calls.same (D3.out _) ?_
          go_wp2_with fail
          refine Calls.same (D4.out) ?_
          go_wp2_with fail
          go_ret
          exact ⟨ret_of (by rw [HO.out]; rfl), HE.out⟩
        · rw [b4] at C4 HO
          have D1 := Lib.hid C1
          have D2 := Lib.hid C2
          have D3 := Lib.hid C3
          have D4 := Lib.hid C4
          clear C1 C2 C3 C4
          go_wp2_with fail
          refine Calls.same (D1.out) ?_
          go_wp2_with fail
          refine Calls.same (D2.out) ?_
          go_wp2_with fail
          refine Calls.same (D3.out _) ?_
          go_wp2_with fail
          refine Calls.same (D4.out) ?_
          go_wp2_with fail
          go_ret
          exact ⟨ret_of (by rw [HO.out]; rfl), HE.out⟩
      · have b3 : decide (31 ≤ p.sh) = true := by simp; omega
        have b3' : decide (p.sh < 31) = false := by simpa using h3
        rw [b3] at C3
        rw [b3'] at HO
        have D1 := Lib.hid C1
        have D2 := Lib.hid C2
        have D3 := Lib.hid C3
        have D4 := Lib.hid C4
        clear C1 C2 C3 C4
        go_wp2_with fail
        refine Calls.same (D1.out) ?_
        go_wp2_with fail
        refine Calls.same (D2.out) ?_
        go_wp2_with fail
        refine Calls.same (D3.out _) ?_
        go_wp2_with fail
        go_ret
        exact ⟨ret_of (by rw [HO.out]; rfl), HE.out⟩
theorem info22 : (Try.prog.info? 22).map (·.size) = some 15 := by kernel_rfl
theorem info24 : (Try.prog.info? 24).map (·.size) = some 31 := by kernel_rfl
set_option maxRecDepth 100000 in
set_option maxHeartbeats 400000 in
theorem validParty_any (p : Pty) (hok : p.ok) (w : World) : Calls Try.prog 52 #[p.val] w fun e w' => e = .returned (.bool p.okB) ∧ Ext w w' := by
  have HO := Lib.hid (show p.okB = (numB p.m && numB p.s && decide (p.sh < 31) && tabB p.t) from rfl)
  have C1 := fun w => numbers_any p.m hok.m w
  have C2 := fun w => numbers_any p.s hok.s w
  have C4 := fun w => tabled_any p.t hok.t w
  clear hok
  have HB := Lib.hid (Blk.new w 26 p.cells)
  have HE := Lib.hid ((Ext.refl w).alloc (.cells p.cells 26))
  have HM := Lib.hid (show ∀ j, j < 15 → (w.alloc (.cells p.cells 26)).cell? ⟨w.heap.size, 0 + j, none⟩ = some (u8V p.m j) from fun j hj => by rw [Nat.zero_add]; exact (HB.out.cell j).trans (p.at_m j hj))
  have HS := Lib.hid (show ∀ z j, j < 15 → (ext (w.alloc (.cells p.cells 26)) z).cell? ⟨w.heap.size, 15 + j, none⟩ = some (u8V p.s j) from fun z j hj => ((HB.out.ext z).cell (15 + j)).trans (p.at_s j hj))
  have HT := Lib.hid (show ∀ z z2 j, j < 31 → (ext (ext (w.alloc (.cells p.cells 26)) z) z2).cell? ⟨w.heap.size, 31 + j, none⟩ = some (u32V p.t j) from fun z z2 j hj => (((HB.out.ext z).ext z2).cell (31 + j)).trans (p.at_t j hj))
  have cS : ∀ z z2, (ext (ext (w.alloc (.cells p.cells 26)) z) z2).cell? ⟨w.heap.size, 30, none⟩ = some (.int .u8 p.sh) := fun z z2 => (((HB.out.ext z).ext z2).cell 30).trans p.at_sh
  cases b1 : numB p.m
  · rw [b1] at C1 HO
    have D1 := Lib.hid C1
    have D2 := Lib.hid C2
    have D4 := Lib.hid C4
    clear C1 C2 C4
    go_enter Try.func52, Try.ntmps52
    go_wp2_with (refine wpList_load_sub rfl 22 (.tmp 3) rfl w.heap.size 0 rfl 15 (u8V p.m) _ HM.out Try.underlying22 rfl info22 ?_)
    refine Calls.ext (D1.out _) fun z1 => ?_
    go_wp2_with fail
    go_ret
    exact ⟨ret_of (by rw [HO.out]; rfl), HE.out.ext _⟩
  · rw [b1] at C1 HO
    cases b2 : numB p.s
    · rw [b2] at C2 HO
      have D1 := Lib.hid C1
      have D2 := Lib.hid C2
      have D4 := Lib.hid C4
      clear C1 C2 C4
      go_enter Try.func52, Try.ntmps52
      go_wp2_with (refine wpList_load_sub rfl 22 (.tmp 3) rfl w.heap.size 0 rfl 15 (u8V p.m) _ HM.out Try.underlying22 rfl info22 ?_)
      refine Calls.ext (D1.out _) fun z1 => ?_
      go_wp2_with (refine wpList_load_sub_g 22 (.tmp 7) rfl rfl w.heap.size 15 rfl 15 (u8V p.s) _ (HS.out _) Try.underlying22 rfl info22 ?_)
      refine Calls.ext (D2.out _) fun z2 => ?_
      go_wp2_with fail
      go_ret
      exact ⟨ret_of (by rw [HO.out]; rfl), (HE.out.ext _).ext _⟩
    · rw [b2] at C2 HO
      by_cases h3 : p.sh < 31
      · have b3' : decide (p.sh < 31) = true := by simpa using h3
        rw [b3'] at HO
        cases b4 : tabB p.t
        · rw [b4] at C4 HO
          have D1 := Lib.hid C1
          have D2 := Lib.hid C2
          have D4 := Lib.hid C4
          clear C1 C2 C4
          go_enter Try.func52, Try.ntmps52
          go_wp2_with (refine wpList_load_sub rfl 22 (.tmp 3) rfl w.heap.size 0 rfl 15 (u8V p.m) _ HM.out Try.underlying22 rfl info22 ?_)
          refine Calls.ext (D1.out _) fun z1 => ?_
          go_wp2_with (refine wpList_load_sub_g 22 (.tmp 7) rfl rfl w.heap.size 15 rfl 15 (u8V p.s) _ (HS.out _) Try.underlying22 rfl info22 ?_)
          refine Calls.ext (D2.out _) fun z2 => ?_
          go_wp2_with (refine wpList_load_sub_g 24 (.tmp 17) rfl rfl w.heap.size 31 rfl 31 (u32V p.t) _ (HT.out _ _) Try.underlying24 rfl info24 ?_)
          refine Calls.ext (D4.out _) fun z3 => ?_
          go_wp2_with fail
          go_ret
          exact ⟨ret_of (by rw [HO.out]; rfl), ((HE.out.ext _).ext _).ext _⟩
        · rw [b4] at C4 HO
          have D1 := Lib.hid C1
          have D2 := Lib.hid C2
          have D4 := Lib.hid C4
          clear C1 C2 C4
          go_enter Try.func52, Try.ntmps52
          go_wp2_with (refine wpList_load_sub rfl 22 (.tmp 3) rfl w.heap.size 0 rfl 15 (u8V p.m) _ HM.out Try.underlying22 rfl info22 ?_)
          refine Calls.ext (D1.out _) fun z1 => ?_
          go_wp2_with (refine wpList_load_sub_g 22 (.tmp 7) rfl rfl w.heap.size 15 rfl 15 (u8V p.s) _ (HS.out _) Try.underlying22 rfl info22 ?_)
          refine Calls.ext (D2.out _) fun z2 => ?_
          go_wp2_with (refine wpList_load_sub_g 24 (.tmp 17) rfl rfl w.heap.size 31 rfl 31 (u32V p.t) _ (HT.out _ _) Try.underlying24 rfl info24 ?_)
          refine Calls.ext (D4.out _) fun z3 => ?_
          go_wp2_with fail
          go_ret
          exact ⟨ret_of (by rw [HO.out]; rfl), ((HE.out.ext _).ext _).ext _⟩
      · have b3' : decide (p.sh < 31) = false := by simpa using h3
        rw [b3'] at HO
        have D1 := Lib.hid C1
        have D2 := Lib.hid C2
        have D4 := Lib.hid C4
        clear C1 C2 C4
        go_enter Try.func52, Try.ntmps52
        go_wp2_with (refine wpList_load_sub rfl 22 (.tmp 3) rfl w.heap.size 0 rfl 15 (u8V p.m) _ HM.out Try.underlying22 rfl info22 ?_)
        refine Calls.ext (D1.out _) fun z1 => ?_
        go_wp2_with (refine wpList_load_sub_g 22 (.tmp 7) rfl rfl w.heap.size 15 rfl 15 (u8V p.s) _ (HS.out _) Try.underlying22 rfl info22 ?_)
        refine Calls.ext (D2.out _) fun z2 => ?_
        go_wp2_with fail
        go_ret
        exact ⟨ret_of (by rw [HO.out]; rfl), (HE.out.ext _).ext _⟩
end Go.Proofs.Ytfdcapblgdlkaaa
