/- Lists of codes that are equal. -/
import Derived.Test.YtcacbolbedhcoaaTurns
namespace Go.Proofs.Ytcacbolbedhcoaa
open Go.RowKit

set_option maxHeartbeats 1000000 in
theorem same_any (A B : Option Addr) (c d : Nat) (l : List Ir) (w : World) (ha : Irs w A l) (hb : Irs w B l) (hn : l.length ≤ 9000000000000) :
    Calls Try.prog 37 #[.slice A l.length c, .slice B l.length d] w fun e w' => e = .returned (.bool true) ∧ Ext w w' := by
  have hnn : ((l.length : Int) != (l.length : Int)) = false := by simp
  go_enter Try.func37, Try.ntmps37
  go_wp2_with fail
  go_loopw [5] (fun i wr => ∃ (k : Nat) (z : World), k ≤ l.length ∧ i = .int .i64 k ∧ wr = ext w z) (fun i _ => l.length - (intOf i).toNat)
  case atStart => exact ⟨0, w, Nat.zero_le _, rfl, (ext_of (Ext.refl w)).symm⟩
  case round =>
    obtain ⟨k, z, hk, rfl, rfl⟩ := hrel
    by_cases hlt : k < l.length
    · rcases ha with rfl | ⟨b, off, rfl, hb1, hc⟩
      · simp at hlt
      rcases hb with rfl | ⟨b2, off2, rfl, hb2, hc2⟩
      · simp at hlt
      have ho1 := Old.mk hb1
      have ho2 := Old.mk hb2
      obtain ⟨c0, c1⟩ := hc k l[k] (List.getElem?_eq_getElem hlt)
      obtain ⟨d0, d1⟩ := hc2 k l[k] (List.getElem?_eq_getElem hlt)
      clear hc hc2
      generalize l[k] = x at *
      go_wp2_with fail
      refine wp_region_ext (by kernel_rfl) (by kernel_rfl) ?_
      repeat (go_big_quiet_step (fail))
      refine wpQuiet_nil ?_
      rintro _ ⟨z2, rfl⟩
      go_wp2_with fail
      go_roundw
      case rel => exact ⟨k + 1, _, by omega, by go_num, (ext_of (((Ext.refl w).ext z).ext z2)).symm⟩
      case measure => simp [intOf]; omega
    · go_wp2_with fail
      go_ret
      exact ⟨rfl, (Ext.refl w).ext z⟩
end Go.Proofs.Ytcacbolbedhcoaa
