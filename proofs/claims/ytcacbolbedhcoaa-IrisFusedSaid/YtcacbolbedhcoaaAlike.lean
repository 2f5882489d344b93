/- Alike: how many words are alike. -/
import Derived.Test.YtcacbolbedhcoaaLeaf
import Derived.Test.YtcacbolbedhcoaaPascal
import Derived.Test.YtcacbolbedhcoaaBits
namespace Go.Proofs.Ytcacbolbedhcoaa
open Go.RowKit

def mulHi (x y : Int) : Int :=
  IntKind.u64.wrap (IntKind.u64.wrap (IntKind.u64.wrap (x / 4294967296 * (y / 4294967296)) + IntKind.u64.wrap (IntKind.u64.wrap (x / 4294967296 * bits .and .u64 y 4294967295) + IntKind.u64.wrap (bits .and .u64 x 4294967295 * bits .and .u64 y 4294967295) / 4294967296) / 4294967296) +
    IntKind.u64.wrap (bits .and .u64 (IntKind.u64.wrap (IntKind.u64.wrap (x / 4294967296 * bits .and .u64 y 4294967295) + IntKind.u64.wrap (bits .and .u64 x 4294967295 * bits .and .u64 y 4294967295) / 4294967296)) 4294967295 + IntKind.u64.wrap (bits .and .u64 x 4294967295 * (y / 4294967296))) / 4294967296)
theorem and32 (a : Int) (h0 : 0 ≤ a) (h1 : a < 18446744073709551616) : bits .and .u64 a 4294967295 = a % 4294967296 := and_mask 32 a h0 h1 (by omega)
theorem mulHi_eq (x y : Int) (h0 : 0 ≤ x) (h1 : x < 18446744073709551616) (h2 : 0 ≤ y) (h3 : y ≤ 63) : mulHi x y = x * y / 18446744073709551616 := by
  unfold mulHi
  have hy1 : y / 4294967296 = 0 := by omega
  have hy2 : y % 4294967296 = y := by omega
  obtain ⟨u, hu⟩ : ∃ u, x / 4294967296 = u := ⟨_, rfl⟩
  obtain ⟨v, hv⟩ : ∃ v, x % 4294967296 = v := ⟨_, rfl⟩
  have hx : x = u * 4294967296 + v := by omega
  have hu0 : 0 ≤ u ∧ u < 4294967296 := by omega
  have hv0 : 0 ≤ v ∧ v < 4294967296 := by omega
  have b1 : 0 ≤ u * y := Int.mul_nonneg hu0.1 h2
  have b2 : u * y ≤ 4294967295 * 63 := Int.mul_le_mul (by omega) h3 h2 (by omega)
  have b3 : 0 ≤ v * y := Int.mul_nonneg hv0.1 h2
  have b4 : v * y ≤ 4294967295 * 63 := Int.mul_le_mul (by omega) h3 h2 (by omega)
  have hxy : x * y = u * y * 4294967296 + v * y := by rw [hx, Int.add_mul, Int.mul_assoc, Int.mul_comm 4294967296, ← Int.mul_assoc]
  rw [hy1, and32 y h2 (by omega), and32 x h0 h1, hy2, hu, hv, hxy]
  generalize u * y = Q at *
  generalize v * y = R at *
  simp only [Int.mul_zero, IntKind.wrap_u64]
  rw [and32 _ (by omega) (by omega)]
  omega
theorem mul_any (x y : Int) (w : World) (h0 : 0 ≤ x) (h1 : x < 18446744073709551616) (h2 : 0 ≤ y) (h3 : y ≤ 63) : Calls Try.prog 50 #[.int .u64 x, .int .u64 y] w fun e w' => e = .returned (.tuple #[.int .u64 (x * y / 18446744073709551616), .int .u64 (IntKind.u64.wrap (x * y))]) ∧ w = w' := by
  rw [← mulHi_eq x y h0 h1 h2 h3]
  clear h0 h1 h2 h3
  go_enter Try.func50, Try.ntmps50
  go_wp2
  go_ret2
  exact ⟨rfl, rfl⟩

set_option maxRecDepth 100000 in
theorem div_0 (x y : Int) (w : World) (hx : 0 ≤ x) (hx1 : x < 18446744073709551616) (hy : 0 < y) : Calls Try.prog 51 #[.int .u64 0, .int .u64 x, .int .u64 y] w fun e w' => e = .returned (.tuple #[.int .u64 (x / y), .int .u64 (x % y)]) ∧ Ext w w' := by
  have h0 : (y == 0) = false := by simp; omega
  have h1 : decide (y ≤ 0) = false := by simp; omega
  have Hv := Lib.hid (show IntKind.u64.wrap (x.tdiv y) = x / y by
    have h2 : x / y ≤ x := Int.ediv_le_self _ hx
    have h3 : 0 ≤ x / y := Int.ediv_nonneg hx (by omega)
    rw [Int.tdiv_eq_ediv_of_nonneg hx, IntKind.wrap_u64]; omega)
  go_enter Try.func51, Try.ntmps51
  go_wp2
  refine wp_region_ext (by kernel_rfl) (by kernel_rfl) ?_
  repeat (go_big_quiet_step (fail))
  refine wpQuiet_nil ?_
  rintro _ ⟨z5, rfl⟩
  go_wp2
  go_ret2
  exact ⟨ret_of (by rw [← Hv.out]; rfl), (Ext.refl w).ext _⟩
theorem leading_any (x n : Int) (w : World) (C : ∀ w, Calls Try.prog 69 #[.int .u64 x] w fun e w' => e = .returned (.int .i64 n) ∧ w = w') (h : 0 ≤ n ∧ n ≤ 64) : Calls Try.prog 65 #[.int .u64 x] w fun e w' => e = .returned (.int .i64 (64 - n)) ∧ w = w' := by
  have HC := Lib.hid C
  clear C
  go_enter Try.func65, Try.ntmps65
  go_wp2_with (go_at_call 69; refine Calls.same (HC.out _) ?_)
  go_ret
  exact ⟨rfl, rfl⟩

set_option maxRecDepth 100000 in
set_option maxHeartbeats 1000000 in
theorem div_28 (w : World) : Calls Try.prog 51 #[.int .u64 1, .int .u64 3579046069437358679, .int .u64 29] w fun e w' => e = .returned (.tuple #[.int .u64 759510004936100355, .int .u64 0]) ∧ Ext w w' := by
  have C : ∀ w, Calls Try.prog 69 #[.int .u64 29] w fun e w' => e = .returned (.int .i64 5) ∧ w = w' := by
    intro w
    go_enter Try.func69, Try.ntmps69
    go_wp2
    go_ret
    exact ⟨ret_of (by kernel_rfl), rfl⟩
  have C2 := Lib.hid (fun w => leading_any 29 5 w C (by omega))
  clear C
  have f0 : bits .and .u64 16717361816799281152 4294967295 = 0 := by kernel_rfl
  have f1 : bits .or .u64 576460752303423488 111845189669917458 = 688305941973340946 := by kernel_rfl
  have f2 : IntKind.u64.wrap 2063179589716470643091440175889252352 = 13258597302978740224 := by kernel_rfl
  have f3 : bits .and .u64 13258597302978740224 4294967295 = 0 := by kernel_rfl
  have f4 : IntKind.u64.wrap 2956251510417973066927702016 = 9231415041721368576 := by kernel_rfl
  have f5 : IntKind.u64.wrap 2956251505221783291330297856 = 4035225266123964416 := by kernel_rfl
  have f6 : IntKind.u64.wrap 22317465163259027032673091584 = 13258597302978740224 := by kernel_rfl
  go_enter Try.func51, Try.ntmps51
  go_wp2_with (go_at_call 65; refine Calls.same (C2.out _) ?_)
  refine wp_loop_rounds 1 ?_
  rw [rounds_succ]
  go_wp2
  refine wp_loop_rounds 1 ?_
  rw [rounds_succ]
  go_wp2
  go_ret2
  exact ⟨rfl, Ext.refl w⟩

set_option maxRecDepth 100000 in
set_option maxHeartbeats 1000000 in
theorem div_29 (w : World) : Calls Try.prog 51 #[.int .u64 1, .int .u64 7376596094117860454, .int .u64 30] w fun e w' => e = .returned (.tuple #[.int .u64 860778005594247069, .int .u64 0]) ∧ Ext w w' := by
  have C : ∀ w, Calls Try.prog 69 #[.int .u64 30] w fun e w' => e = .returned (.int .i64 5) ∧ w = w' := by
    intro w
    go_enter Try.func69, Try.ntmps69
    go_wp2
    go_ret
    exact ⟨ret_of (by kernel_rfl), rfl⟩
  have C2 := Lib.hid (fun w => leading_any 30 5 w C (by omega))
  clear C
  have f0 : bits .and .u64 17293822569102704640 4294967295 = 0 := by kernel_rfl
  have f1 : bits .or .u64 576460752303423488 230518627941183139 = 806979380244606627 := by kernel_rfl
  have f2 : IntKind.u64.wrap 4252318133853677130388318910049943552 = 3458764513820540928 := by kernel_rfl
  have f3 : bits .and .u64 3458764513820540928 4294967295 = 0 := by kernel_rfl
  have f4 : IntKind.u64.wrap 3465950046696933943349870592 = 9550849081127993344 := by kernel_rfl
  have f5 : IntKind.u64.wrap 3465950045216535394469806080 = 8070450532247928832 := by kernel_rfl
  have f6 : IntKind.u64.wrap 6358263355944499019230740480 = 3458764513820540928 := by kernel_rfl
  go_enter Try.func51, Try.ntmps51
  go_wp2_with (go_at_call 65; refine Calls.same (C2.out _) ?_)
  refine wp_loop_rounds 1 ?_
  rw [rounds_succ]
  go_wp2
  refine wp_loop_rounds 1 ?_
  rw [rounds_succ]
  go_wp2
  go_ret2
  exact ⟨rfl, Ext.refl w⟩

set_option maxRecDepth 100000 in
set_option maxHeartbeats 1000000 in
theorem div_30 (w : World) : Calls Try.prog 51 #[.int .u64 1, .int .u64 9958930110900601661, .int .u64 31] w fun e w' => e = .returned (.tuple #[.int .u64 916312070471295267, .int .u64 0]) ∧ Ext w w' := by
  have C : ∀ w, Calls Try.prog 69 #[.int .u64 31] w fun e w' => e = .returned (.int .i64 5) ∧ w = w' := by
    intro w
    go_enter Try.func69, Try.ntmps69
    go_wp2
    go_ret
    exact ⟨ret_of (by kernel_rfl), rfl⟩
  have C2 := Lib.hid (fun w => leading_any 31 5 w C (by omega))
  clear C
  have f0 : bits .and .u64 17870283321406128128 4294967295 = 0 := by kernel_rfl
  have f1 : bits .or .u64 576460752303423488 311216565965643801 = 887677318269067289 := by kernel_rfl
  have f2 : IntKind.u64.wrap 5740932343866977541750196449279213568 = 16717361816799281152 := by kernel_rfl
  have f3 : bits .and .u64 16717361816799281152 4294967295 = 0 := by kernel_rfl
  have f4 : IntKind.u64.wrap 3812545051366627334678380544 = 6816585171492405248 := by kernel_rfl
  have f5 : IntKind.u64.wrap 3812545048585267429309939712 = 4035225266123964416 := by kernel_rfl
  have f6 : IntKind.u64.wrap 11945849848680470020750311424 = 16717361816799281152 := by kernel_rfl
  go_enter Try.func51, Try.ntmps51
  go_wp2_with (go_at_call 65; refine Calls.same (C2.out _) ?_)
  refine wp_loop_rounds 1 ?_
  rw [rounds_succ]
  go_wp2
  refine wp_loop_rounds 1 ?_
  rw [rounds_succ]
  go_wp2
  go_ret2
  exact ⟨rfl, Ext.refl w⟩

set_option maxRecDepth 100000 in
set_option maxHeartbeats 1000000 in
theorem div_31 (w : World) : Calls Try.prog 51 #[.int .u64 1, .int .u64 10875242181371896928, .int .u64 32] w fun e w' => e = .returned (.tuple #[.int .u64 916312070471295267, .int .u64 0]) ∧ Ext w w' := by
  have C : ∀ w, Calls Try.prog 69 #[.int .u64 32] w fun e w' => e = .returned (.int .i64 6) ∧ w = w' := by
    intro w
    go_enter Try.func69, Try.ntmps69
    go_wp2
    go_ret
    exact ⟨ret_of (by kernel_rfl), rfl⟩
  have C2 := Lib.hid (fun w => leading_any 32 6 w C (by omega))
  clear C
  have f0 : bits .and .u64 9223372036854775808 4294967295 = 0 := by kernel_rfl
  have f1 : bits .or .u64 288230376151711744 169925659083935889 = 458156035235647633 := by kernel_rfl
  have f2 : IntKind.u64.wrap 3134575144677784005148979723535122432 = 9223372036854775808 := by kernel_rfl
  have f3 : IntKind.u64.wrap 1967765187802130237114810368 = 10658912633035423744 := by kernel_rfl
  have f4 : IntKind.u64.wrap 1967765186366589640934162432 = 9223372036854775808 := by kernel_rfl
  have f5 : IntKind.u64.wrap 6165599921899597430064676864 = 9223372036854775808 := by kernel_rfl
  go_enter Try.func51, Try.ntmps51
  go_wp2_with (go_at_call 65; refine Calls.same (C2.out _) ?_)
  refine wp_loop_rounds 1 ?_
  rw [rounds_succ]
  go_wp2
  refine wp_loop_rounds 1 ?_
  rw [rounds_succ]
  go_wp2
  go_ret2
  exact ⟨rfl, Ext.refl w⟩

set_option maxRecDepth 100000 in
set_option maxHeartbeats 1000000 in
theorem div_32 (w : World) : Calls Try.prog 51 #[.int .u64 1, .int .u64 9958930110900601661, .int .u64 33] w fun e w' => e = .returned (.tuple #[.int .u64 860778005594247069, .int .u64 0]) ∧ Ext w w' := by
  have C : ∀ w, Calls Try.prog 69 #[.int .u64 33] w fun e w' => e = .returned (.int .i64 6) ∧ w = w' := by
    intro w
    go_enter Try.func69, Try.ntmps69
    go_wp2
    go_ret
    exact ⟨ret_of (by kernel_rfl), rfl⟩
  have C2 := Lib.hid (fun w => leading_any 33 6 w C (by omega))
  clear C
  have f0 : bits .and .u64 9511602413006487552 4294967295 = 0 := by kernel_rfl
  have f1 : bits .or .u64 288230376151711744 155608282982821900 = 443838659134533644 := by kernel_rfl
  have f2 : IntKind.u64.wrap 2870466171933488770875098224639606784 = 17582052945254416384 := by kernel_rfl
  have f3 : bits .and .u64 17582052945254416384 4294967295 = 0 := by kernel_rfl
  have f4 : IntKind.u64.wrap 1906272525683313665191706624 = 12631664620453494784 := by kernel_rfl
  have f5 : IntKind.u64.wrap 1906272524869094466958393344 = 11817445422220181504 := by kernel_rfl
  have f6 : IntKind.u64.wrap 3497044845769474460576907264 = 17582052945254416384 := by kernel_rfl
  go_enter Try.func51, Try.ntmps51
  go_wp2_with (go_at_call 65; refine Calls.same (C2.out _) ?_)
  refine wp_loop_rounds 1 ?_
  rw [rounds_succ]
  go_wp2
  refine wp_loop_rounds 1 ?_
  rw [rounds_succ]
  go_wp2
  go_ret2
  exact ⟨rfl, Ext.refl w⟩

set_option maxRecDepth 100000 in
set_option maxHeartbeats 1000000 in
theorem div_33 (w : World) : Calls Try.prog 51 #[.int .u64 1, .int .u64 7376596094117860454, .int .u64 34] w fun e w' => e = .returned (.tuple #[.int .u64 759510004936100355, .int .u64 0]) ∧ Ext w w' := by
  have C : ∀ w, Calls Try.prog 69 #[.int .u64 34] w fun e w' => e = .returned (.int .i64 6) ∧ w = w' := by
    intro w
    go_enter Try.func69, Try.ntmps69
    go_wp2
    go_ret
    exact ⟨ret_of (by kernel_rfl), rfl⟩
  have C2 := Lib.hid (fun w => leading_any 34 6 w C (by omega))
  clear C
  have f0 : bits .and .u64 9799832789158199296 4294967295 = 0 := by kernel_rfl
  have f1 : bits .or .u64 288230376151711744 115259313970591569 = 403489690122303313 := by kernel_rfl
  have f2 : IntKind.u64.wrap 2126159066926838565194159455024971776 = 10952754293765046272 := by kernel_rfl
  have f3 : bits .and .u64 10952754293765046272 4294967295 = 0 := by kernel_rfl
  have f4 : IntKind.u64.wrap 1732975023348466969527451648 = 4775424538416513024 := by kernel_rfl
  have f5 : IntKind.u64.wrap 1732975020302424688021209088 = 1729382256910270464 := by kernel_rfl
  have f6 : IntKind.u64.wrap 13082651992255291708808364032 = 10952754293765046272 := by kernel_rfl
  go_enter Try.func51, Try.ntmps51
  go_wp2_with (go_at_call 65; refine Calls.same (C2.out _) ?_)
  refine wp_loop_rounds 1 ?_
  rw [rounds_succ]
  go_wp2
  refine wp_loop_rounds 1 ?_
  rw [rounds_succ]
  go_wp2
  go_ret2
  exact ⟨rfl, Ext.refl w⟩

set_option maxRecDepth 100000 in
set_option maxHeartbeats 1000000 in
theorem div_34 (w : World) : Calls Try.prog 51 #[.int .u64 1, .int .u64 3579046069437358679, .int .u64 35] w fun e w' => e = .returned (.tuple #[.int .u64 629308289804197437, .int .u64 0]) ∧ Ext w w' := by
  have C : ∀ w, Calls Try.prog 69 #[.int .u64 35] w fun e w' => e = .returned (.int .i64 6) ∧ w = w' := by
    intro w
    go_enter Try.func69, Try.ntmps69
    go_wp2
    go_ret
    exact ⟨ret_of (by kernel_rfl), rfl⟩
  have C2 := Lib.hid (fun w => leading_any 35 6 w C (by omega))
  clear C
  have f0 : bits .and .u64 10088063165309911040 4294967295 = 0 := by kernel_rfl
  have f1 : bits .or .u64 288230376151711744 55922594834958729 = 344152970986670473 := by kernel_rfl
  have f2 : IntKind.u64.wrap 1031589794858235321545720087944626176 = 6629298651489370112 := by kernel_rfl
  have f3 : bits .and .u64 6629298651489370112 4294967295 = 0 := by kernel_rfl
  have f4 : IntKind.u64.wrap 1478125755208986533463851008 = 13839079557715460096 := by kernel_rfl
  have f5 : IntKind.u64.wrap 1478125753475582774120284160 = 12105675798371893248 := by kernel_rfl
  have f6 : IntKind.u64.wrap 7444912463773372691639173120 = 6629298651489370112 := by kernel_rfl
  go_enter Try.func51, Try.ntmps51
  go_wp2_with (go_at_call 65; refine Calls.same (C2.out _) ?_)
  refine wp_loop_rounds 1 ?_
  rw [rounds_succ]
  go_wp2
  refine wp_loop_rounds 1 ?_
  rw [rounds_succ]
  go_wp2
  go_ret2
  exact ⟨rfl, Ext.refl w⟩


theorem next_any (d i : Nat) (hd : d ≤ 63) (hi : i < d) : ∃ r : Int, ∀ w, Calls Try.prog 51 #[.int .u64 ((chN d i : Int) * ((d : Int) - (i : Int)) / 18446744073709551616), .int .u64 (IntKind.u64.wrap ((chN d i : Int) * ((d : Int) - (i : Int)))), .int .u64 ((i : Int) + 1)] w fun e w' => e = .returned (.tuple #[.int .u64 (chN d (i + 1)), .int .u64 r]) ∧ Ext w w' := by
  obtain ⟨h1, h2⟩ := ch_next d i hd hi
  have hc : ((chN d i * (d - i) : Nat) : Int) = (chN d i : Int) * ((d : Int) - (i : Int)) := by rw [Int.natCast_mul, Int.natCast_sub (by omega)]
  rcases h2 with h2 | ⟨rfl, h3, h4⟩
  · rw [← hc]
    have e1 : ((chN d i * (d - i) : Nat) : Int) / 18446744073709551616 = 0 := by omega
    have e2 : IntKind.u64.wrap ((chN d i * (d - i) : Nat) : Int) = ((chN d i * (d - i) : Nat) : Int) := by rw [IntKind.wrap_u64]; omega
    have e3 : ((chN d i * (d - i) : Nat) : Int) / ((i : Int) + 1) = (chN d (i + 1) : Int) := by
      have : ((i : Int) + 1) = ((i + 1 : Nat) : Int) := by simp
      rw [h1, this, ← Int.natCast_ediv, Nat.mul_div_cancel _ (by omega)]
    rw [e1, e2]
    refine ⟨((chN d i * (d - i) : Nat) : Int) % ((i : Int) + 1), fun w => ?_⟩
    have := div_0 ((chN d i * (d - i) : Nat) : Int) ((i : Int) + 1) w (by omega) (by omega) (by omega)
    rw [e3] at this
    exact this
  · obtain rfl | rfl | rfl | rfl | rfl | rfl | rfl : i = 28 ∨ i = 29 ∨ i = 30 ∨ i = 31 ∨ i = 32 ∨ i = 33 ∨ i = 34 := by omega

    · refine ⟨0, fun w => ?_⟩
      have e0 : chN 63 28 = 629308289804197437 := by decide +kernel
      have e1 : chN 63 (28 + 1) = 759510004936100355 := by decide +kernel
      rw [e0, e1]
      exact div_28 w
    · refine ⟨0, fun w => ?_⟩
      have e0 : chN 63 29 = 759510004936100355 := by decide +kernel
      have e1 : chN 63 (29 + 1) = 860778005594247069 := by decide +kernel
      rw [e0, e1]
      exact div_29 w
    · refine ⟨0, fun w => ?_⟩
      have e0 : chN 63 30 = 860778005594247069 := by decide +kernel
      have e1 : chN 63 (30 + 1) = 916312070471295267 := by decide +kernel
      rw [e0, e1]
      exact div_30 w
    · refine ⟨0, fun w => ?_⟩
      have e0 : chN 63 31 = 916312070471295267 := by decide +kernel
      have e1 : chN 63 (31 + 1) = 916312070471295267 := by decide +kernel
      rw [e0, e1]
      exact div_31 w
    · refine ⟨0, fun w => ?_⟩
      have e0 : chN 63 32 = 916312070471295267 := by decide +kernel
      have e1 : chN 63 (32 + 1) = 860778005594247069 := by decide +kernel
      rw [e0, e1]
      exact div_32 w
    · refine ⟨0, fun w => ?_⟩
      have e0 : chN 63 33 = 860778005594247069 := by decide +kernel
      have e1 : chN 63 (33 + 1) = 759510004936100355 := by decide +kernel
      rw [e0, e1]
      exact div_33 w
    · refine ⟨0, fun w => ?_⟩
      have e0 : chN 63 34 = 759510004936100355 := by decide +kernel
      have e1 : chN 63 (34 + 1) = 629308289804197437 := by decide +kernel
      rw [e0, e1]
      exact div_34 w

theorem sum_take (d i : Nat) (hd : d ≤ 63) (hi : i ≤ d) : ((rowN d).take i).sum + chN d i = sumN d i := by
  have hl := row_len d hd
  unfold sumN chN
  rw [List.take_succ_eq_append_getElem (by omega), List.sum_append]
  simp [List.getElem?_eq_getElem (show i < (rowN d).length by omega)]
def alikeV (den k : Int) : Value := if inB den 0 63 && inB k 0 den then .tuple #[.int .u64 (sumN den.toNat k.toNat), .int .i64 0] else .tuple #[.int .u64 0, .int .i64 2]
theorem and_cases' (x y : Bool) (h : (x && y) = false) : x = false ∨ x = true ∧ y = false := by cases x <;> cases y <;> simp_all
set_option maxRecDepth 100000 in
set_option maxHeartbeats 1000000 in
theorem Alike_any (den k : Int) (w : World) : Calls Try.prog 25 #[.int .i64 den, .int .i64 k] w fun e w' => e = .returned (alikeV den k) ∧ Ext w w' := by
  cases hb : inB den 0 63 && inB k 0 den
  · have Hv := Lib.hid (show alikeV den k = .tuple #[.int .u64 0, .int .i64 2] by simp [alikeV, hb])
    rcases and_cases' _ _ hb with h1 | ⟨h1, h2⟩
    all_goals
      clear hb
      go_enter Try.func25, Try.ntmps25
      go_wp2_with (go_at_call 45; refine Calls.same (within_any _ _ _ _) ?_)
      go_ret2
      exact ⟨ret_of Hv.out.symm, Ext.refl w⟩
  · rw [Bool.and_eq_true] at hb
    have h1 : 0 ≤ den ∧ den ≤ 63 := by simpa [inB] using hb.1
    have h2 : 0 ≤ k ∧ k ≤ den := by simpa [inB] using hb.2
    have Hv0 := Lib.hid (show alikeV den k = .tuple #[.int .u64 (sumN den.toNat k.toNat), .int .i64 0] by simp [alikeV, hb])
    obtain ⟨d, rfl⟩ := Int.eq_ofNat_of_zero_le h1.1
    obtain ⟨n, rfl⟩ := Int.eq_ofNat_of_zero_le h2.1
    have Hv : Hid (alikeV d n = .tuple #[.int .u64 (sumN d n), .int .i64 0]) := Lib.hid (by simpa using Hv0.out)
    have hd : d ≤ 63 := by omega
    have hn : n ≤ d := by omega
    have hb1 := hb.1
    have hb2 := hb.2
    clear Hv0 h1 h2 hb
    go_enter Try.func25, Try.ntmps25
    go_wp2_with (go_at_call 45; refine Calls.same (within_any _ _ _ _) ?_)
    go_loopw [6, 7, 8] (fun s c i wr => ∃ (j : Nat) (z : World), j ≤ n ∧ i = .int .i64 j ∧ c = .int .u64 (chN d j) ∧ s = .int .u64 (((rowN d).take j).sum : Nat) ∧ wr = ext w z) (fun _ _ i _ => n - (intOf i).toNat)
    case atStart => exact ⟨0, w, Nat.zero_le _, rfl, by rw [ch_zero d hd]; rfl, rfl, (ext_of (Ext.refl w)).symm⟩
    case round =>
      obtain ⟨j, z, hj, rfl, rfl, rfl, rfl⟩ := hrel
      have hs := sum_take d j hd (by omega)
      have hsl := sum_lt d j hd
      have hsum : (((((rowN d).take j).sum : Nat) : Int) + (chN d j : Int)) = ((sumN d j : Nat) : Int) := by rw [← hs]; simp
      have hwr : IntKind.u64.wrap (((((rowN d).take j).sum : Nat) : Int) + (chN d j : Int)) = ((sumN d j : Nat) : Int) := by rw [hsum, IntKind.wrap_u64]; omega
      have hcl := ch_lt d j hd
      have hc0 : (0 : Int) ≤ (chN d j : Int) := by omega
      clear hs hsum
      by_cases hlt : j = n
      · subst hlt
        have HW := Lib.hid hwr
        clear hwr
        go_wp2_with fail
        go_ret2
        exact ⟨ret_of (by rw [Hv.out, ← HW.out]; rfl), (Ext.refl w).ext z⟩
      · have hjn : j < n := by omega
        have hne : ((j : Int) == (n : Int)) = false := by simp; omega
        obtain ⟨r, C2⟩ := next_any d j hd (by omega)
        have C1 := fun w : World => mul_any (chN d j : Int) ((d : Int) - (j : Int)) w hc0 (by omega) (by omega) (by omega)
        have hS : (sumN d j) = ((rowN d).take (j + 1)).sum := rfl
        obtain ⟨H, hH⟩ : ∃ H, (chN d j : Int) * ((d : Int) - (j : Int)) / 18446744073709551616 = H := ⟨_, rfl⟩
        obtain ⟨K, hK⟩ : ∃ K, IntKind.u64.wrap ((chN d j : Int) * ((d : Int) - (j : Int))) = K := ⟨_, rfl⟩
        rw [hH, hK] at C2
        have HC1 : Hid (∀ w, Calls Try.prog 50 #[.int .u64 (chN d j), .int .u64 ((d : Int) - (j : Int))] w fun e w' => e = .returned (.tuple #[.int .u64 H, .int .u64 K]) ∧ w = w') := Lib.hid (by rw [← hH, ← hK]; exact C1)
        have HC2 := Lib.hid C2
        have HW := Lib.hid hwr
        have HS := Lib.hid hS
        have hdj : (0 : Int) ≤ (d : Int) - (j : Int) := by omega
        clear C1 C2 hH hK hwr hS hlt hcl hsl
        generalize chN d j = c at *
        go_wp2_with (first | (go_at_call 50; refine Calls.same (HC1.out _) ?_) | (go_at_call 51; refine Calls.ext (HC2.out _) fun z2 => ?_))
        go_roundw
        case rel => exact ⟨j + 1, _, by omega, by go_num, rfl, by rw [← HS.out, ← HW.out], (ext_of (((Ext.refl w).ext z).ext z2)).symm⟩
        case measure => simp [intOf]; omega

end Go.Proofs.Ytcacbolbedhcoaa
