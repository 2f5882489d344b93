/- Compare, and parts that are less. -/
import Derived.Test.YtcacbolbedhcoaaTurns
namespace Go.Proofs.Ytcacbolbedhcoaa
open Go.RowKit

def cmpV (a b : Ir) (t : Int) : Value := if okI a && okI b then if inB t (-7) 7 then .tuple #[.int .i64 (ctr (turnI' a t) b), .int .i64 (cdn (turnI' a t) b), .int .i64 0] else .tuple #[.int .i64 0, .int .i64 0, .int .i64 2] else .tuple #[.int .i64 0, .int .i64 0, .int .i64 30]
theorem valid2 (a b : Ir) (A : Option Addr) (c : Nat) (w : World) (hl : Irs w A [a, b]) : Calls Try.prog 47 #[.slice A 2 c] w fun e w' => e = .returned (.bool (okI a && okI b)) ∧ Ext w w' := by
  have h := valid_any A c [a, b] w hl (by simp)
  have hv : allI [a, b] = (okI a && okI b) := by simp [allI]
  rw [hv] at h
  exact h
set_option maxHeartbeats 1000000 in
theorem Compare_any (a b : Ir) (t : Int) (w : World) : Calls Try.prog 27 #[a.val, b.val, .int .i64 t] w fun e w' => e = .returned (cmpV a b t) ∧ Ext w w' := by
  have C := Lib.hid (valid2 a b)
  cases ho : (okI a && okI b)
  · have Hv := Lib.hid (show cmpV a b t = .tuple #[.int .i64 0, .int .i64 0, .int .i64 30] by simp [cmpV, ho])
    rw [ho] at C
    clear ho
    go_enter Try.func27, Try.ntmps27
    go_wp2_with (go_at_call 47; refine Calls.ext (C.out _ 2 _ (by exact Irs.two (Blk.new' _ 27 _ _ (by simp)))) fun z => ?_)
    go_ret3
    refine ⟨ret_of Hv.out.symm, ?_⟩
    repeat' (first | with_reducible exact Ext.refl _ | with_reducible refine Ext.alloc ?_ _ | with_reducible refine Ext.ext ?_ _ | with_reducible refine Ext.setCell ?_ (by simp) _)
  · rw [ho] at C
    cases hb : inB t (-7) 7
    · have Hv := Lib.hid (show cmpV a b t = .tuple #[.int .i64 0, .int .i64 0, .int .i64 2] by simp [cmpV, ho, hb])
      have C2 := Lib.hid (fun w => hb ▸ within_any t (-7) 7 w)
      clear hb ho
      go_enter Try.func27, Try.ntmps27
      go_wp2_with (first | (go_at_call 47; refine Calls.ext (C.out _ 2 _ (by exact Irs.two (Blk.new' _ 27 _ _ (by simp)))) fun z => ?_) | (go_at_call 45; refine Calls.same (C2.out _) ?_))
      go_ret3
      refine ⟨ret_of Hv.out.symm, ?_⟩
      repeat' (first | with_reducible exact Ext.refl _ | with_reducible refine Ext.alloc ?_ _ | with_reducible refine Ext.ext ?_ _ | with_reducible refine Ext.setCell ?_ (by simp) _)
    · have Hv := Lib.hid (show cmpV a b t = .tuple #[.int .i64 (ctr (turnI' a t) b), .int .i64 (cdn (turnI' a t) b), .int .i64 0] by simp [cmpV, ho, hb])
      have C2 := Lib.hid (fun w => hb ▸ within_any t (-7) 7 w)
      have ht : -7 ≤ t ∧ t ≤ 7 := by simpa [inB] using hb
      clear hb ho
      go_enter Try.func27, Try.ntmps27
      go_wp2_with (first | (go_at_call 47; refine Calls.ext (C.out _ 2 _ (by exact Irs.two (Blk.new' _ 27 _ _ (by simp)))) fun z => ?_) | (go_at_call 45; refine Calls.same (C2.out _) ?_))
      refine wp_region_ext (by kernel_rfl) (by kernel_rfl) ?_
      repeat (go_big_quiet_step ((first | (go_at_call 48; exact Calls.quiet_ext (turn_any a t _ ht)) | (go_at_call 53; exact Calls.quiet_ext (compare_any (turnI' a t) b _)))))
      refine wpQuiet_nil ?_
      rintro _ ⟨z2, rfl⟩
      go_wp2_with fail
      go_ret3
      refine ⟨ret_of Hv.out.symm, ?_⟩
      repeat' (first | with_reducible exact Ext.refl _ | with_reducible refine Ext.alloc ?_ _ | with_reducible refine Ext.ext ?_ _ | with_reducible refine Ext.setCell ?_ (by simp) _)

/-- A part. -/
structure Pt where
  num : Int
  den : Int
  turn : Int
abbrev Pt.val (p : Pt) : Value := .agg #[.int .i64 p.num, .int .i64 p.den, .int .i64 p.turn]
def Pt.fit (p : Pt) : Prop := 0 ≤ p.num ∧ p.num ≤ 1000 ∧ 0 ≤ p.den ∧ p.den ≤ 1000
def lessP (p q : Pt) : Bool := decide (0 < p.den) && (q.den == 0 || decide (p.num * q.den < q.num * p.den))
theorem mul_le (a b : Int) (h0 : 0 ≤ a) (h1 : a ≤ 1000) (h2 : 0 ≤ b) (h3 : b ≤ 1000) : 0 ≤ a * b ∧ a * b ≤ 1000000 := by
  refine ⟨Int.mul_nonneg h0 h2, ?_⟩
  have := Int.mul_le_mul h1 h3 h2 (by omega)
  omega
set_option maxHeartbeats 1000000 in
theorem less_any (p q : Pt) (w : World) (hp : p.fit) (hq : q.fit) : Calls Try.prog 61 #[p.val, q.val] w fun e w' => e = .returned (.bool (lessP p q)) ∧ Ext w w' := by
  obtain ⟨p0, p1, p2, p3⟩ := hp
  obtain ⟨q0, q1, q2, q3⟩ := hq
  have m1 := mul_le p.num q.den p0 p1 q2 q3
  have m2 := mul_le q.num p.den q0 q1 p2 p3
  cases h1 : decide (0 < p.den)
  · have Hv := Lib.hid (show lessP p q = false by simp [lessP, h1])
    go_enter Try.func61, Try.ntmps61
    go_wp2_with fail
    go_ret
    exact ⟨ret_of (by rw [Hv.out]; rfl), ((Ext.refl w).alloc _).alloc _⟩
  · cases h2 : (q.den == 0)
    · have Hv := Lib.hid (show lessP p q = decide (p.num * q.den < q.num * p.den) by simp [lessP, h1, h2])
      go_enter Try.func61, Try.ntmps61
      go_wp2_with fail
      go_ret
      exact ⟨ret_of (by rw [Hv.out]; rfl), ((Ext.refl w).alloc _).alloc _⟩
    · have Hv := Lib.hid (show lessP p q = true by simp [lessP, h1, h2])
      go_enter Try.func61, Try.ntmps61
      go_wp2_with fail
      go_ret
      exact ⟨ret_of (by rw [Hv.out]; rfl), ((Ext.refl w).alloc _).alloc _⟩
end Go.Proofs.Ytcacbolbedhcoaa
