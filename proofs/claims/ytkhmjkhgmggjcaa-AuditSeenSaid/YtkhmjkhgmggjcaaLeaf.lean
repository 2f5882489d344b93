/- The small functions of the audit layer and of its reference: what each returns. -/
import Derived.Test.YtkhmjkhgmggjcaaRows
import Derived.Test.YtkhmjkhgmggjcaaCommon
namespace Go.Proofs.Ytkhmjkhgmggjcaa
open Go.RowKit

def fromB (lo hi n : Int) : Bool := decide (lo ≤ n) && decide (n ≤ hi)

theorem from_any (lo hi n : Int) (w : World) :
    Calls Try.prog 51 #[.int .i64 lo, .int .i64 hi, .int .i64 n] w fun e w' => e = .returned (.bool (fromB lo hi n)) ∧ w = w' := by
  go_enter Try.func51, Try.ntmps51
  go_wp2
  all_goals (go_ret; refine ⟨ret_of ?_, rfl⟩; simp_all [fromB])
  omega
theorem within_any (lo hi n : Int) (w : World) :
    Calls Try.prog 52 #[.int .i64 n, .int .i64 lo, .int .i64 hi] w fun e w' => e = .returned (.bool (fromB lo hi n)) ∧ w = w' := by
  go_enter Try.func52, Try.ntmps52
  go_wp2
  all_goals (go_ret; refine ⟨ret_of ?_, rfl⟩; simp_all [fromB])
  omega

/-- An entry of a log. -/
structure E where
  time : Int
  kind : Int
  person : Int
  detail : Int
  salt : Int
  seal_ : Int
  link : Int

def E.zero : E := ⟨0, 0, 0, 0, 0, 0, 0⟩
abbrev E.val (x : E) : Value := .agg #[.int .i64 x.time, .int .i64 x.kind, .int .i64 x.person, .int .u64 x.detail, .int .u64 x.salt, .int .u64 x.seal_, .int .u64 x.link]

def fitsB (x : E) : Bool :=
  fromB 0 1099511627776 x.time && fromB 0 7 x.kind && fromB (-1) 63 x.person &&
  (if x.person < 0 then bits .or .u64 x.detail x.salt == 0 else bits .xor .u64 (bits .xor .u64 x.seal_ x.detail) x.salt == 0)

set_option maxHeartbeats 400000 in
theorem fits_any (x : E) (w : World) : Calls Try.prog 56 #[x.val] w fun e w' => e = .returned (.bool (fitsB x)) ∧ Ext w w' := by
  go_enter Try.func56, Try.ntmps56
  go_wp2_with (go_at_call 51; refine Calls.same (from_any _ _ _ _) ?_)
  all_goals (go_ret; refine ⟨ret_of ?_, (Ext.refl _).alloc _⟩; simp_all [fitsB])
  all_goals omega

def fieldsB (x : E) : Bool :=
  fromB 0 1099511627776 x.time && fromB 0 7 x.kind && fromB (-1) 63 x.person &&
  (if x.person = -1 then x.detail == 0 && x.salt == 0 else x.seal_ == bits .xor .u64 x.detail x.salt)

set_option maxHeartbeats 400000 in
theorem fields_any (x : E) (w : World) : Calls Try.prog 62 #[x.val] w fun e w' => e = .returned (.bool (fieldsB x)) ∧ Ext w w' := by
  go_enter Try.func62, Try.ntmps62
  go_wp2_with (go_at_call 52; refine Calls.same (within_any _ _ _ _) ?_)
  all_goals (go_ret; refine ⟨ret_of ?_, (Ext.refl _).alloc _⟩; simp_all [fieldsB])

def mixI (a b : Int) : Int :=
  let x1 := IntKind.u64.wrap (bits .xor .u64 a b * 11400714819323198485)
  let x3 := IntKind.u64.wrap (bits .xor .u64 x1 (x1 / 536870912) * 13787848793156543929)
  bits .xor .u64 x3 (x3 / 4294967296)
theorem mix_any (a b : Int) (w : World) : Calls Try.prog 61 #[.int .u64 a, .int .u64 b] w fun e w' => e = .returned (.int .u64 (mixI a b)) ∧ w = w' := by
  go_enter Try.func61, Try.ntmps61
  go_wp2
  go_ret
  exact ⟨rfl, rfl⟩
theorem refMix_any (a b : Int) (w : World) : Calls Try.prog 64 #[.int .u64 a, .int .u64 b] w fun e w' => e = .returned (.int .u64 (mixI a b)) ∧ w = w' := by
  go_enter Try.func64, Try.ntmps64
  go_wp2
  go_ret
  exact ⟨rfl, rfl⟩

set_option maxHeartbeats 400000 in
theorem mixed_any (a x y z : Int) (b : Nat) (w : World) (h0 : w.cell? ⟨b, 0, none⟩ = some (.int .u64 x)) (h1 : w.cell? ⟨b, 1, none⟩ = some (.int .u64 y)) (h2 : w.cell? ⟨b, 2, none⟩ = some (.int .u64 z)) :
    Calls Try.prog 63 #[.int .u64 a, .slice (some ⟨b, 0, none⟩) 3 3] w fun e w' => e = .returned (.int .u64 (mixI (mixI (mixI a x) y) z)) ∧ w = w' := by
  go_enter Try.func63, Try.ntmps63
  go_wp2_with fail
  refine wp_loop_rounds 4 ?_
  iterate 4 (rw [rounds_succ]; go_wp2_with (go_at_call 61; refine Calls.same (mix_any _ _ _) ?_))
  go_ret
  exact ⟨rfl, rfl⟩

def linkI (a : Int) (x : E) : Int := mixI (mixI (mixI a (IntKind.u64.wrap x.time)) (IntKind.u64.wrap x.kind)) x.seal_

set_option maxHeartbeats 400000 in
theorem linked_any (a : Int) (x : E) (w : World) : Calls Try.prog 53 #[.int .u64 a, x.val] w fun e w' => e = .returned (.int .u64 (linkI a x)) ∧ Ext w w' := by
  go_enter Try.func53, Try.ntmps53
  go_wp2_with fail
  refine Calls.same (mixed_any _ (IntKind.u64.wrap x.time) (IntKind.u64.wrap x.kind) x.seal_ _ _ (by go_simp) (by go_simp) (by go_simp)) ?_
  go_wp2_with fail
  go_ret
  exact ⟨rfl, ((Ext.refl _).alloc _).alloc _⟩

set_option maxHeartbeats 400000 in
theorem refLinked_any (a : Int) (x : E) (w : World) : Calls Try.prog 55 #[.int .u64 a, x.val] w fun e w' => e = .returned (.int .u64 (linkI a x)) ∧ Ext w w' := by
  go_enter Try.func55, Try.ntmps55
  go_wp2_with (go_at_call 64; refine Calls.same (refMix_any _ _ _) ?_)
  go_ret
  exact ⟨rfl, (Ext.refl _).alloc _⟩
end Go.Proofs.Ytkhmjkhgmggjcaa
