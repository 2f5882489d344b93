/- The turns in their order: the iterator. -/
import Derived.RangeFuncNested
import Derived.RangeFuncBound
import Derived.RangeFuncCalls
import Derived.RangeFuncLeaves
import Derived.Shelf.Abstract
import Derived.Shelf.RegionOpen
import Derived.OwnWalkIn
import Derived.TacticsInMore
import Derived.LoopNIn
import Derived.LoopIn
import Derived.Test.YtcacbolbedhcoaaFar
namespace Go.Proofs.Ytcacbolbedhcoaa
open Go.RowKit Go.Shelf
attribute [local go_sem] Oper.semAt_some

/-- a turn -/
abbrev T7 := { t : Int // -7 ≤ t ∧ t ≤ 7 }
def t7 (t : Int) : T7 := if h : -7 ≤ t ∧ t ≤ 7 then ⟨t, h⟩ else ⟨0, by omega⟩
theorem t7_val (t : Int) (h : -7 ≤ t ∧ t ≤ 7) : (t7 t).1 = t := by simp [t7, h]
/-- the first k steps of the order: 0; 1, -1; 2, -2; .. -/
def ordL : Nat → List T7
  | 0 => []
  | 1 => [t7 0]
  | k + 2 => ordL (k + 1) ++ [t7 (k + 1), t7 (-(k + 1))]
theorem ordL_len : ∀ k, (ordL (k + 1)).length = 2 * k + 1
  | 0 => rfl
  | k + 1 => by rw [ordL, List.length_append, ordL_len k]; simp; omega

theorem absurd_undef {b : Bool} (h : some undef = some (Value.bool b)) : False := by simp [undef] at h

theorem orders_any (t : Int) (w : World) : Calls Try.prog 66 #[.int .i64 t] w fun e w' => e = .returned (.func (.func 70) #[] #[.pointer (some ⟨w.heap.size, 0, none⟩)]) ∧ w' = w.alloc (.cells #[.int .i64 t] 3) := by
  go_enter Try.func66, Try.ntmps66
  go_wp2_with fail
  go_ret
  exact ⟨rfl, rfl⟩

set_option maxRecDepth 100000 in
set_option maxHeartbeats 2000000 in
theorem orders1_in (n : Nat) (hn : 1 ≤ n) (l Bn m : Nat) (hm : m ≤ 7) (J Jx : List T7 → World → Prop)
    (hY : ∀ pre x W, J pre W → pre.length < 2 * m + 1 → YieldAt Fence.wide (n - 1) Try.prog l #[.int .i64 x.1] W fun e W' =>
      (e = .returned (.bool true) ∧ J (pre ++ [x]) W' ∧ True) ∨ (e = .returned (.bool false) ∧ Jx (pre ++ [x]) W'))
    (W : World) (hBn : W.cell? ⟨Bn, 0, none⟩ = some (.int .i64 m)) (h0 : J [] W) :
    CallsIn Fence.wide n Try.prog 70 #[.func (.yield l) #[] #[], .pointer (some ⟨Bn, 0, none⟩)] W fun e W' => (∃ v, e = .returned v) ∧
      ((∃ ys, ys = ordL (m + 1) ∧ J ys W') ∨ (∃ pre, True ∧ Jx pre W')) := by
  refine callsIn_of_wp Try.func70 rfl trivial ?_ rfl
  simp only [Try.ntmps70, List.size_toArray, List.length_cons, List.length_nil, Nat.reduceAdd, Nat.reduceSub, Array.replicate_succ, Array.replicate_zero, List.push_toArray, List.append_toArray, List.nil_append, List.cons_append]
  gi_wp2
  gi_loopw [6] (fun i wr => ∃ (k : Nat), k ≤ m + 1 ∧ i = .int .i64 k ∧ J (ordL k) wr) (fun i _ => m + 1 - (intOf i).toNat)
  case atStart => exact ⟨0, Nat.zero_le _, rfl, h0⟩
  case round =>
    obtain ⟨k, hk, rfl, hJ⟩ := hrel
    by_cases hlt : k < m + 1
    · rcases k with _ | k
      · obtain ⟨fn, tmps, assign, body, hy, hR⟩ := hY (ordL 0) (t7 0) wr hJ (by simp [ordL])
        rw [t7_val 0 (by omega)] at hy
        gi_wp2
        refine hR.mono ?_
        clear hR
        rintro e W3 (⟨rfl, hJ3, -⟩ | ⟨rfl, hJx3⟩)
        · gi_wp2
          refine ⟨fun _ h => (by cases h), ?_⟩
          gi_wp2
          go_roundw
          case rel => exact ⟨1, by omega, rfl, by simpa [ordL] using hJ3⟩
          case measure => simp [intOf]
        · clear hY hJ h0
          gi_wp2
          all_goals (try (exfalso; apply absurd_undef; assumption))
          all_goals (refine ⟨fun _ h => (by cases h), ?_⟩; gi_wp2)
          all_goals (try (exfalso; apply absurd_undef; assumption))
          all_goals (refine bodyPost_ret (results_none rfl _ _ _) rfl ?_; exact ⟨⟨_, rfl⟩, .inr ⟨_, trivial, hJx3⟩⟩)
      · have hlen : (ordL (k + 1)).length = 2 * k + 1 := ordL_len k
        obtain ⟨fn, tmps, assign, body, hy, hR⟩ := hY (ordL (k + 1)) (t7 (k + 1)) wr hJ (by omega)
        rw [t7_val (k + 1) (by omega)] at hy
        have hcast : ((k + 1 : Nat) : Int) = (k : Int) + 1 := by simp
        rw [hcast]
        gi_wp2
        refine hR.mono ?_
        clear hR
        rintro e W3 (⟨rfl, hJ3, -⟩ | ⟨rfl, hJx3⟩)
        · obtain ⟨fn2, tmps2, assign2, body2, hy2, hR2⟩ := hY (ordL (k + 1) ++ [t7 (k + 1)]) (t7 (-(k + 1))) W3 hJ3 (by simp; omega)
          rw [t7_val (-(k + 1)) (by omega)] at hy2
          clear hY hJ h0 hy
          gi_wp2
          refine hR2.mono ?_
          clear hR2
          rintro e W4 (⟨rfl, hJ4, -⟩ | ⟨rfl, hJx4⟩)
          · gi_wp2
            go_roundw
            case rel => exact ⟨k + 2, by omega, by go_num, by simpa [ordL] using hJ4⟩
            case measure => simp [intOf]; omega
          · gi_wp2
            refine bodyPost_ret (results_none rfl _ _ _) rfl ?_
            exact ⟨⟨_, rfl⟩, .inr ⟨_, trivial, hJx4⟩⟩
        · clear hY hJ h0
          gi_wp2
          all_goals (try (exfalso; apply absurd_undef; assumption))
          all_goals (refine ⟨fun _ h => (by cases h), ?_⟩; gi_wp2)
          all_goals (try (exfalso; apply absurd_undef; assumption))
          all_goals (refine bodyPost_ret (results_none rfl _ _ _) rfl ?_; exact ⟨⟨_, rfl⟩, .inr ⟨_, trivial, hJx3⟩⟩)
    · gi_wp2
      go_end0
      have : k = m + 1 := by omega
      subst this
      exact ⟨⟨_, rfl⟩, .inl ⟨_, rfl, hJ⟩⟩
end Go.Proofs.Ytcacbolbedhcoaa
