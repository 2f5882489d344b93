/- The program's bound (bound, 59). -/
import Derived.Test.YthejomcibobieaaScore
import Derived.Test.YthejomcibobieaaAsked
namespace Go.Proofs.Ythejomcibobieaa
open Go.RowKit

/-- which points may be paired by some move of a block -/
def mayK (c : Cl) (lp lq : List Mi) (k : Bk) : Nat → Nat → Bool := parL c lp lq k.turn k.x0 k.x1 (fun _ => k.y0 - c.elastic) (fun _ => k.y1 + c.elastic)
def bndK (c : Cl) (lp lq : List Mi) (k : Bk) : Int := mmk (nbF lq.length (mayK c lp lq k)) lp.length []
def scrK (c : Cl) (lp lq : List Mi) (v : Mv) (b : Nat → Int) : Int := mmk (nbF lq.length (mayL c lp lq v b)) lp.length []
set_option maxRecDepth 100000 in
set_option maxHeartbeats 8000000 in
theorem bound_any (c : Cl) (hc : c.ok) (lp lq : List Mi) (k : Bk) (hk : isBlk c k = true) (hp : ∀ m ∈ lp, m.ok) (hq : ∀ m ∈ lq, m.ok) (hnp : lp.length ≤ 100) (hnq : lq.length ≤ 100) (Ap Aq : Option Addr) (cp cq : Nat) (w : World) (hP : Pts w Ap lp) (hQ : Pts w Aq lq) :
    Calls Try.prog 59 #[.slice Ap lp.length cp, .slice Aq lq.length cq, c.val, k.val] w fun e w' => e = .returned (.int .i64 (bndK c lp lq k)) ∧ Ext w w' := by
  have hc1 := hc.turns
  have hc2 := hc.shift
  have hc3 := hc.elastic
  rw [isBlk_iff] at hk
  have CP := Lib.hid (fun w hP hQ => pairs_any c hc lp lq k.turn k.x0 k.x1 (fun _ => k.y0 - c.elastic) (fun _ => k.y1 + c.elastic) hp hq (by omega) (by omega) (by omega) (fun j _ => by show -100 ≤ k.y0 - c.elastic ∧ k.y0 - c.elastic ≤ 100; omega) (fun j _ => by show -100 ≤ k.y1 + c.elastic ∧ k.y1 + c.elastic ≤ 100; omega) hnp hnq Ap Aq cp cq w hP hQ)
  have HV := Lib.hid (show bndK c lp lq k = ((mmk (nbF lq.length (parL c lp lq k.turn k.x0 k.x1 (fun _ => k.y0 - c.elastic) (fun _ => k.y1 + c.elastic))) lp.length [] : Nat) : Int) from rfl)
  have HP := Lib.hid hP
  have HQ := Lib.hid hQ
  clear hP hQ hp hq
  simp only [spansV] at CP
  go_enter Try.func59, Try.ntmps59
  go_wp2_with fail
  refine wp_loop_rounds 5 ?_
  iterate 5 (rw [rounds_succ]; go_wp2_with fail)
  have hE : Ext w (((w.alloc (.cells #[.int .i64 c.turns, .int .i64 c.shift, .int .i64 c.elastic, .int .i64 c.reach, .int .i64 c.spread] 38)).alloc (.cells #[.int .i64 k.turn, .int .i64 k.x0, .int .i64 k.y0, .int .i64 k.x1, .int .i64 k.y1] 40)).alloc (.cells #[.int .i64 (k.y0 - c.elastic), .int .i64 (k.y1 + c.elastic), .int .i64 (k.y0 - c.elastic), .int .i64 (k.y1 + c.elastic), .int .i64 (k.y0 - c.elastic), .int .i64 (k.y1 + c.elastic), .int .i64 (k.y0 - c.elastic), .int .i64 (k.y1 + c.elastic)] 119)) := (((Ext.refl w).alloc _).alloc _).alloc _
  refine Calls.ext (CP.out _ (HP.out.grow hE) (HQ.out.grow hE)) fun z => ?_
  go_wp2_with fail
  go_ret
  exact ⟨ret_of (by rw [HV.out]; rfl), hE.ext z⟩
end Go.Proofs.Ythejomcibobieaa
