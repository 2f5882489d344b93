/- The program's score (score, 53; Score, 21). -/
import Derived.Test.YtchplmenkdghcaaPairs
import Derived.Test.YtchplmenkdghcaaScored
import Derived.Test.YtchplmenkdghcaaAsked
namespace Go.Proofs.Ytchplmenkdghcaa
open Go.RowKit
theorem par_scored (c : Cl) (lp lq : List Mi) (v : Mv) (b : Nat → Int) : parL c lp lq v.turn v.dx v.dx (fun i => v.dy + b i) (fun i => v.dy + b i) = mayL c lp lq v b := by
  funext i j
  unfold parL mayL
  cases lp[i]? with
  | none => rfl
  | some m =>
    cases lq[j]? with
    | none => rfl
    | some o => exact par_alike c m o v b
theorem run_index28 (a b c d : Int) (k : Nat) (v : Value) (h : #[Value.int .i64 a, .int .i64 b, .int .i64 c, .int .i64 d][k]? = some v) (h4 : k < 4) : (Instr.index 53 (.agg #[.int .i64 a, .int .i64 b, .int .i64 c, .int .i64 d]) (.int .i64 (k : Int))).run Try.prog = fun w => .ok v w := by
  rcases (show k = 0 ∨ k = 1 ∨ k = 2 ∨ k = 3 by omega) with rfl | rfl | rfl | rfl <;> (injection h with h; subst h; exact funext fun w => by kernel_rfl)
set_option maxRecDepth 100000 in
set_option maxHeartbeats 8000000 in
theorem score_any (c : Cl) (hc : c.ok) (lp lq : List Mi) (v : Mv) (b : Nat → Int) (hp : ∀ m ∈ lp, m.ok) (hq : ∀ m ∈ lq, m.ok) (ht : -3 ≤ v.turn ∧ v.turn ≤ 3) (hdx : -4 ≤ v.dx ∧ v.dx ≤ 4) (hdy : -4 ≤ v.dy ∧ v.dy ≤ 4) (hb : ∀ pi, pi < 4 → -1 ≤ b pi ∧ b pi ≤ 1) (hnp : lp.length ≤ 100) (hnq : lq.length ≤ 100) (Ap Aq : Option Addr) (cp cq : Nat) (w : World) (hP : Pts w Ap lp) (hQ : Pts w Aq lq) :
    Calls Try.prog 27 #[.slice Ap lp.length cp, .slice Aq lq.length cq, c.val, v.val, bendV b] w fun e w' => e = .returned (.int .i64 (mmk (nbF lq.length (mayL c lp lq v b)) lp.length [])) ∧ Ext w w' := by
  have CP := Lib.hid (fun w hP hQ => pairs_any c hc lp lq v.turn v.dx v.dx (fun i => v.dy + b i) (fun i => v.dy + b i) hp hq ht (by omega) (by omega) (fun j hj => by have := hb j hj; show -100 ≤ v.dy + b j ∧ v.dy + b j ≤ 100; omega) (fun j hj => by have := hb j hj; show -100 ≤ v.dy + b j ∧ v.dy + b j ≤ 100; omega) hnp hnq Ap Aq cp cq w hP hQ)
  rw [par_scored] at CP
  have HP := Lib.hid hP
  have HQ := Lib.hid hQ
  clear hP hQ hp hq
  have h0 := hb 0 (by omega)
  have h1 := hb 1 (by omega)
  have h2 := hb 2 (by omega)
  have h3 := hb 3 (by omega)
  obtain ⟨b0, e0⟩ : ∃ x, x = b 0 := ⟨_, rfl⟩
  obtain ⟨b1, e1⟩ : ∃ x, x = b 1 := ⟨_, rfl⟩
  obtain ⟨b2, e2⟩ : ∃ x, x = b 2 := ⟨_, rfl⟩
  obtain ⟨b3, e3⟩ : ∃ x, x = b 3 := ⟨_, rfl⟩
  simp only [bendV, spansV] at CP ⊢
  rw [← e0, ← e1, ← e2, ← e3] at CP ⊢
  rw [← e0] at h0
  rw [← e1] at h1
  rw [← e2] at h2
  rw [← e3] at h3
  clear e0 e1 e2 e3 hb
  have w0 : wrap64 (v.dy + b0) = v.dy + b0 := IntWalk.wrap64_in _ (by omega)
  have i0 := run_index28 b0 b1 b2 b3 0 _ rfl (by omega)
  have i1 := run_index28 b0 b1 b2 b3 1 _ rfl (by omega)
  have i2 := run_index28 b0 b1 b2 b3 2 _ rfl (by omega)
  have i3 := run_index28 b0 b1 b2 b3 3 _ rfl (by omega)
  replace i0 : (Instr.index 53 (.agg #[.int .i64 b0, .int .i64 b1, .int .i64 b2, .int .i64 b3]) (.int .i64 0)).run Try.prog = fun w => .ok (.int .i64 b0) w := i0
  replace i1 : (Instr.index 53 (.agg #[.int .i64 b0, .int .i64 b1, .int .i64 b2, .int .i64 b3]) (.int .i64 1)).run Try.prog = fun w => .ok (.int .i64 b1) w := i1
  replace i2 : (Instr.index 53 (.agg #[.int .i64 b0, .int .i64 b1, .int .i64 b2, .int .i64 b3]) (.int .i64 2)).run Try.prog = fun w => .ok (.int .i64 b2) w := i2
  replace i3 : (Instr.index 53 (.agg #[.int .i64 b0, .int .i64 b1, .int .i64 b2, .int .i64 b3]) (.int .i64 3)).run Try.prog = fun w => .ok (.int .i64 b3) w := i3
  go_enter Try.func27, Try.ntmps27
  go_wp2_with fail
  refine wp_loop_rounds 5 ?_
  iterate 5 (rw [rounds_succ]; go_wp2_with fail)
  have hE : Ext w ((((w.alloc (.cells #[.int .i64 c.turns, .int .i64 c.shift, .int .i64 c.elastic, .int .i64 c.reach, .int .i64 c.spread] 26)).alloc (.cells #[.int .i64 v.turn, .int .i64 v.dx, .int .i64 v.dy] 51)).alloc (.cells #[.int .i64 b0, .int .i64 b1, .int .i64 b2, .int .i64 b3] 53)).alloc (.cells #[.int .i64 (v.dy + b0), .int .i64 (v.dy + b0), .int .i64 (v.dy + b1), .int .i64 (v.dy + b1), .int .i64 (v.dy + b2), .int .i64 (v.dy + b2), .int .i64 (v.dy + b3), .int .i64 (v.dy + b3)] 101)) := ((((Ext.refl w).alloc _).alloc _).alloc _).alloc _
  refine Calls.ext (CP.out _ (HP.out.grow hE) (HQ.out.grow hE)) fun z => ?_
  go_wp2_with fail
  go_ret
  exact ⟨rfl, hE.ext z⟩
end Go.Proofs.Ytchplmenkdghcaa
namespace Go.Proofs.Ytchplmenkdghcaa
open Go.RowKit
/-- which points may be paired by some move of a block -/
def mayK (c : Cl) (lp lq : List Mi) (k : Bk) : Nat → Nat → Bool := parL c lp lq k.turn k.x0 k.x1 (fun _ => k.y0 - c.elastic) (fun _ => k.y1 + c.elastic)
def bndK (c : Cl) (lp lq : List Mi) (k : Bk) : Int := mmk (nbF lq.length (mayK c lp lq k)) lp.length []
def scrK (c : Cl) (lp lq : List Mi) (v : Mv) (b : Nat → Int) : Int := mmk (nbF lq.length (mayL c lp lq v b)) lp.length []
set_option maxRecDepth 100000 in
set_option maxHeartbeats 8000000 in
theorem bound_any (c : Cl) (hc : c.ok) (lp lq : List Mi) (k : Bk) (hk : isBlk c k = true) (hp : ∀ m ∈ lp, m.ok) (hq : ∀ m ∈ lq, m.ok) (hnp : lp.length ≤ 100) (hnq : lq.length ≤ 100) (Ap Aq : Option Addr) (cp cq : Nat) (w : World) (hP : Pts w Ap lp) (hQ : Pts w Aq lq) :
    Calls Try.prog 20 #[.slice Ap lp.length cp, .slice Aq lq.length cq, c.val, k.val] w fun e w' => e = .returned (.int .i64 (bndK c lp lq k)) ∧ Ext w w' := by
  have hc1 := hc.turns
  have hc2 := hc.shift
  have hc3 := hc.elastic
  rw [isBlk_iff] at hk
  have CP := Lib.hid (fun w hP hQ => pairs_any c hc lp lq k.turn k.x0 k.x1 (fun _ => k.y0 - c.elastic) (fun _ => k.y1 + c.elastic) hp hq (by omega) (by omega) (by omega) (fun j _ => by show -100 ≤ k.y0 - c.elastic ∧ k.y0 - c.elastic ≤ 100; omega) (fun j _ => by show -100 ≤ k.y1 + c.elastic ∧ k.y1 + c.elastic ≤ 100; omega) hnp hnq Ap Aq cp cq w hP hQ)
  have HV := Lib.hid (show bndK c lp lq k = ((mmk (nbF lq.length (parL c lp lq k.turn k.x0 k.x1 (fun _ => k.y0 - c.elastic) (fun _ => k.y1 + c.elastic))) lp.length [] : Nat) : Int) from rfl)
  have HP := Lib.hid hP
  have HQ := Lib.hid hQ
  clear hP hQ hp hq
  simp only [spansV] at CP
  go_enter Try.func20, Try.ntmps20
  go_wp2_with fail
  refine wp_loop_rounds 5 ?_
  iterate 5 (rw [rounds_succ]; go_wp2_with fail)
  have hE : Ext w (((w.alloc (.cells #[.int .i64 c.turns, .int .i64 c.shift, .int .i64 c.elastic, .int .i64 c.reach, .int .i64 c.spread] 26)).alloc (.cells #[.int .i64 k.turn, .int .i64 k.x0, .int .i64 k.y0, .int .i64 k.x1, .int .i64 k.y1] 67)).alloc (.cells #[.int .i64 (k.y0 - c.elastic), .int .i64 (k.y1 + c.elastic), .int .i64 (k.y0 - c.elastic), .int .i64 (k.y1 + c.elastic), .int .i64 (k.y0 - c.elastic), .int .i64 (k.y1 + c.elastic), .int .i64 (k.y0 - c.elastic), .int .i64 (k.y1 + c.elastic)] 101)) := (((Ext.refl w).alloc _).alloc _).alloc _
  refine Calls.ext (CP.out _ (HP.out.grow hE) (HQ.out.grow hE)) fun z => ?_
  go_wp2_with fail
  go_ret
  exact ⟨ret_of (by rw [HV.out]; rfl), hE.ext z⟩
end Go.Proofs.Ytchplmenkdghcaa

