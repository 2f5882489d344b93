/- Proved: for all prints, class, block, bend and numbers, the call of whorllaw02.AlignBounds returns true and leaves its arguments as they were. No conditions. -/
import Derived.Test.YthejomcibobieaaOuts
import Derived.Test.YthejomcibobieaaProm
import Derived.Test.YthejomcibobieaaEqAt
namespace Go.Proofs.Ythejomcibobieaa
open Go.Joins Go.ChangeShapes Go.WideShapes Go.RowKit Go.Deep Go.ChangeAt

/-- the block within, by numbers -/
def inBk (k : Bk) (x y u h : Int) : Bk :=
  ⟨k.turn, k.x0 + x % (k.x1 - k.x0 + 1), k.y0 + y % (k.y1 - k.y0 + 1), (k.x0 + x % (k.x1 - k.x0 + 1)) + u % (k.x1 - (k.x0 + x % (k.x1 - k.x0 + 1)) + 1), (k.y0 + y % (k.y1 - k.y0 + 1)) + h % (k.y1 - (k.y0 + y % (k.y1 - k.y0 + 1)) + 1)⟩
theorem mod_in (x : Int) {n : Int} (h : 0 < n) : 0 ≤ x % n ∧ x % n < n := ⟨Int.emod_nonneg _ (by omega), Int.emod_lt_of_pos _ h⟩
theorem bounds_law {c : Cl} {lp lq : List Mi} {k : Bk} (hp : ∀ m ∈ lp, 0 ≤ m.dir) (h0 : askE c lp lq = 0) (hk : isBlk c k = true) (x y u h : Int) :
    isBlk c (inBk k x y u h) = true ∧ hasB (inBk k x y u h) ⟨k.turn, (inBk k x y u h).x0, (inBk k x y u h).y0⟩ = true ∧ isMove c ⟨k.turn, (inBk k x y u h).x0, (inBk k x y u h).y0⟩ = true ∧
    bndK c lp lq (inBk k x y u h) ≤ bndK c lp lq k ∧ (trK c lp lq ⟨k.turn, (inBk k x y u h).x0, (inBk k x y u h).y0⟩).score ≤ bndK c lp lq (inBk k x y u h) ∧ bndK c lp lq k ≤ lp.length ∧ bndK c lp lq k ≤ lq.length := by
  obtain ⟨a1, -, hc⟩ := askE_ok h0
  obtain ⟨hpo, -⟩ := okP_ok a1 hp
  have P := prom hc lp lq hpo
  have hk' := isBlk_iff.1 hk
  have m1 := mod_in x (n := k.x1 - k.x0 + 1) (by omega)
  have m2 := mod_in y (n := k.y1 - k.y0 + 1) (by omega)
  have m3 := mod_in u (n := k.x1 - (k.x0 + x % (k.x1 - k.x0 + 1)) + 1) (by omega)
  have m4 := mod_in h (n := k.y1 - (k.y0 + y % (k.y1 - k.y0 + 1)) + 1) (by omega)
  have i1 : isBlk c (inBk k x y u h) = true := by rw [isBlk_iff]; unfold inBk; dsimp only; omega
  have i2 : inK (inBk k x y u h) k := by unfold inK inBk; dsimp only; omega
  have i3 : hasB (inBk k x y u h) ⟨k.turn, (inBk k x y u h).x0, (inBk k x y u h).y0⟩ = true := by rw [hasB_iff]; unfold inBk; dsimp only; omega
  refine ⟨i1, i3, ?_, P.within k _ hk i1 i2, P.one _ _ i1 i3, ?_⟩
  · rw [isMove_iff]; unfold inBk; dsimp only; omega
  · have hm := mmk_max (nbF lq.length (mayK c lp lq k)) lp.length
    have h1 := isMax_left hm
    have h2 := isMax_right (n := lq.length) (fun i j _ hj => (mem_nbF.1 hj).1) hm
    unfold bndK
    omega
theorem bound_err {c : Cl} {lp lq : List Mi} {k : Bk} (h : ¬ (askE c lp lq = 0 ∧ isBlk c k = true)) : ∃ e : Int, (e != 0) = true ∧ boundT c lp lq k = .tuple #[.int .i64 0, .int .i64 e] := by
  unfold boundT
  by_cases h0 : askE c lp lq = 0
  · rw [if_pos h0]
    cases hk : isBlk c k
    · exact ⟨2, rfl, rfl⟩
    · exact absurd ⟨h0, hk⟩ h
  · rw [if_neg h0]
    exact ⟨_, by simpa using h0, rfl⟩
theorem calls_eq {f : FuncId} {args : Array Value} {w : World} {r r' : Value} (h : Calls Try.prog f args w fun e w' => e = .returned r ∧ Ext w w') (e : r = r') : Calls Try.prog f args w fun e w' => e = .returned r' ∧ Ext w w' := by rw [← e]; exact h
theorem bounds_calls {c : Cl} {lp lq : List Mi} {k : Bk} (b : Bd) {x y u h : Int} {I : Bk} (hI : I = inBk k x y u h) (hp : ∀ m ∈ lp, 0 ≤ m.dir) (hq : ∀ m ∈ lq, 0 ≤ m.dir) (hnp : lp.length ≤ 100) (hnq : lq.length ≤ 100) (h0 : askE c lp lq = 0) (hk : isBlk c k = true) :
    ∃ ua ub uc ud us mI nk sc : Int,
      (∀ A A' n n' w, Pts w A lp → Pts w A' lq → Calls Try.prog 25 #[.slice A lp.length n, .slice A' lq.length n', c.val, k.val] w fun e w' => e = .returned (.tuple #[.int .i64 nk, .int .i64 0]) ∧ Ext w w') ∧
      (∀ A A' n n' w, Pts w A lp → Pts w A' lq → Calls Try.prog 25 #[.slice A lp.length n, .slice A' lq.length n', c.val, .agg #[.int .i64 k.turn, .int .i64 I.x0, .int .i64 I.y0, .int .i64 I.x1, .int .i64 I.y1]] w fun e w' => e = .returned (.tuple #[.int .i64 mI, .int .i64 0]) ∧ Ext w w') ∧
      (∀ A A' n n' w, Pts w A lp → Pts w A' lq → Calls Try.prog 23 #[.slice A lp.length n, .slice A' lq.length n', c.val, .agg #[.int .i64 k.turn, .int .i64 I.x0, .int .i64 I.y0]] w fun e w' => e = .returned (.tuple #[.agg #[.int .i64 k.turn, .int .i64 I.x0, .int .i64 I.y0, .int .i64 ua, .int .i64 ub, .int .i64 uc, .int .i64 ud, .int .i64 us], .int .i64 0]) ∧ Ext w w') ∧
      (isBend c.elastic b.f = true → (∀ A A' n n' w, Pts w A lp → Pts w A' lq → Calls Try.prog 21 #[.slice A lp.length n, .slice A' lq.length n', c.val, .agg #[.int .i64 k.turn, .int .i64 I.x0, .int .i64 I.y0], .agg #[.int .i64 b.a, .int .i64 b.b, .int .i64 b.c, .int .i64 b.d]] w fun e w' => e = .returned (.tuple #[.int .i64 sc, .int .i64 0]) ∧ Ext w w') ∧ sc ≤ us) ∧
      (isBend c.elastic b.f = false → ∀ A A' n n' w, Pts w A lp → Pts w A' lq → Calls Try.prog 21 #[.slice A lp.length n, .slice A' lq.length n', c.val, .agg #[.int .i64 k.turn, .int .i64 I.x0, .int .i64 I.y0], .agg #[.int .i64 b.a, .int .i64 b.b, .int .i64 b.c, .int .i64 b.d]] w fun e w' => e = .returned (.tuple #[.int .i64 0, .int .i64 2]) ∧ Ext w w') ∧
      mI ≤ nk ∧ us ≤ mI ∧ nk ≤ lp.length ∧ nk ≤ lq.length ∧ wfI k.turn ∧ wfI I.x0 ∧ wfI I.y0 := by
  obtain ⟨l1, l2, l3, l4, l5, l6, l7⟩ := bounds_law hp h0 hk x y u h
  obtain ⟨-, -, hc⟩ := askE_ok h0
  rw [← hI] at l1 l2 l3 l4 l5
  have l3' := isMove_iff.1 l3
  dsimp only at l3'
  have c1 := hc.shift
  have c2 := hc.turns
  have hu := trK_mv c lp lq ⟨k.turn, I.x0, I.y0⟩
  have hbest := (trK_best hc lp lq ⟨k.turn, I.x0, I.y0⟩).1 b
  refine ⟨(trK c lp lq ⟨k.turn, I.x0, I.y0⟩).bd.a, (trK c lp lq ⟨k.turn, I.x0, I.y0⟩).bd.b, (trK c lp lq ⟨k.turn, I.x0, I.y0⟩).bd.c, (trK c lp lq ⟨k.turn, I.x0, I.y0⟩).bd.d, (trK c lp lq ⟨k.turn, I.x0, I.y0⟩).score, bndK c lp lq I, bndK c lp lq k, scrK c lp lq ⟨k.turn, I.x0, I.y0⟩ b.f, ?_, ?_, ?_, ?_, ?_, l4, l5, l6, l7, wf_i (by omega), wf_i (by omega), wf_i (by omega)⟩
  · intro A A' n n' w h1 h2
    refine calls_eq (Bound_any c lp lq k hp hq hnp hnq A A' n n' w h1 h2) ?_
    unfold boundT
    rw [if_pos h0, if_pos hk]
  · intro A A' n n' w h1 h2
    have e : I.turn = k.turn := by rw [hI]; rfl
    have := calls_eq (Bound_any c lp lq I hp hq hnp hnq A A' n n' w h1 h2) (r' := .tuple #[.int .i64 (bndK c lp lq I), .int .i64 0]) (by unfold boundT; rw [if_pos h0, if_pos l1])
    unfold Bk.val at this
    rw [e] at this
    exact this
  · intro A A' n n' w h1 h2
    refine calls_eq (Try_any c lp lq ⟨k.turn, I.x0, I.y0⟩ hp hq hnp hnq A A' n n' w h1 h2) ?_
    unfold tryT tryA tryE
    rw [if_pos h0, if_pos h0, l3]
    show Value.tuple #[.agg (trK c lp lq ⟨k.turn, I.x0, I.y0⟩).cells, _] = _
    unfold At.cells
    rw [hu]; rfl
  · intro hb
    refine ⟨fun A A' n n' w h1 h2 => ?_, hbest hb⟩
    refine calls_eq (Score_any c lp lq ⟨k.turn, I.x0, I.y0⟩ b.f hp hq hnp hnq A A' n n' w h1 h2) ?_
    unfold scoreT
    rw [if_pos h0, l3, hb]; rfl
  · intro hb A A' n n' w h1 h2
    refine calls_eq (Score_any c lp lq ⟨k.turn, I.x0, I.y0⟩ b.f hp hq hnp hnq A A' n n' w h1 h2) ?_
    unfold scoreT
    rw [if_pos h0, l3, hb]; rfl
theorem kt_26 : Try.prog.keyTypeAt 10 26 = true := by kernel_rfl
theorem eq26 {a b c : Int} (h1 : wfI a) (h2 : wfI b) (h3 : wfI c) (w : World) : (Op.equalIn 10000 26 (.agg #[.int .i64 a, .int .i64 b, .int .i64 c]) (.agg #[.int .i64 a, .int .i64 b, .int .i64 c])).run Try.prog w = .ok true w := by
  have k := key_26 8 h1 h2 h3
  obtain ⟨r, hr, hi⟩ := run_equalIn_deep 9990 10 26 kt_26 w 10 10 (.agg #[.int .i64 a, .int .i64 b, .int .i64 c]) (.agg #[.int .i64 a, .int .i64 b, .int .i64 c]) _ _ (by kernel_rfl) (by kernel_rfl) k k
  have e : r = true := hi.2 rfl
  rw [← e]
  exact hr
theorem u8_in {n : Int} (h : (Lit.int .u8 n).wf = true) : 0 ≤ n ∧ n ≤ 255 := by
  have := wf_u8 h
  omega
set_option maxRecDepth 100000 in
set_option maxHeartbeats 16000000 in
theorem alignBounds_walk (Ap Aq : Option Addr) (cp cq : Nat) (lp lq : List Mi) (c : Cl) (k : Bk) (b : Bd) (x y u h : Int) (w : World) (hP : Pts w Ap lp) (hQ : Pts w Aq lq) (hp : ∀ m ∈ lp, 0 ≤ m.dir) (hq : ∀ m ∈ lq, 0 ≤ m.dir) (hx : 0 ≤ x ∧ x ≤ 255) (hy : 0 ≤ y ∧ y ≤ 255) (hu : 0 ≤ u ∧ u ≤ 255) (hh : 0 ≤ h ∧ h ≤ 255) :
    Calls Try.prog 16 #[.slice Ap lp.length cp, .slice Aq lq.length cq, c.val, k.val, .agg #[.int .i64 b.a, .int .i64 b.b, .int .i64 b.c, .int .i64 b.d], .int .u8 x, .int .u8 y, .int .u8 u, .int .u8 h] w fun e w' => e = .returned (.bool true) ∧ Ext w w' := by
  have HP := Lib.hid hP
  have HQ := Lib.hid hQ
  have CA := Lib.hid (fun w => alive_any w)
  clear hP hQ
  have hE0 := ((((Ext.refl w).alloc (.cells #[.int .i64 c.turns, .int .i64 c.shift, .int .i64 c.elastic, .int .i64 c.reach, .int .i64 c.spread] 38)).alloc (.cells #[.int .i64 k.turn, .int .i64 k.x0, .int .i64 k.y0, .int .i64 k.x1, .int .i64 k.y1] 40)).alloc (.cells #[.int .i64 b.a, .int .i64 b.b, .int .i64 b.c, .int .i64 b.d] 28))
  by_cases hn : lp.length ≤ 100 ∧ lq.length ≤ 100
  · obtain ⟨hnp, hnq⟩ := hn
    have hnp' : ((lp.length : Nat) : Int) ≤ 100 := by omega
    have hnq' : ((lq.length : Nat) : Int) ≤ 100 := by omega
    by_cases hok : askE c lp lq = 0 ∧ isBlk c k = true
    · obtain ⟨h0, hk⟩ := hok
      obtain ⟨-, -, hc⟩ := askE_ok h0
      have hk' := isBlk_iff.1 hk
      have hcs := hc.shift
      obtain ⟨I, hI⟩ : ∃ I, I = inBk k x y u h := ⟨_, rfl⟩
      obtain ⟨ua, ub, uc, ud, us, mI, nk, sc, B1, B2, T1, S1, S2, l1, l2, l3, l4, l5, l6, l7⟩ := bounds_calls b hI hp hq hnp hnq h0 hk
      have CB := Lib.hid B1
      have CB2 := Lib.hid B2
      have CT := Lib.hid T1
      have HS1 := Lib.hid S1
      have HS2 := Lib.hid S2
      have CI := Lib.hid (fun w => isBend_any c b.f hc.elastic w)
      have HLE := Lib.hid (And.intro l1 (And.intro l2 (And.intro l3 l4)))
      have HWF := Lib.hid (And.intro l5 (And.intro l6 l7))
      clear B1 B2 T1 S1 S2 l1 l2 l3 l4 l5 l6 l7
      have x1 := mod_in x (n := k.x1 - k.x0 + 1) (by omega)
      have x2 := mod_in y (n := k.y1 - k.y0 + 1) (by omega)
      have e0 : I.x0 = k.x0 + x % (k.x1 - k.x0 + 1) := by rw [hI]; rfl
      have e1 : I.y0 = k.y0 + y % (k.y1 - k.y0 + 1) := by rw [hI]; rfl
      have e2 : I.x1 = I.x0 + u % (k.x1 - I.x0 + 1) := by rw [hI]; rfl
      have e3 : I.y1 = I.y0 + h % (k.y1 - I.y0 + 1) := by rw [hI]; rfl
      have e4 : I.turn = k.turn := by rw [hI]; rfl
      have x3 := mod_in u (n := k.x1 - I.x0 + 1) (by omega)
      have x4 := mod_in h (n := k.y1 - I.y0 + 1) (by omega)
      have t1 : x.tmod (k.x1 - k.x0 + 1) = x % (k.x1 - k.x0 + 1) := Int.tmod_eq_emod_of_nonneg hx.1
      have t2 : y.tmod (k.y1 - k.y0 + 1) = y % (k.y1 - k.y0 + 1) := Int.tmod_eq_emod_of_nonneg hy.1
      have t3 : u.tmod (k.x1 - I.x0 + 1) = u % (k.x1 - I.x0 + 1) := Int.tmod_eq_emod_of_nonneg hu.1
      have t4 : h.tmod (k.y1 - I.y0 + 1) = h % (k.y1 - I.y0 + 1) := Int.tmod_eq_emod_of_nonneg hh.1
      generalize x % (k.x1 - k.x0 + 1) = r1 at *
      generalize y % (k.y1 - k.y0 + 1) = r2 at *
      generalize u % (k.x1 - I.x0 + 1) = r3 at *
      generalize h % (k.y1 - I.y0 + 1) = r4 at *
      have wx : IntKind.i64.wrap x = x := IntWalk.i64_in _ (by omega)
      have wy : IntKind.i64.wrap y = y := IntWalk.i64_in _ (by omega)
      have wu : IntKind.i64.wrap u = u := IntWalk.i64_in _ (by omega)
      have wh : IntKind.i64.wrap h = h := IntWalk.i64_in _ (by omega)
      have d1 : IntKind.i64.wrap (k.x1 - k.x0) = k.x1 - k.x0 := IntWalk.i64_in _ (by omega)
      have d2 : IntKind.i64.wrap (k.y1 - k.y0) = k.y1 - k.y0 := IntWalk.i64_in _ (by omega)
      have d3 : IntKind.i64.wrap (k.x1 - I.x0) = k.x1 - I.x0 := IntWalk.i64_in _ (by omega)
      have d4 : IntKind.i64.wrap (k.y1 - I.y0) = k.y1 - I.y0 := IntWalk.i64_in _ (by omega)
      have a1 : IntKind.i64.wrap (k.x1 - k.x0 + 1) = k.x1 - k.x0 + 1 := IntWalk.i64_in _ (by omega)
      have a2 : IntKind.i64.wrap (k.y1 - k.y0 + 1) = k.y1 - k.y0 + 1 := IntWalk.i64_in _ (by omega)
      have a3 : IntKind.i64.wrap (k.x1 - I.x0 + 1) = k.x1 - I.x0 + 1 := IntWalk.i64_in _ (by omega)
      have a4 : IntKind.i64.wrap (k.y1 - I.y0 + 1) = k.y1 - I.y0 + 1 := IntWalk.i64_in _ (by omega)
      have n1 : (k.x1 - k.x0 + 1 = 0) = False := by simp; omega
      have n2 : (k.y1 - k.y0 + 1 = 0) = False := by simp; omega
      have n3 : (k.x1 - I.x0 + 1 = 0) = False := by simp; omega
      have n4 : (k.y1 - I.y0 + 1 = 0) = False := by simp; omega
      have s1 : IntKind.i64.wrap (k.x0 + r1) = I.x0 := (IntWalk.i64_in _ (by omega)).trans e0.symm
      have s2 : IntKind.i64.wrap (k.y0 + r2) = I.y0 := (IntWalk.i64_in _ (by omega)).trans e1.symm
      have s3 : IntKind.i64.wrap (I.x0 + r3) = I.x1 := (IntWalk.i64_in _ (by omega)).trans e2.symm
      have s4 : IntKind.i64.wrap (I.y0 + r4) = I.y1 := (IntWalk.i64_in _ (by omega)).trans e3.symm
      clear x1 x2 x3 x4 e0 e1 e2 e3 e4 hI hp hq hk hk' hc hcs hx hy hu hh h0
      go_enter Try.func16, Try.ntmps16
      go_wp2_with fail
      refine Calls.ext (CA.out _) fun z1 => ?_
      go_wp2_with fail
      have hE1 := hE0.ext z1
      refine Calls.ext (CB.out _ _ _ _ _ (HP.out.grow hE1) (HQ.out.grow hE1)) fun z2 => ?_
      have HE2 := Lib.hid (hE1.ext z2)
      have HCb := Lib.hid (((((Blk.new w 38 #[.int .i64 c.turns, .int .i64 c.shift, .int .i64 c.elastic, .int .i64 c.reach, .int .i64 c.spread]).alloc (.cells #[.int .i64 k.turn, .int .i64 k.x0, .int .i64 k.y0, .int .i64 k.x1, .int .i64 k.y1] 40)).alloc (.cells #[.int .i64 b.a, .int .i64 b.b, .int .i64 b.c, .int .i64 b.d] 28)).ext z1).ext z2)
      have HKb := Lib.hid ((((Blk.new' (w.alloc (.cells #[.int .i64 c.turns, .int .i64 c.shift, .int .i64 c.elastic, .int .i64 c.reach, .int .i64 c.spread] 38)) 40 #[.int .i64 k.turn, .int .i64 k.x0, .int .i64 k.y0, .int .i64 k.x1, .int .i64 k.y1] (w.heap.size + 1) (by simp)).alloc (.cells #[.int .i64 b.a, .int .i64 b.b, .int .i64 b.c, .int .i64 b.d] 28)).ext z1).ext z2)
      have HBb := Lib.hid (((Blk.new' ((w.alloc (.cells #[.int .i64 c.turns, .int .i64 c.shift, .int .i64 c.elastic, .int .i64 c.reach, .int .i64 c.spread] 38)).alloc (.cells #[.int .i64 k.turn, .int .i64 k.x0, .int .i64 k.y0, .int .i64 k.x1, .int .i64 k.y1] 40)) 28 #[.int .i64 b.a, .int .i64 b.b, .int .i64 b.c, .int .i64 b.d] (w.heap.size + 1 + 1) (by simp)).ext z1).ext z2)
      generalize ext (ext (((w.alloc (.cells #[.int .i64 c.turns, .int .i64 c.shift, .int .i64 c.elastic, .int .i64 c.reach, .int .i64 c.spread] 38)).alloc (.cells #[.int .i64 k.turn, .int .i64 k.x0, .int .i64 k.y0, .int .i64 k.x1, .int .i64 k.y1] 40)).alloc (.cells #[.int .i64 b.a, .int .i64 b.b, .int .i64 b.c, .int .i64 b.d] 28)) z1) z2 = V at *
      have HX0 := Lib.hid (Ext.refl V)
      have k0 : V.cell? ⟨w.heap.size + 1, 0, none⟩ = some (.int .i64 k.turn) := HKb.out.cell 0
      have k1 : V.cell? ⟨w.heap.size + 1, 1, none⟩ = some (.int .i64 k.x0) := HKb.out.cell 1
      have k2 : V.cell? ⟨w.heap.size + 1, 2, none⟩ = some (.int .i64 k.y0) := HKb.out.cell 2
      have k3 : V.cell? ⟨w.heap.size + 1, 3, none⟩ = some (.int .i64 k.x1) := HKb.out.cell 3
      have k4 : V.cell? ⟨w.heap.size + 1, 4, none⟩ = some (.int .i64 k.y1) := HKb.out.cell 4
      have oK := Old.mk HKb.out.lt
      go_wp2_with fail
      clear k0 k1 k2 k3 k4 oK
      obtain ⟨gi, hgi⟩ : ∃ gi, gi = V.heap.size := ⟨_, rfl⟩
      rw [← hgi]
      have HG := Lib.hid (show V.heap.size ≤ gi from by omega)
      obtain ⟨W0, hW0⟩ : ∃ W0, W0 = V.alloc (.cells #[.int .i64 k.turn, .int .i64 k.x0, .int .i64 k.y0, .int .i64 k.x1, .int .i64 k.y1] 40) := ⟨_, rfl⟩
      have HXa := Lib.hid (show Ext V W0 from by rw [hW0]; exact HX0.out.alloc _)
      have HIa := Lib.hid (show Blk W0 gi 40 #[.int .i64 k.turn, .int .i64 k.x0, .int .i64 k.y0, .int .i64 k.x1, .int .i64 k.y1] from by rw [hW0]; exact Blk.new' V 40 _ gi hgi)
      rw [← hW0]
      clear hW0 hgi
      have hn1 : w.heap.size ≠ gi := by have := HCb.out.lt; have := HG.out; omega
      have hn2 : w.heap.size + 1 ≠ gi := by have := HKb.out.lt; have := HG.out; omega
      have hn3 : gi ≠ w.heap.size := fun e => hn1 e.symm
      have hn4 : gi ≠ w.heap.size + 1 := fun e => hn2 e.symm
      have g0 : W0.cell? ⟨w.heap.size, 0, none⟩ = some (.int .i64 c.turns) := (HCb.out.grow HXa.out).cell 0
      have g1 : W0.cell? ⟨w.heap.size, 1, none⟩ = some (.int .i64 c.shift) := (HCb.out.grow HXa.out).cell 1
      have g2 : W0.cell? ⟨w.heap.size, 2, none⟩ = some (.int .i64 c.elastic) := (HCb.out.grow HXa.out).cell 2
      have g3 : W0.cell? ⟨w.heap.size, 3, none⟩ = some (.int .i64 c.reach) := (HCb.out.grow HXa.out).cell 3
      have g4 : W0.cell? ⟨w.heap.size, 4, none⟩ = some (.int .i64 c.spread) := (HCb.out.grow HXa.out).cell 4
      have k0 : W0.cell? ⟨w.heap.size + 1, 0, none⟩ = some (.int .i64 k.turn) := (HKb.out.grow HXa.out).cell 0
      have k1 : W0.cell? ⟨w.heap.size + 1, 1, none⟩ = some (.int .i64 k.x0) := (HKb.out.grow HXa.out).cell 1
      have k2 : W0.cell? ⟨w.heap.size + 1, 2, none⟩ = some (.int .i64 k.y0) := (HKb.out.grow HXa.out).cell 2
      have k3 : W0.cell? ⟨w.heap.size + 1, 3, none⟩ = some (.int .i64 k.x1) := (HKb.out.grow HXa.out).cell 3
      have k4 : W0.cell? ⟨w.heap.size + 1, 4, none⟩ = some (.int .i64 k.y1) := (HKb.out.grow HXa.out).cell 4
      have i0 : W0.cell? ⟨gi, 0, none⟩ = some (.int .i64 k.turn) := HIa.out.cell 0
      have i1 : W0.cell? ⟨gi, 1, none⟩ = some (.int .i64 k.x0) := HIa.out.cell 1
      have i2 : W0.cell? ⟨gi, 2, none⟩ = some (.int .i64 k.y0) := HIa.out.cell 2
      have i3 : W0.cell? ⟨gi, 3, none⟩ = some (.int .i64 k.x1) := HIa.out.cell 3
      have i4 : W0.cell? ⟨gi, 4, none⟩ = some (.int .i64 k.y1) := HIa.out.cell 4
      have oC := Old.mk (HCb.out.grow HXa.out).lt
      have oK := Old.mk (HKb.out.grow HXa.out).lt
      have oI := Old.mk HIa.out.lt
      have fI := HIa.out.frozen
      refine wp_region_tail 12 (by kernel_rfl) (by kernel_rfl) ?_
      simp only [List.take_succ_cons, List.take_zero, List.drop_succ_cons, List.drop_zero]
      repeat still_step
      refine wpStill_nil ?_
      go_wp2_with fail
      obtain ⟨W1, hW1⟩ : ∃ W1, W1 = (W0.setCell ⟨gi, 1, none⟩ (.int .i64 I.x0)).drew := ⟨_, rfl⟩
      have HXb := Lib.hid (show Ext V W1 from by rw [hW1]; exact (HXa.out.setCell (p := ⟨gi, 1, none⟩) HG.out _).drew)
      have HIb := Lib.hid (show Blk W1 gi 40 #[.int .i64 k.turn, .int .i64 I.x0, .int .i64 k.y0, .int .i64 k.x1, .int .i64 k.y1] from by rw [hW1]; exact (HIa.out.set_ 1 _).drew)
      rw [← hW1]
      clear hW1 HXa HIa
      clear g0 g1 g2 g3 g4 k0 k1 k2 k3 k4 i0 i1 i2 i3 i4 oC oK oI fI
      have g0 : W1.cell? ⟨w.heap.size, 0, none⟩ = some (.int .i64 c.turns) := (HCb.out.grow HXb.out).cell 0
      have g1 : W1.cell? ⟨w.heap.size, 1, none⟩ = some (.int .i64 c.shift) := (HCb.out.grow HXb.out).cell 1
      have g2 : W1.cell? ⟨w.heap.size, 2, none⟩ = some (.int .i64 c.elastic) := (HCb.out.grow HXb.out).cell 2
      have g3 : W1.cell? ⟨w.heap.size, 3, none⟩ = some (.int .i64 c.reach) := (HCb.out.grow HXb.out).cell 3
      have g4 : W1.cell? ⟨w.heap.size, 4, none⟩ = some (.int .i64 c.spread) := (HCb.out.grow HXb.out).cell 4
      have k0 : W1.cell? ⟨w.heap.size + 1, 0, none⟩ = some (.int .i64 k.turn) := (HKb.out.grow HXb.out).cell 0
      have k1 : W1.cell? ⟨w.heap.size + 1, 1, none⟩ = some (.int .i64 k.x0) := (HKb.out.grow HXb.out).cell 1
      have k2 : W1.cell? ⟨w.heap.size + 1, 2, none⟩ = some (.int .i64 k.y0) := (HKb.out.grow HXb.out).cell 2
      have k3 : W1.cell? ⟨w.heap.size + 1, 3, none⟩ = some (.int .i64 k.x1) := (HKb.out.grow HXb.out).cell 3
      have k4 : W1.cell? ⟨w.heap.size + 1, 4, none⟩ = some (.int .i64 k.y1) := (HKb.out.grow HXb.out).cell 4
      have i0 : W1.cell? ⟨gi, 0, none⟩ = some (.int .i64 k.turn) := HIb.out.cell 0
      have i1 : W1.cell? ⟨gi, 1, none⟩ = some (.int .i64 I.x0) := HIb.out.cell 1
      have i2 : W1.cell? ⟨gi, 2, none⟩ = some (.int .i64 k.y0) := HIb.out.cell 2
      have i3 : W1.cell? ⟨gi, 3, none⟩ = some (.int .i64 k.x1) := HIb.out.cell 3
      have i4 : W1.cell? ⟨gi, 4, none⟩ = some (.int .i64 k.y1) := HIb.out.cell 4
      have oC := Old.mk (HCb.out.grow HXb.out).lt
      have oK := Old.mk (HKb.out.grow HXb.out).lt
      have oI := Old.mk HIb.out.lt
      have fI := HIb.out.frozen
      refine wp_region_tail 12 (by kernel_rfl) (by kernel_rfl) ?_
      simp only [List.take_succ_cons, List.take_zero, List.drop_succ_cons, List.drop_zero]
      repeat still_step
      refine wpStill_nil ?_
      go_wp2_with fail
      obtain ⟨W2, hW2⟩ : ∃ W2, W2 = (W1.setCell ⟨gi, 2, none⟩ (.int .i64 I.y0)).drew := ⟨_, rfl⟩
      have HXc := Lib.hid (show Ext V W2 from by rw [hW2]; exact (HXb.out.setCell (p := ⟨gi, 2, none⟩) HG.out _).drew)
      have HIc := Lib.hid (show Blk W2 gi 40 #[.int .i64 k.turn, .int .i64 I.x0, .int .i64 I.y0, .int .i64 k.x1, .int .i64 k.y1] from by rw [hW2]; exact (HIb.out.set_ 2 _).drew)
      rw [← hW2]
      clear hW2 HXb HIb
      clear g0 g1 g2 g3 g4 k0 k1 k2 k3 k4 i0 i1 i2 i3 i4 oC oK oI fI
      have g0 : W2.cell? ⟨w.heap.size, 0, none⟩ = some (.int .i64 c.turns) := (HCb.out.grow HXc.out).cell 0
      have g1 : W2.cell? ⟨w.heap.size, 1, none⟩ = some (.int .i64 c.shift) := (HCb.out.grow HXc.out).cell 1
      have g2 : W2.cell? ⟨w.heap.size, 2, none⟩ = some (.int .i64 c.elastic) := (HCb.out.grow HXc.out).cell 2
      have g3 : W2.cell? ⟨w.heap.size, 3, none⟩ = some (.int .i64 c.reach) := (HCb.out.grow HXc.out).cell 3
      have g4 : W2.cell? ⟨w.heap.size, 4, none⟩ = some (.int .i64 c.spread) := (HCb.out.grow HXc.out).cell 4
      have k0 : W2.cell? ⟨w.heap.size + 1, 0, none⟩ = some (.int .i64 k.turn) := (HKb.out.grow HXc.out).cell 0
      have k1 : W2.cell? ⟨w.heap.size + 1, 1, none⟩ = some (.int .i64 k.x0) := (HKb.out.grow HXc.out).cell 1
      have k2 : W2.cell? ⟨w.heap.size + 1, 2, none⟩ = some (.int .i64 k.y0) := (HKb.out.grow HXc.out).cell 2
      have k3 : W2.cell? ⟨w.heap.size + 1, 3, none⟩ = some (.int .i64 k.x1) := (HKb.out.grow HXc.out).cell 3
      have k4 : W2.cell? ⟨w.heap.size + 1, 4, none⟩ = some (.int .i64 k.y1) := (HKb.out.grow HXc.out).cell 4
      have i0 : W2.cell? ⟨gi, 0, none⟩ = some (.int .i64 k.turn) := HIc.out.cell 0
      have i1 : W2.cell? ⟨gi, 1, none⟩ = some (.int .i64 I.x0) := HIc.out.cell 1
      have i2 : W2.cell? ⟨gi, 2, none⟩ = some (.int .i64 I.y0) := HIc.out.cell 2
      have i3 : W2.cell? ⟨gi, 3, none⟩ = some (.int .i64 k.x1) := HIc.out.cell 3
      have i4 : W2.cell? ⟨gi, 4, none⟩ = some (.int .i64 k.y1) := HIc.out.cell 4
      have oC := Old.mk (HCb.out.grow HXc.out).lt
      have oK := Old.mk (HKb.out.grow HXc.out).lt
      have oI := Old.mk HIc.out.lt
      have fI := HIc.out.frozen
      refine wp_region_tail 12 (by kernel_rfl) (by kernel_rfl) ?_
      simp only [List.take_succ_cons, List.take_zero, List.drop_succ_cons, List.drop_zero]
      repeat still_step
      refine wpStill_nil ?_
      go_wp2_with fail
      obtain ⟨W3, hW3⟩ : ∃ W3, W3 = (W2.setCell ⟨gi, 3, none⟩ (.int .i64 I.x1)).drew := ⟨_, rfl⟩
      have HXd := Lib.hid (show Ext V W3 from by rw [hW3]; exact (HXc.out.setCell (p := ⟨gi, 3, none⟩) HG.out _).drew)
      have HId := Lib.hid (show Blk W3 gi 40 #[.int .i64 k.turn, .int .i64 I.x0, .int .i64 I.y0, .int .i64 I.x1, .int .i64 k.y1] from by rw [hW3]; exact (HIc.out.set_ 3 _).drew)
      rw [← hW3]
      clear hW3 HXc HIc
      clear g0 g1 g2 g3 g4 k0 k1 k2 k3 k4 i0 i1 i2 i3 i4 oC oK oI fI
      have g0 : W3.cell? ⟨w.heap.size, 0, none⟩ = some (.int .i64 c.turns) := (HCb.out.grow HXd.out).cell 0
      have g1 : W3.cell? ⟨w.heap.size, 1, none⟩ = some (.int .i64 c.shift) := (HCb.out.grow HXd.out).cell 1
      have g2 : W3.cell? ⟨w.heap.size, 2, none⟩ = some (.int .i64 c.elastic) := (HCb.out.grow HXd.out).cell 2
      have g3 : W3.cell? ⟨w.heap.size, 3, none⟩ = some (.int .i64 c.reach) := (HCb.out.grow HXd.out).cell 3
      have g4 : W3.cell? ⟨w.heap.size, 4, none⟩ = some (.int .i64 c.spread) := (HCb.out.grow HXd.out).cell 4
      have k0 : W3.cell? ⟨w.heap.size + 1, 0, none⟩ = some (.int .i64 k.turn) := (HKb.out.grow HXd.out).cell 0
      have k1 : W3.cell? ⟨w.heap.size + 1, 1, none⟩ = some (.int .i64 k.x0) := (HKb.out.grow HXd.out).cell 1
      have k2 : W3.cell? ⟨w.heap.size + 1, 2, none⟩ = some (.int .i64 k.y0) := (HKb.out.grow HXd.out).cell 2
      have k3 : W3.cell? ⟨w.heap.size + 1, 3, none⟩ = some (.int .i64 k.x1) := (HKb.out.grow HXd.out).cell 3
      have k4 : W3.cell? ⟨w.heap.size + 1, 4, none⟩ = some (.int .i64 k.y1) := (HKb.out.grow HXd.out).cell 4
      have i0 : W3.cell? ⟨gi, 0, none⟩ = some (.int .i64 k.turn) := HId.out.cell 0
      have i1 : W3.cell? ⟨gi, 1, none⟩ = some (.int .i64 I.x0) := HId.out.cell 1
      have i2 : W3.cell? ⟨gi, 2, none⟩ = some (.int .i64 I.y0) := HId.out.cell 2
      have i3 : W3.cell? ⟨gi, 3, none⟩ = some (.int .i64 I.x1) := HId.out.cell 3
      have i4 : W3.cell? ⟨gi, 4, none⟩ = some (.int .i64 k.y1) := HId.out.cell 4
      have oC := Old.mk (HCb.out.grow HXd.out).lt
      have oK := Old.mk (HKb.out.grow HXd.out).lt
      have oI := Old.mk HId.out.lt
      have fI := HId.out.frozen
      refine wp_region_tail 12 (by kernel_rfl) (by kernel_rfl) ?_
      simp only [List.take_succ_cons, List.take_zero, List.drop_succ_cons, List.drop_zero]
      repeat still_step
      refine wpStill_nil ?_
      go_wp2_with fail
      obtain ⟨W4, hW4⟩ : ∃ W4, W4 = (W3.setCell ⟨gi, 4, none⟩ (.int .i64 I.y1)).drew := ⟨_, rfl⟩
      have HXe := Lib.hid (show Ext V W4 from by rw [hW4]; exact (HXd.out.setCell (p := ⟨gi, 4, none⟩) HG.out _).drew)
      have HIe := Lib.hid (show Blk W4 gi 40 #[.int .i64 k.turn, .int .i64 I.x0, .int .i64 I.y0, .int .i64 I.x1, .int .i64 I.y1] from by rw [hW4]; exact (HId.out.set_ 4 _).drew)
      rw [← hW4]
      clear hW4 HXd HId g0 g1 g2 g3 g4 k0 k1 k2 k3 k4 i0 i1 i2 i3 i4 oC oK oI fI hn1 hn2 hn3 hn4
      have HEe := Lib.hid (HE2.out.trans HXe.out)
      refine Calls.ext (CB2.out _ _ _ _ _ (HP.out.grow HEe.out) (HQ.out.grow HEe.out)) fun z3 => ?_
      have HEf := Lib.hid (HEe.out.ext z3)
      have HCf := Lib.hid ((HCb.out.grow HXe.out).ext z3)
      have HKf := Lib.hid ((HKb.out.grow HXe.out).ext z3)
      have HBf := Lib.hid ((HBb.out.grow HXe.out).ext z3)
      have HIf := Lib.hid (HIe.out.ext z3)
      clear HXe HIe HCb HKb HBb HE2 HEe HX0 HG
      generalize ext W4 z3 = W5 at *
      have g0 : W5.cell? ⟨w.heap.size, 0, none⟩ = some (.int .i64 c.turns) := HCf.out.cell 0
      have g1 : W5.cell? ⟨w.heap.size, 1, none⟩ = some (.int .i64 c.shift) := HCf.out.cell 1
      have g2 : W5.cell? ⟨w.heap.size, 2, none⟩ = some (.int .i64 c.elastic) := HCf.out.cell 2
      have g3 : W5.cell? ⟨w.heap.size, 3, none⟩ = some (.int .i64 c.reach) := HCf.out.cell 3
      have g4 : W5.cell? ⟨w.heap.size, 4, none⟩ = some (.int .i64 c.spread) := HCf.out.cell 4
      have k0 : W5.cell? ⟨w.heap.size + 1, 0, none⟩ = some (.int .i64 k.turn) := HKf.out.cell 0
      have i1 : W5.cell? ⟨gi, 1, none⟩ = some (.int .i64 I.x0) := HIf.out.cell 1
      have i2 : W5.cell? ⟨gi, 2, none⟩ = some (.int .i64 I.y0) := HIf.out.cell 2
      have oC := Old.mk HCf.out.lt
      have oK := Old.mk HKf.out.lt
      have oI := Old.mk HIf.out.lt
      go_wp2_with fail
      have hE6 := HEf.out.alloc (.cells #[.int .i64 k.turn, .int .i64 I.x0, .int .i64 I.y0] 26)
      refine Calls.ext (CT.out _ _ _ _ _ (HP.out.grow hE6) (HQ.out.grow hE6)) fun z4 => ?_
      have HE7 := Lib.hid (hE6.ext z4)
      have HC7 := Lib.hid ((HCf.out.alloc (.cells #[.int .i64 k.turn, .int .i64 I.x0, .int .i64 I.y0] 26)).ext z4)
      have HB7 := Lib.hid ((HBf.out.alloc (.cells #[.int .i64 k.turn, .int .i64 I.x0, .int .i64 I.y0] 26)).ext z4)
      have HV7 := Lib.hid ((Blk.new W5 26 #[.int .i64 k.turn, .int .i64 I.x0, .int .i64 I.y0]).ext z4)
      clear g0 g1 g2 g3 g4 k0 i1 i2 oC oK oI HCf HKf HIf HBf HEf hE6
      generalize ext (W5.alloc (.cells #[.int .i64 k.turn, .int .i64 I.x0, .int .i64 I.y0] 26)) z4 = W6 at *
      generalize W5.heap.size = gv at *
      have g0 : W6.cell? ⟨w.heap.size, 0, none⟩ = some (.int .i64 c.turns) := HC7.out.cell 0
      have g1 : W6.cell? ⟨w.heap.size, 1, none⟩ = some (.int .i64 c.shift) := HC7.out.cell 1
      have g2 : W6.cell? ⟨w.heap.size, 2, none⟩ = some (.int .i64 c.elastic) := HC7.out.cell 2
      have g3 : W6.cell? ⟨w.heap.size, 3, none⟩ = some (.int .i64 c.reach) := HC7.out.cell 3
      have g4 : W6.cell? ⟨w.heap.size, 4, none⟩ = some (.int .i64 c.spread) := HC7.out.cell 4
      have b0 : W6.cell? ⟨w.heap.size + 1 + 1, 0, none⟩ = some (.int .i64 b.a) := HB7.out.cell 0
      have b1 : W6.cell? ⟨w.heap.size + 1 + 1, 1, none⟩ = some (.int .i64 b.b) := HB7.out.cell 1
      have b2 : W6.cell? ⟨w.heap.size + 1 + 1, 2, none⟩ = some (.int .i64 b.c) := HB7.out.cell 2
      have b3 : W6.cell? ⟨w.heap.size + 1 + 1, 3, none⟩ = some (.int .i64 b.d) := HB7.out.cell 3
      have v0 : W6.cell? ⟨gv, 0, none⟩ = some (.int .i64 k.turn) := HV7.out.cell 0
      have v1 : W6.cell? ⟨gv, 1, none⟩ = some (.int .i64 I.x0) := HV7.out.cell 1
      have v2 : W6.cell? ⟨gv, 2, none⟩ = some (.int .i64 I.y0) := HV7.out.cell 2
      have oC := Old.mk HC7.out.lt
      have oB := Old.mk HB7.out.lt
      have oV := Old.mk HV7.out.lt
      have q1 : decide (nk < mI) = false := by have := HLE.out.1; simp; omega
      have q2 : decide (mI < us) = false := by have := HLE.out.2.1; simp; omega
      have q3 : decide ((if lq.length < lp.length then ((lq.length : Nat) : Int) else ((lp.length : Nat) : Int)) < nk) = false := by have := HLE.out.2.2; simp; split <;> omega
      have hq26 := eq26 HWF.out.1 HWF.out.2.1 HWF.out.2.2
      go_wp2_with fail
      all_goals
        have HE8 := Lib.hid (HE7.out.alloc (.cells #[.int .i64 k.turn, .int .i64 I.x0, .int .i64 I.y0, .int .i64 ua, .int .i64 ub, .int .i64 uc, .int .i64 ud, .int .i64 us] 46))
        cases hb : isBend c.elastic b.f
        · have CS := Lib.hid (HS2.out hb)
          rw [hb] at CI
          clear HS1 HS2 hb
          refine Calls.ext (CS.out _ _ _ _ _ (HP.out.grow HE8.out) (HQ.out.grow HE8.out)) fun z5 => ?_
          go_wp2_with fail
          refine Calls.ext (CI.out _) fun z6 => ?_
          go_wp2_with fail
          go_ret
          exact ⟨rfl, (HE8.out.ext z5).ext z6⟩
        · have CS := Lib.hid (HS1.out hb).1
          have q4 : decide (sc ≤ us) = true := by have := (HS1.out hb).2; simpa using this
          rw [hb] at CI
          clear HS1 HS2 hb
          refine Calls.ext (CS.out _ _ _ _ _ (HP.out.grow HE8.out) (HQ.out.grow HE8.out)) fun z5 => ?_
          go_wp2_with fail
          refine Calls.ext (CI.out _) fun z6 => ?_
          go_wp2_with fail
          go_ret
          exact ⟨rfl, (HE8.out.ext z5).ext z6⟩
    · have CB := Lib.hid (fun A A' n n' w h1 h2 => Bound_any c lp lq k hp hq hnp hnq A A' n n' w h1 h2)
      obtain ⟨e, he, hT⟩ := bound_err hok
      rw [hT] at CB
      clear hT hok hp hq hx hy hu hh
      go_enter Try.func16, Try.ntmps16
      go_wp2_with fail
      refine Calls.ext (CA.out _) fun z1 => ?_
      go_wp2_with fail
      have hE1 := hE0.ext z1
      refine Calls.ext (CB.out _ _ _ _ _ (HP.out.grow hE1) (HQ.out.grow hE1)) fun z2 => ?_
      go_wp2_with fail
      go_ret
      exact ⟨rfl, hE1.ext z2⟩
  · by_cases hnp : lp.length ≤ 100
    · have hnp' : ((lp.length : Nat) : Int) ≤ 100 := by omega
      have hnq' : (100 : Int) < ((lq.length : Nat) : Int) := by omega
      clear hn hp hq
      go_enter Try.func16, Try.ntmps16
      go_wp2_with fail
      refine Calls.ext (CA.out _) fun z1 => ?_
      go_wp2_with fail
      go_ret
      exact ⟨rfl, hE0.ext z1⟩
    · have hnp' : (100 : Int) < ((lp.length : Nat) : Int) := by omega
      clear hn hp hq
      go_enter Try.func16, Try.ntmps16
      go_wp2_with fail
      refine Calls.ext (CA.out _) fun z1 => ?_
      go_wp2_with fail
      go_ret
      exact ⟨rfl, hE0.ext z1⟩
set_option maxRecDepth 100000 in
theorem alignBounds_lifted (os : Os) (started : os.Started) (H : Type) (enc : TypeId × Value → H) :
    ReturnsInHanded {} Try.checked os 16 .any (Rows.alignBoundsSpec.pre6 enc Try.prog Try.f16 Rows.alignBoundsRow.domain false) (Rows.alignBoundsSpec.post enc Try.prog Try.f16 false true false false) := by
  refine returnsInHanded_of_change (C := Try.checked) own started (by kernel_rfl) Try.func16
    (ChangeSpec.witness6 (enc := enc) (C := Try.checked) false ⟨#[], #[.slice none 0 0, .slice none 0 0, .agg #[.int .i64 0, .int .i64 0, .int .i64 0, .int .i64 0, .int .i64 0], .agg #[.int .i64 0, .int .i64 0, .int .i64 0, .int .i64 0, .int .i64 0], .agg (Array.replicate 4 (.int .i64 0)), .int .u8 0, .int .u8 0, .int .u8 0, .int .u8 0], []⟩ 8 (by kernel_rfl) (by kernel_rfl) (by kernel_rfl) (by kernel_rfl)) ?_
  intro W base args ds gs before hval0 hW hcnd _
  have hval : ∀ (j : Nat) t v, Try.f16.params[j]? = some t → args[j]? = some v → Value.okWide Try.prog W .any base t v := hval0
  have hW' := hW
  obtain ⟨p, q, hA0, hV, rfl, hfz, hnd⟩ := hW
  have hA : DataW.TrodAll enc Try.prog W 0 (fun _ => true) true Try.f16.params.toList args.toList ds p := hA0
  rw [Try.params16] at hA hval
  obtain ⟨v0, vs0, d0, ds0, p0, q0, hargs, rfl, rfl, h0, r0⟩ := trodAll_cons hA
  obtain ⟨v1, vs1, d1, ds1, p1, q1, rfl, rfl, rfl, h1, r1⟩ := trodAll_cons r0
  obtain ⟨v2, vs2, d2, ds2, p2, q2, rfl, rfl, rfl, h2, r2⟩ := trodAll_cons r1
  obtain ⟨v3, vs3, d3, ds3, p3, q3, rfl, rfl, rfl, h3, r3⟩ := trodAll_cons r2
  obtain ⟨v4, vs4, d4, ds4, p4, q4, rfl, rfl, rfl, h4, r4⟩ := trodAll_cons r3
  obtain ⟨v5, vs5, d5, ds5, p5, q5, rfl, rfl, rfl, h5, r5⟩ := trodAll_cons r4
  obtain ⟨v6, vs6, d6, ds6, p6, q6, rfl, rfl, rfl, h6, r6⟩ := trodAll_cons r5
  obtain ⟨v7, vs7, d7, ds7, p7, q7, rfl, rfl, rfl, h7, r7⟩ := trodAll_cons r6
  obtain ⟨v8, vs8, d8, ds8, p8, q8, rfl, rfl, rfl, h8, r8⟩ := trodAll_cons r7
  obtain ⟨rfl, rfl, rfl⟩ := trodAll_nil r8
  obtain rfl : args = #[v0, v1, v2, v3, v4, v5, v6, v7, v8] := by cases args; simp_all
  obtain ⟨rfl, rfl⟩ := trodVars_none hV
  have k0 := h0
  have lt0 : ∀ x ∈ p0, x.block < W.heap.size := by obtain ⟨m, hm⟩ := k0; exact DataW.trod_lt m _ _ _ hm
  obtain ⟨A0, rows0, cap0, rfl, hlc0, hcm0, hwf0, hrow0⟩ := open_rows (ks := [.i64, .i64, .u8, .u8]) Try.underlying22 Try.underlying24 (by kernel_rfl) (by kernel_rfl) (kindsOf_of (by kernel_rfl)) (by decide) (hval 0 22 v0 rfl rfl) h0
  have k1 := h1
  have lt1 : ∀ x ∈ p1, x.block < W.heap.size := by obtain ⟨m, hm⟩ := k1; exact DataW.trod_lt m _ _ _ hm
  obtain ⟨A1, rows1, cap1, rfl, hlc1, hcm1, hwf1, hrow1⟩ := open_rows (ks := [.i64, .i64, .u8, .u8]) Try.underlying22 Try.underlying24 (by kernel_rfl) (by kernel_rfl) (kindsOf_of (by kernel_rfl)) (by decide) (hval 1 22 v1 rfl rfl) h1
  have k2 := h2
  have lt2 : ∀ x ∈ p2, x.block < W.heap.size := by obtain ⟨m, hm⟩ := k2; exact DataW.trod_lt m _ _ _ hm
  obtain ⟨ns2, hl2, hv2, wf2⟩ := open_nums (ks := [.i64, .i64, .i64, .i64, .i64]) Try.underlying38 (by kernel_rfl) (by kernel_rfl) (kindsOf_of (by kernel_rfl)) (hval 2 38 v2 rfl rfl) h2
  have k3 := h3
  have lt3 : ∀ x ∈ p3, x.block < W.heap.size := by obtain ⟨m, hm⟩ := k3; exact DataW.trod_lt m _ _ _ hm
  obtain ⟨ns3, hl3, hv3, wf3⟩ := open_nums (ks := [.i64, .i64, .i64, .i64, .i64]) Try.underlying40 (by kernel_rfl) (by kernel_rfl) (kindsOf_of (by kernel_rfl)) (hval 3 40 v3 rfl rfl) h3
  have k4 := h4
  have lt4 : ∀ x ∈ p4, x.block < W.heap.size := by obtain ⟨m, hm⟩ := k4; exact DataW.trod_lt m _ _ _ hm
  obtain ⟨ns4, hl4, hv4, wf4⟩ := open_flat (ks := (List.replicate 4 .i64)) (by kernel_rfl) (hval 4 28 v4 rfl rfl)
  have k5 := h5
  have lt5 : ∀ x ∈ p5, x.block < W.heap.size := by obtain ⟨m, hm⟩ := k5; exact DataW.trod_lt m _ _ _ hm
  obtain ⟨a5, rfl, _, _, w5⟩ := open_int Try.underlying5 (hval 5 5 v5 rfl rfl) h5
  have k6 := h6
  have lt6 : ∀ x ∈ p6, x.block < W.heap.size := by obtain ⟨m, hm⟩ := k6; exact DataW.trod_lt m _ _ _ hm
  obtain ⟨a6, rfl, _, _, w6⟩ := open_int Try.underlying5 (hval 6 5 v6 rfl rfl) h6
  have k7 := h7
  have lt7 : ∀ x ∈ p7, x.block < W.heap.size := by obtain ⟨m, hm⟩ := k7; exact DataW.trod_lt m _ _ _ hm
  obtain ⟨a7, rfl, _, _, w7⟩ := open_int Try.underlying5 (hval 7 5 v7 rfl rfl) h7
  have k8 := h8
  have lt8 : ∀ x ∈ p8, x.block < W.heap.size := by obtain ⟨m, hm⟩ := k8; exact DataW.trod_lt m _ _ _ hm
  obtain ⟨a8, rfl, _, _, w8⟩ := open_int Try.underlying5 (hval 8 5 v8 rfl rfl) h8
  clear hA0 hval0
  obtain ⟨l0, hr0, hp0, hk0, hc0⟩ := pts_of_rows hwf0 hrow0 hlc0
  obtain ⟨l1, hr1, hp1, hk1, hc1⟩ := pts_of_rows hwf1 hrow1 hlc1
  obtain ⟨c2, hcl2⟩ := cl_of hl2
  rw [hcl2] at hv2
  subst hv2
  obtain ⟨kb3, hkb3⟩ := bk_of hl3
  rw [hkb3] at hv3
  subst hv3
  obtain ⟨bd4, hbd4⟩ := bend_of hl4
  rw [hbd4] at hv4
  subst hv4
  refine (hr0 ▸ hr1 ▸ alignBounds_walk A0 A1 cap0 cap1 l0 l1 c2 kb3 ⟨bd4 0, bd4 1, bd4 2, bd4 3⟩ a5 a6 a7 a8 W hp0 hp1 hk0 hk1 (u8_in w5) (u8_in w6) (u8_in w7) (u8_in w8)).mono fun e W' ⟨he, bel⟩ => ?_
  subst he
  exact ⟨_, rfl, _, _, _, [], _, [], hW', trodAll_mk1 (shut_bool Try.underlying4 _), (trodAll_cons_mk (Below.trod laidOut (by kernel_rfl) (of_decide_eq_true (by kernel_rfl)) k0 bel lt0) (trodAll_cons_mk (Below.trod laidOut (by kernel_rfl) (of_decide_eq_true (by kernel_rfl)) k1 bel lt1) (trodAll_cons_mk (Below.trod laidOut (by kernel_rfl) (of_decide_eq_true (by kernel_rfl)) k2 bel lt2) (trodAll_cons_mk (Below.trod laidOut (by kernel_rfl) (of_decide_eq_true (by kernel_rfl)) k3 bel lt3) (trodAll_cons_mk (Below.trod laidOut (by kernel_rfl) (of_decide_eq_true (by kernel_rfl)) k4 bel lt4) (trodAll_cons_mk (Below.trod laidOut (by kernel_rfl) (of_decide_eq_true (by kernel_rfl)) k5 bel lt5) (trodAll_cons_mk (Below.trod laidOut (by kernel_rfl) (of_decide_eq_true (by kernel_rfl)) k6 bel lt6) (trodAll_cons_mk (Below.trod laidOut (by kernel_rfl) (of_decide_eq_true (by kernel_rfl)) k7 bel lt7) (trodAll_cons_mk (Below.trod laidOut (by kernel_rfl) (of_decide_eq_true (by kernel_rfl)) k8 bel lt8) trodAll_mk0))))))))), rfl, Below.frame bel _, fun h => by cases h⟩

theorem alignBounds_holds : Rows.AlignBoundsSaid :=
  OpenClaim.holds_of_wide 16 Try.f16 rfl rfl rfl rfl rfl rfl rfl ⟨rfl, rfl, rfl, rfl, rfl⟩ rfl rfl rfl rfl rfl (by kernel_rfl) Try.func16 (by kernel_rfl)
    (of_decide_eq_true (by kernel_rfl)) (by unfold Func.isWrapper; first | (rw [if_pos (by decide +kernel)]; kernel_rfl) | (rw [if_neg (by decide +kernel)]; exact ⟨rfl, rfl⟩))
    (fun os started H enc _ => alignBounds_lifted os started H enc)
end Go.Proofs.Ythejomcibobieaa
