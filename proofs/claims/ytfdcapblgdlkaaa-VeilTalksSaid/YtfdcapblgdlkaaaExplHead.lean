/- The deal that explains another word. -/
import Derived.Test.YtfdcapblgdlkaaaPlayed
import Derived.Test.YtfdcapblgdlkaaaEq
namespace Go.Proofs.Ytfdcapblgdlkaaa
open Go.RowKit

def Z78 : Array Value := #[.int .u8 0, .int .u8 0, .int .u8 0, .int .u8 0, .int .u8 0, .int .u8 0, .int .u8 0, .int .u8 0, .int .u8 0, .int .u8 0, .int .u8 0, .int .u8 0, .int .u8 0, .int .u8 0, .int .u8 0, .int .u8 0, .int .u8 0, .int .u8 0, .int .u8 0, .int .u8 0, .int .u8 0, .int .u8 0, .int .u8 0, .int .u8 0, .int .u8 0, .int .u8 0, .int .u8 0, .int .u8 0, .int .u8 0, .int .u8 0, .int .u8 0, .int .u8 0, .int .u8 0, .int .u8 0, .int .u8 0, .int .u8 0, .int .u8 0, .int .u8 0, .int .u8 0, .int .u8 0, .int .u8 0, .int .u8 0, .int .u8 0, .int .u8 0, .int .u8 0, .int .u8 0, .int .u8 0, .int .u32 0, .int .u32 0, .int .u32 0, .int .u32 0, .int .u32 0, .int .u32 0, .int .u32 0, .int .u32 0, .int .u32 0, .int .u32 0, .int .u32 0, .int .u32 0, .int .u32 0, .int .u32 0, .int .u32 0, .int .u32 0, .int .u32 0, .int .u32 0, .int .u32 0, .int .u32 0, .int .u32 0, .int .u32 0, .int .u32 0, .int .u32 0, .int .u32 0, .int .u32 0, .int .u32 0, .int .u32 0, .int .u32 0, .int .u32 0, .int .u32 0]
theorem z78_size (d : Dl) : Z78.size = d.cells.size := by rw [Dl.size]; rfl
theorem z78_one : Z78.all (·.oneCell') = true := by kernel_rfl
theorem info42z : (Try.prog.info? 42).map (·.size) = some Z78.size := by kernel_rfl
theorem build42y (w : World) : (Instr.build 42 (([] : List (Nat × Value)).toArray)).run Try.prog w = .ok (.agg Z78) w := by kernel_rfl
def mx (a b : Int) : Int := if b > a then b else a
theorem mx_max (a b : Int) : mx a b = max a b := by unfold mx; omega
theorem run_max3 {P : Program} (ts : Array TypeId) (T : TypeId) (k : IntKind) (a b c : Int) (w : World) : (Builtin.max_ ts T #[.int k a, .int k b, .int k c]).run P w = .ok (.int k (mx (mx a b) c)) w := by
  simp [Builtin.max_, Builtin.max2, mx]
theorem wpList_max3 {P : Program} {ops : Array Oper} {rest : List Oper} {o : Oper} {a : Act} {w : World} {Q : Exit → Act → World → Prop} (hgd : o.guard = none) (x y z : Operand) (ts : Array TypeId) (ho : o.op = .call { callee := .builtin .max, args := #[x, y, z], argTypes := ts })
    (k : IntKind) (p q r : Int) (hx : a.eval x = .int k p) (hy : a.eval y = .int k q) (hz : a.eval z = .int k r) (h : wpList P ops Q rest (a.put o.dst (.int k (mx (mx p q) r))) w) : wpList P ops Q (o :: rest) a w :=
  wpList_plain hgd fun _ hK => by
    unfold Oper.wp execOp
    simp only [ho, resolve, invoke, builtin, Sem.run_bind, Sem.run_pure, Result.andThen_ok, List.map_toArray, List.map_cons, List.map_nil, hx, hy, hz, run_max3]
    exact hK _ _ h
theorem dl_one {d : Dl} : d.cells.all (·.oneCell') = true := by
  unfold Dl.cells
  rw [Array.all_append, Array.all_append, Array.all_append, Array.all_append, A15_one, A15_one, A15_one, A31_one]
  simp [Value.oneCell']
theorem dl_eq {d d' : Dl} (j : Nat) (h1 : 15 ≤ j ∨ d.a = d'.a) (h2 : j < 15 ∨ 30 ≤ j ∨ d.b = d'.b) (h3 : j < 30 ∨ 45 ≤ j ∨ d.u = d'.u) (h4 : j ≠ 45 ∨ d.rc = d'.rc) (h5 : j ≠ 46 ∨ d.rs = d'.rs) (h6 : j < 47 ∨ d.t = d'.t) : d.cells[j]? = d'.cells[j]? := by
  rcases Nat.lt_or_ge j 15 with h | h
  · rw [Dl.at_a _ j h, Dl.at_a _ j h, h1.resolve_left (by omega)]
  · rcases Nat.lt_or_ge j 30 with h' | h'
    · obtain ⟨i, rfl⟩ : ∃ i, j = 15 + i := ⟨j - 15, by omega⟩
      rw [Dl.at_b _ i (by omega), Dl.at_b _ i (by omega), (h2.resolve_left (by omega)).resolve_left (by omega)]
    · rcases Nat.lt_or_ge j 45 with h'' | h''
      · obtain ⟨i, rfl⟩ : ∃ i, j = 30 + i := ⟨j - 30, by omega⟩
        rw [Dl.at_u _ i (by omega), Dl.at_u _ i (by omega), (h3.resolve_left (by omega)).resolve_left (by omega)]
      · by_cases e : j = 45
        · subst e; rw [Dl.at_rc, Dl.at_rc, h4.resolve_left (by omega)]
        · by_cases e2 : j = 46
          · subst e2; rw [Dl.at_rs, Dl.at_rs, h5.resolve_left (by omega)]
          · rcases Nat.lt_or_ge j 78 with h7 | h7
            · obtain ⟨i, rfl⟩ : ∃ i, j = 47 + i := ⟨j - 47, by omega⟩
              rw [Dl.at_t _ i (by omega), Dl.at_t _ i (by omega), h6.resolve_left (by omega)]
            · rw [Array.getElem?_eq_none (by rw [Dl.size]; omega), Array.getElem?_eq_none (by rw [Dl.size]; omega)]
theorem dl_ext {w : World} {g : Nat} {t : TypeId} {c : Array Value} {d : Dl} (h : Blk w g t c) (he : ∀ j : Nat, c[j]? = d.cells[j]?) : Blk w g t d.cells := by
  have : c = d.cells := Array.ext_getElem? he
  rw [← this]; exact h
/-- an array is stored into a part of a block -/
theorem wpList_store_sub {P : Program} {ops : Array Oper} {rest : List Oper} {o : Oper} {a : Act} {w : World} {Q : Exit → Act → World → Prop} (hgd : o.guard = none) (ty : TypeId) (x y : Operand) (ho : o.op = .store ty x y) (g off : Nat) (hx : a.eval x = .pointer (some ⟨g, off, none⟩)) (n : Nat) (f : Nat → Value) (hy : a.eval y = .agg (valL n f).toArray) (hi : (P.info? ty).map (·.size) = some n)
    (hone : ∀ j, j < n → (f j).oneCell' = true) (t : TypeId) (cur fin : Array Value) (hB : Blk w g t cur) (hsz : cur.size = fin.size) (hin : ∀ j, j < n → fin[off + j]? = some (f j)) (hout : ∀ j : Nat, (j < off ∨ off + n ≤ j) → fin[j]? = cur[j]?) (hlen : off + n ≤ fin.size)
    (h : wpList P ops Q rest (a.put o.dst undef) (w.setRow g fin)) : wpList P ops Q (o :: rest) a w :=
  wpList_plain hgd fun _ hK => by
    have hone' : ∀ v ∈ valL n f, v.oneCell' = true := by
      intro v hv'
      obtain ⟨j, hj, rfl⟩ := List.mem_map.1 hv'
      exact hone j (List.mem_range.1 hj)
    have hs := run_storeCells_at (P := P) g off t (valL n f) 0 cur w hB (by rw [valL_len]; omega) hone'
    rw [Nat.add_zero, valL_len] at hs
    have hst : (storeVar ty ⟨g, off, none⟩ (.agg (valL n f).toArray)).run P w = .ok () (w.setRow g (cur.toList.take off ++ valL n f ++ cur.toList.drop (off + n)).toArray) := by
      cases hq : P.info? ty with
      | none => simp [hq] at hi
      | some inf =>
        have hs2 : inf.size = n := by simp [hq] at hi; omega
        simp [storeVar, sizeOf, typeInfo, hq, Value.cells, hs2, valL_len, hs]
    have hat : (cur.toList.take off ++ valL n f ++ cur.toList.drop (off + n)).toArray = fin := by
      apply Array.ext_getElem?
      intro j
      have hlt : (cur.toList.take off).length = off := by simp; omega
      simp only [List.getElem?_toArray, List.append_assoc]
      rcases Nat.lt_or_ge j off with h1 | h1
      · rw [List.getElem?_append_left (by omega), List.getElem?_take, if_pos h1, hout j (.inl h1)]; simp
      · rcases Nat.lt_or_ge j (off + n) with h2 | h2
        · rw [List.getElem?_append_right (by omega), List.getElem?_append_left (by rw [valL_len]; omega), hlt, valL_at _ _ _ (by omega), ← hin (j - off) (by omega)]
          congr 1; omega
        · rw [List.getElem?_append_right (by omega), List.getElem?_append_right (by rw [valL_len]; omega), hlt, valL_len, List.getElem?_drop, hout j (.inr h2)]
          simp only [Array.getElem?_toList]
          congr 1; omega
    unfold Oper.wp execOp
    simp only [ho, hx, hy, Sem.run_bind, Instr.storeAt, Instr.sureAddr, Sem.run_pure, Result.andThen, hst, hat]
    exact hK _ _ h
theorem rel_neq_row {P : Program} {Q : Exit → Act → World → Prop} {V : Nat → Value → World → Prop} {i : Nat} {o : Oper} {a : Act} {w : World} (T : TypeId) (x y : Operand) (ho : o.op = .binOp .neq T x y T) (c c' : Array Value) (hx : a.eval x = .agg c) (hy : a.eval y = .agg c')
    (hm : P.eqGuardType P.depth T = false) (b : Bool) (he : ∀ w, (Op.equalIn 10000 T (.agg c) (.agg c')).run P w = .ok b w) (hv : V i (.bool !b) w) : o.wp P a w (fun a' w' => ∃ v, a' = a.put o.dst v ∧ V i v w' ∧ Ext w w') Q := by
  refine rel_val (v := .bool !b) ?_ hv
  unfold execOp
  simp only [ho, hx, hy]
  simp [go_sem, hm, he]
theorem rel_row {P : Program} {Q : Exit → Act → World → Prop} {V : Nat → Value → World → Prop} {i : Nat} {o : Oper} {a : Act} {w : World} (ty : TypeId) (x : Operand) (ho : o.op = .load ty x) (b : Nat) (hx : a.eval x = .pointer (some ⟨b, 0, none⟩)) (v : TypeId) (cs : Array Value) (td : TypeDesc) (hB : Blk w b v cs)
    (hu : P.underlying ty = some td) (htd : (match td with | .struct _ | .array _ _ => true | _ => false) = true) (hi : (P.info? ty).map (·.size) = some cs.size) (hv : V i (.agg cs) w) : o.wp P a w (fun a' w' => ∃ v, a' = a.put o.dst v ∧ V i v w' ∧ Ext w w') Q := by
  refine rel_val (v := .agg cs) ?_ hv
  unfold execOp
  simp only [ho, hx, Instr.loadAt, Instr.sureAddr, Sem.run_bind, Sem.run_pure, Result.andThen_ok, run_loadVar_row w b v ty cs (0, 0) td hB hu htd hi]
theorem eg29 : Try.prog.eqGuardType Try.prog.depth 29 = false := by kernel_rfl
theorem tlk_ext {t u : Tlk} (h1 : t.d = u.d) (h2 : t.e = u.e) (h3 : t.c = u.c) (h4 : t.s = u.s) (h5 : t.l = u.l) (h6 : t.r = u.r) (h7 : t.m = u.m) : t = u := by
  cases t; cases u; simp_all
def rsB (d : Dl) (lim : Int) (x y o : BitVec 16) : Int := (d.rs + sayS (ptyP d) (ptyQ d lim) x y - sayS (ptyP (d1B d y o)) (ptyQ (d1B d y o) lim) x o) % 31
def explV (b : Bool) (c : Array Value) : Value := if b = true then .tuple #[.agg c, .int .i64 0] else .tuple #[.agg Z78, .int .i64 2]
theorem explV_f (c : Array Value) : explV false c = .tuple #[.agg Z78, .int .i64 2] := rfl
theorem explV_t (c : Array Value) : explV true c = .tuple #[.agg c, .int .i64 0] := rfl
theorem outB_eq (d : Dl) (lim : Int) (x y o : BitVec 16) : Dl.mk d.a (d1B d y o).b d.u d.rc (rsB d lim x y o) d.t = outB d lim x y o := by unfold outB rsB; rfl
theorem outA_eq (d : Dl) (lim : Int) (x y o : BitVec 16) : Dl.mk (d1A d x o).a d.b (d1A d x o).u (rcA d lim x y o) d.rs (tabO (ptyQ d lim).t (rcA d lim x y o) d.rs lim) = outA d lim x y o := by unfold outA ptyQ; rfl
theorem rcA_in (d : Dl) (lim : Int) (x y o : BitVec 16) : 0 ≤ rcA d lim x y o ∧ rcA d lim x y o < 256 := by unfold rcA; omega
theorem rsB_in (d : Dl) (lim : Int) (x y o : BitVec 16) : 0 ≤ rsB d lim x y o ∧ rsB d lim x y o < 256 := by unfold rsB; omega
theorem fine_d1A {d : Dl} (h : d.fine) (x o : BitVec 16) : (d1A d x o).fine := ⟨fun i _ => by show 0 ≤ (d.a i + bitI o i - bitI x i) % 31 ∧ (d.a i + bitI o i - bitI x i) % 31 < 31; omega, h.b, fun i _ => by
  show 0 ≤ ((d.a i + bitI o i - bitI x i) % 31 * d.b i - (d.a i * d.b i - d.u i) % 31) % 31 ∧ ((d.a i + bitI o i - bitI x i) % 31 * d.b i - (d.a i * d.b i - d.u i) % 31) % 31 < 31
  generalize (d.a i + bitI o i - bitI x i) % 31 * d.b i = e
  generalize (d.a i * d.b i - d.u i) % 31 = f
  omega, h.rc, h.rs, h.t⟩
theorem fine_d1B {d : Dl} (h : d.fine) (y o : BitVec 16) : (d1B d y o).fine := ⟨h.a, fun i _ => by show 0 ≤ (d.b i + bitI o i - bitI y i) % 31 ∧ (d.b i + bitI o i - bitI y i) % 31 < 31; omega, h.u, h.rc, h.rs, h.t⟩
theorem fine_outA {d : Dl} (h : d.fine) (lim : Int) (x y o : BitVec 16) : (outA d lim x y o).fine := by
  have h1 := fine_d1A h x o
  refine ⟨h1.a, h1.b, h1.u, ?_, h1.rs, fun i hi => tabO_fine _ _ _ i (tabO_fine _ _ _ i (h.t i hi))⟩
  show 0 ≤ rcA d lim x y o ∧ rcA d lim x y o < 31
  unfold rcA; omega
theorem fine_outB {d : Dl} (h : d.fine) (lim : Int) (x y o : BitVec 16) : (outB d lim x y o).fine := by
  have h1 := fine_d1B h y o
  refine ⟨h1.a, h1.b, h1.u, h1.rc, ?_, h1.t⟩
  show 0 ≤ (d.rs + sayS (ptyP d) (ptyQ d lim) x y - sayS (ptyP (d1B d y o)) (ptyQ (d1B d y o) lim) x o) % 31 ∧ (d.rs + sayS (ptyP d) (ptyQ d lim) x y - sayS (ptyP (d1B d y o)) (ptyQ (d1B d y o) lim) x o) % 31 < 31
  omega
theorem outA_same {d : Dl} (h : d.fine) (lim : Int) (x y o : BitVec 16) (hm : decide (farS x y ≤ lim) = decide (farS o y ≤ lim)) : talkOf (ptyP (outA d lim x y o)) (ptyQ (outA d lim x y o) lim) o y = talkOf (ptyP d) (ptyQ d lim) x y := by
  obtain ⟨h1, h2, h3, h4, h5, -⟩ := outA_law d lim x y o
  have m1 := match_law (outA d lim x y o) (fine_outA h lim x y o).ok lim o y
  have m2 := match_law d h.ok lim x y
  have hmm : (talkOf (ptyP (outA d lim x y o)) (ptyQ (outA d lim x y o) lim) o y).m = (talkOf (ptyP d) (ptyQ d lim) x y).m := by rw [m1, m2, hm]
  refine tlk_ext h1 h2 h3 h4 ?_ h5 hmm
  have e1 : (talkOf (ptyP (outA d lim x y o)) (ptyQ (outA d lim x y o) lim) o y).m = ((talkOf (ptyP (outA d lim x y o)) (ptyQ (outA d lim x y o) lim) o y).l != (talkOf (ptyP (outA d lim x y o)) (ptyQ (outA d lim x y o) lim) o y).r) := rfl
  have e2 : (talkOf (ptyP d) (ptyQ d lim) x y).m = ((talkOf (ptyP d) (ptyQ d lim) x y).l != (talkOf (ptyP d) (ptyQ d lim) x y).r) := rfl
  rw [e1, e2, h5] at hmm
  generalize (talkOf (ptyP (outA d lim x y o)) (ptyQ (outA d lim x y o) lim) o y).l = l1 at *
  generalize (talkOf (ptyP d) (ptyQ d lim) x y).l = l2 at *
  generalize (talkOf (ptyP d) (ptyQ d lim) x y).r = r2 at *
  revert hmm
  cases l1 <;> cases l2 <;> cases r2 <;> decide
theorem outB_same {d : Dl} (h : d.fine) (lim : Int) (x y o : BitVec 16) (hm : decide (farS x y ≤ lim) = decide (farS x o ≤ lim)) : talkOf (ptyP (outB d lim x y o)) (ptyQ (outB d lim x y o) lim) x o = talkOf (ptyP d) (ptyQ d lim) x y := by
  obtain ⟨h1, h2, h3, h4, h5⟩ := outB_law d lim x y o
  have m1 := match_law (outB d lim x y o) (fine_outB h lim x y o).ok lim x o
  have m2 := match_law d h.ok lim x y
  have hmm : (talkOf (ptyP (outB d lim x y o)) (ptyQ (outB d lim x y o) lim) x o).m = (talkOf (ptyP d) (ptyQ d lim) x y).m := by rw [m1, m2, hm]
  refine tlk_ext h1 h2 h3 h4 h5 ?_ hmm
  have e1 : (talkOf (ptyP (outB d lim x y o)) (ptyQ (outB d lim x y o) lim) x o).m = ((talkOf (ptyP (outB d lim x y o)) (ptyQ (outB d lim x y o) lim) x o).l != (talkOf (ptyP (outB d lim x y o)) (ptyQ (outB d lim x y o) lim) x o).r) := rfl
  have e2 : (talkOf (ptyP d) (ptyQ d lim) x y).m = ((talkOf (ptyP d) (ptyQ d lim) x y).l != (talkOf (ptyP d) (ptyQ d lim) x y).r) := rfl
  rw [e1, e2, h5] at hmm
  generalize (talkOf (ptyP (outB d lim x y o)) (ptyQ (outB d lim x y o) lim) x o).r = l1 at *
  generalize (talkOf (ptyP d) (ptyQ d lim) x y).l = l2 at *
  generalize (talkOf (ptyP d) (ptyQ d lim) x y).r = r2 at *
  revert hmm
  cases l1 <;> cases l2 <;> cases r2 <;> decide
/-- the talks are compared: equal if they are the same, not equal if the decision is another one -/
theorem talk_cmp {t u : Tlk} (ht : t.ok) (hu : u.ok) (b : Bool) (h : b = true → t = u) (h' : b = false → t.m ≠ u.m) (w : World) : (Op.equalIn 10000 29 (.agg t.cells) (.agg u.cells)).run Try.prog w = .ok b w := by
  cases b
  · exact eq29_no t u ht hu (h' rfl) w
  · rw [h rfl]; exact eq29 u hu w
theorem d1A_a (d : Dl) (x o : BitVec 16) : (fun i => (bitI o i - (bitI x i - d.a i) % 31) % 31) = (d1A d x o).a := by
  funext i
  show _ = (d.a i + bitI o i - bitI x i) % 31
  omega
theorem d1A_u (d : Dl) (x o : BitVec 16) : (fun i => (((d1A d x o).a i * d.b i) % 31 - (d.a i * d.b i - d.u i) % 31) % 31) = (d1A d x o).u := by
  funext i
  show _ = ((d1A d x o).a i * d.b i - (d.a i * d.b i - d.u i) % 31) % 31
  generalize (d1A d x o).a i * d.b i = e
  generalize (d.a i * d.b i - d.u i) % 31 = f
  omega
theorem d1B_b (d : Dl) (y o : BitVec 16) : (fun i => (bitI o i - (bitI y i - d.b i) % 31) % 31) = (d1B d y o).b := by
  funext i
  show _ = (d.b i + bitI o i - bitI y i) % 31
  omega
end Go.Proofs.Ytfdcapblgdlkaaa
