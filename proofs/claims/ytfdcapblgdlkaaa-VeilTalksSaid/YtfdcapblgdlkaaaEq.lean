/- Talks, parties and deals: when two are equal. -/
import Derived.Test.YtfdcapblgdlkaaaPlays2
import Derived.DeepKeys
namespace Go.Proofs.Ytfdcapblgdlkaaa
open Go.RowKit

theorem key_array {P : Program} {t e : TypeId} {n : Nat} {q : IntKind} (hu : P.underlying t = some (.array n e)) (he : P.underlying e = some (.int q)) (hn : P.cellsOf t = n) (h1 : P.cellsOf e = 1) (d : Nat) (f : Nat → Int) (hw : ∀ i, i < n → (Lit.int q (f i)).wf = true) :
    P.keyLits (d + 2) t (valL n fun i => .int q (f i)) = some ((List.range n).map fun i => Lit.int q (f i)) := by
  unfold Program.keyLits
  rw [hu]
  simp only [valL_len, hn, if_true, h1, Nat.mul_one]
  have h : ∀ l : List Nat, (∀ i ∈ l, i < n) → l.mapM (fun i => P.keyLits (d + 1) e (((valL n fun i => Value.int q (f i)).drop i).take 1)) = some (l.map fun i => [Lit.int q (f i)]) := by
    intro l
    induction l with
    | nil => intro _; rfl
    | cons i l ih =>
      intro hl
      have hi := hl i (by simp)
      have hx : ((valL n fun i => Value.int q (f i)).drop i).take 1 = [Value.int q (f i)] := by
        apply List.ext_getElem?
        intro j
        rw [List.getElem?_take]
        rcases j with _ | j
        · simp [valL_at _ _ _ hi]
        · simp
      have hk : P.keyLits (d + 1) e [Value.int q (f i)] = some [Lit.int q (f i)] := by
        unfold Program.keyLits
        rw [he]
        simp [hw i hi]
      rw [List.mapM_cons, hx, hk, ih (fun k hk => hl k (by simp [hk]))]
      rfl
  rw [h (List.range n) (fun i hi => List.mem_range.1 hi)]
  simp only [Option.map_some, Option.some.injEq]
  generalize List.range n = l
  induction l with
  | nil => rfl
  | cons i l ih => simp [ih]
theorem lit_u8 {n : Int} (h : 0 ≤ n ∧ n < 256) : (Lit.int .u8 n).wf = true := by
  simp [Lit.wf, IntKind.min, IntKind.max, IntKind.signed, IntKind.bits]; omega
theorem lit_u32 {n : Int} (h : 0 ≤ n ∧ n < 4294967296) : (Lit.int .u32 n).wf = true := by
  simp [Lit.wf, IntKind.min, IntKind.max, IntKind.signed, IntKind.bits]; omega
def u8L (f : Nat → Int) : List Lit := (List.range 15).map fun i => Lit.int .u8 (f i)
def u32L (f : Nat → Int) : List Lit := (List.range 31).map fun i => Lit.int .u32 (f i)
theorem key22 (d : Nat) (f : Nat → Int) (h : ∀ i, i < 15 → 0 ≤ f i ∧ f i < 256) : Try.prog.keyLits (d + 2) 22 (valL 15 (u8V f)) = some (u8L f) :=
  key_array Try.underlying22 Try.underlying5 (by kernel_rfl) (by kernel_rfl) d f (fun i hi => lit_u8 (h i hi))
theorem key24 (d : Nat) (f : Nat → Int) (h : ∀ i, i < 31 → 0 ≤ f i ∧ f i < 4294967296) : Try.prog.keyLits (d + 2) 24 (valL 31 (u32V f)) = some (u32L f) :=
  key_array Try.underlying24 Try.underlying23 (by kernel_rfl) (by kernel_rfl) d f (fun i hi => lit_u32 (h i hi))
theorem key5 (d : Nat) (n : Int) (h : 0 ≤ n ∧ n < 256) : Try.prog.keyLits (d + 1) 5 [.int .u8 n] = some [.int .u8 n] := by
  unfold Program.keyLits
  rw [Try.underlying5]
  simp [lit_u8 h]
theorem key4 (d : Nat) (b : Bool) : Try.prog.keyLits (d + 1) 4 [.bool b] = some [.bool b] := by
  unfold Program.keyLits
  rw [Try.underlying4]
structure Tlk.ok (t : Tlk) : Prop where
  d : ∀ i, i < 15 → 0 ≤ t.d i ∧ t.d i < 256
  e : ∀ i, i < 15 → 0 ≤ t.e i ∧ t.e i < 256
  c : 0 ≤ t.c ∧ t.c < 256
  s : 0 ≤ t.s ∧ t.s < 256
def tlkL (t : Tlk) : List Lit := u8L t.d ++ (u8L t.e ++ ([.int .u8 t.c] ++ ([.int .u8 t.s] ++ ([.bool t.l] ++ ([.bool t.r] ++ [.bool t.m])))))
set_option maxRecDepth 100000 in
theorem keyT29 (t : Tlk) (h : t.ok) : Try.prog.keyLits 10 29 t.cells.toList = some (tlkL t) := by
  have h0 := key22 7 t.d h.d
  have h1 := key22 7 t.e h.e
  have h2 := key5 8 t.c h.c
  have h3 := key5 8 t.s h.s
  have h4 := key4 8 t.l
  have h5 := key4 8 t.r
  have h6 := key4 8 t.m
  unfold Program.keyLits
  rw [Try.underlying29]
  have e0 : t.cells.toList.take 15 = valL 15 (u8V t.d) := by kernel_rfl
  have e1 : (t.cells.toList.drop 15).take 15 = valL 15 (u8V t.e) := by kernel_rfl
  have e2 : (t.cells.toList.drop 30).take 1 = [.int .u8 t.c] := by kernel_rfl
  have e3 : (t.cells.toList.drop 31).take 1 = [.int .u8 t.s] := by kernel_rfl
  have e4 : (t.cells.toList.drop 32).take 1 = [.bool t.l] := by kernel_rfl
  have e5 : (t.cells.toList.drop 33).take 1 = [.bool t.r] := by kernel_rfl
  have e6 : (t.cells.toList.drop 34).take 1 = [.bool t.m] := by kernel_rfl
  have c22 : Try.prog.cellsOf 22 = 15 := by kernel_rfl
  have c5 : Try.prog.cellsOf 5 = 1 := by kernel_rfl
  have c4 : Try.prog.cellsOf 4 = 1 := by kernel_rfl
  have c29 : Try.prog.cellsOf 29 = 35 := by kernel_rfl
  have hl : t.cells.toList.length = 35 := by rw [Array.length_toList, Tlk.size]
  simp only [hl, c29]
  simp [c22, c5, c4, e0, e1, e2, e3, e4, e5, e6, h0, h1, h2, h3, h4, h5, h6, tlkL]
theorem eq_of {P : Program} {T : TypeId} {c c' : Array Value} {la lb : List Lit} (hk : P.keyTypeAt 10 T = true) (hf : (Value.agg c).formed P T = true) (hf' : (Value.agg c').formed P T = true) (hl : P.keyLits 10 T c.toList = some la) (hl' : P.keyLits 10 T c'.toList = some lb) (w : World) :
    ∃ r, (Op.equalIn 10000 T (.agg c) (.agg c')).run P w = .ok r w ∧ (r = true ↔ la = lb) :=
  run_equalIn_deep 9990 10 T hk w 10 10 (.agg c) (.agg c') la lb hf hf' hl hl'
theorem eq_same {P : Program} {T : TypeId} {c : Array Value} {la : List Lit} (hk : P.keyTypeAt 10 T = true) (hf : (Value.agg c).formed P T = true) (hl : P.keyLits 10 T c.toList = some la) (w : World) :
    (Op.equalIn 10000 T (.agg c) (.agg c)).run P w = .ok true w := by
  obtain ⟨r, hr, hi⟩ := eq_of hk hf hf hl hl w
  rw [hi.2 rfl] at hr
  exact hr
theorem eq_no {P : Program} {T : TypeId} {c c' : Array Value} {la lb : List Lit} (hk : P.keyTypeAt 10 T = true) (hf : (Value.agg c).formed P T = true) (hf' : (Value.agg c').formed P T = true) (hl : P.keyLits 10 T c.toList = some la) (hl' : P.keyLits 10 T c'.toList = some lb) (hne : la ≠ lb) (w : World) :
    (Op.equalIn 10000 T (.agg c) (.agg c')).run P w = .ok false w := by
  obtain ⟨r, hr, hi⟩ := eq_of hk hf hf' hl hl' w
  cases r
  · exact hr
  · exact absurd (hi.1 rfl) hne
theorem form29 (t : Tlk) : (Value.agg t.cells).formed Try.prog 29 = true := by kernel_rfl
theorem kt29 : Try.prog.keyTypeAt 10 29 = true := by kernel_rfl
theorem eq29 (t : Tlk) (h : t.ok) (w : World) : (Op.equalIn 10000 29 (.agg t.cells) (.agg t.cells)).run Try.prog w = .ok true w :=
  eq_same kt29 (form29 t) (keyT29 t h) w
theorem eq29_no (t u : Tlk) (h : t.ok) (h' : u.ok) (hm : t.m ≠ u.m) (w : World) : (Op.equalIn 10000 29 (.agg t.cells) (.agg u.cells)).run Try.prog w = .ok false w :=
  eq_no kt29 (form29 t) (form29 u) (keyT29 t h) (keyT29 u h') (fun e => hm (by
    have := congrArg (fun l => l[34]?) e
    simpa [tlkL, u8L] using this)) w
def Tlk.zero : Tlk := ⟨fun _ => 0, fun _ => 0, 0, 0, false, false, false⟩
theorem zero_ok : Tlk.zero.ok := ⟨fun _ _ => by simp [Tlk.zero], fun _ _ => by simp [Tlk.zero], by simp [Tlk.zero], by simp [Tlk.zero]⟩
theorem zero_cells : Tlk.zero.cells = Z35 := by kernel_rfl
theorem emod31 (n : Int) : 0 ≤ n % 31 ∧ n % 31 < 256 := by omega
theorem talk_ok (p q : Pty) (x y : BitVec 16) : (talkOf p q x y).ok := ⟨fun _ _ => emod31 _, fun _ _ => emod31 _, emod31 _, emod31 _⟩
theorem play_tlk (p q : Pty) (x y : BitVec 16) : ∃ t : Tlk, t.ok ∧ playC p q x y = t.cells := by
  by_cases h : talkErr p q x y = 0
  · exact ⟨_, talk_ok p q x y, playC_0 h⟩
  · exact ⟨_, zero_ok, (playC_e h).trans zero_cells.symm⟩
/-- comparing two whole structs -/
theorem wpList_eql_row {P : Program} {ops : Array Oper} {rest : List Oper} {o : Oper} {a : Act} {w : World} {Q : Exit → Act → World → Prop} (hgd : o.guard = none) (T : TypeId) (x y : Operand) (ho : o.op = .binOp .eql T x y T) (c c' : Array Value) (hx : a.eval x = .agg c) (hy : a.eval y = .agg c')
    (hm : P.eqGuardType P.depth T = false) (b : Bool) (he : ∀ w, (Op.equalIn 10000 T (.agg c) (.agg c')).run P w = .ok b w)
    (h : wpList P ops Q rest (a.put o.dst (.bool b)) w) : wpList P ops Q (o :: rest) a w :=
  wpList_plain hgd fun _ hK => by
    unfold Oper.wp execOp
    simp only [ho, hx, hy]
    simp [go_sem, hm, he]
    exact hK _ _ h
end Go.Proofs.Ytfdcapblgdlkaaa
