/- Parties, deals and talks as cells. -/
import Derived.Test.YtfdcapblgdlkaaaLists
import Derived.Test.YtfdcapblgdlkaaaRest
import Derived.Laws.Rows
import Derived.Laws.Cells
import Derived.Deep.WholeRow
namespace Go.Proofs.Ytfdcapblgdlkaaa
open Go.RowKit

def u8V (f : Nat → Int) (i : Nat) : Value := .int .u8 (f i)
def u32V (f : Nat → Int) (i : Nat) : Value := .int .u32 (f i)
/-- fifteen numbers of 8 bits; 31 of 32 bits -/
def A15 (f : Nat → Int) : Array Value := (valL 15 (u8V f)).toArray
def A31 (f : Nat → Int) : Array Value := (valL 31 (u32V f)).toArray
theorem A15_size (f : Nat → Int) : (A15 f).size = 15 := by simp [A15, valL_len]
theorem A31_size (f : Nat → Int) : (A31 f).size = 31 := by simp [A31, valL_len]
theorem A15_at (f : Nat → Int) (i : Nat) (h : i < 15) : (A15 f)[i]? = some (.int .u8 (f i)) := by
  unfold A15; rw [List.getElem?_toArray]; exact valL_at _ _ _ h
theorem A31_at (f : Nat → Int) (i : Nat) (h : i < 31) : (A31 f)[i]? = some (.int .u32 (f i)) := by
  unfold A31; rw [List.getElem?_toArray]; exact valL_at _ _ _ h
structure Pty where
  m : Nat → Int
  s : Nat → Int
  sh : Int
  t : Nat → Int
def Pty.cells (p : Pty) : Array Value := A15 p.m ++ A15 p.s ++ #[.int .u8 p.sh] ++ A31 p.t
abbrev Pty.val (p : Pty) : Value := .agg p.cells
theorem Pty.size (p : Pty) : p.cells.size = 62 := by simp [Pty.cells, A15_size, A31_size]
theorem Pty.at_m (p : Pty) (i : Nat) (h : i < 15) : p.cells[i]? = some (.int .u8 (p.m i)) := by
  unfold Pty.cells
  rw [Array.getElem?_append_left (by simp [A15_size]; omega), Array.getElem?_append_left (by simp [A15_size]; omega), Array.getElem?_append_left (by simp [A15_size]; omega), A15_at _ _ h]
theorem Pty.at_s (p : Pty) (i : Nat) (h : i < 15) : p.cells[15 + i]? = some (.int .u8 (p.s i)) := by
  unfold Pty.cells
  rw [Array.getElem?_append_left (by simp [A15_size]; omega), Array.getElem?_append_left (by simp [A15_size]; omega), Array.getElem?_append_right (by simp [A15_size]), A15_size, show 15 + i - 15 = i by omega, A15_at _ _ h]
theorem Pty.at_sh (p : Pty) : p.cells[30]? = some (.int .u8 p.sh) := by
  unfold Pty.cells
  rw [Array.getElem?_append_left (by simp [A15_size]), Array.getElem?_append_right (by simp [A15_size])]
  simp [A15_size]
theorem Pty.at_t (p : Pty) (i : Nat) (h : i < 31) : p.cells[31 + i]? = some (.int .u32 (p.t i)) := by
  unfold Pty.cells
  rw [Array.getElem?_append_right (by simp [A15_size])]
  simp only [Array.size_append, A15_size, List.size_toArray, List.length_cons, List.length_nil]
  rw [show 31 + i - (15 + 15 + (0 + 1)) = i by omega, A31_at _ _ h]
/-- numbers of 8 bits; words of 32 bits -/
structure Pty.ok (p : Pty) : Prop where
  m : ∀ i, i < 15 → 0 ≤ p.m i ∧ p.m i < 256
  s : ∀ i, i < 15 → 0 ≤ p.s i ∧ p.s i < 256
  sh : 0 ≤ p.sh ∧ p.sh < 256
  t : ∀ i, i < 31 → 0 ≤ p.t i ∧ p.t i < 4294967296
def numB (f : Nat → Int) : Bool := (List.range 15).all fun i => decide (f i < 31)
def tabB (t : Nat → Int) : Bool := (List.range 31).all fun i => decide (t i < 2147483648)
def Pty.okB (p : Pty) : Bool := numB p.m && numB p.s && decide (p.sh < 31) && tabB p.t
theorem num_at {f : Nat → Int} (h : numB f = true) (i : Nat) (hi : i < 15) : f i < 31 := by
  have := List.all_eq_true.1 h i (List.mem_range.2 hi)
  simpa using this
theorem num_no {f : Nat → Int} (i : Nat) (hi : i < 15) (h : 31 ≤ f i) : numB f = false := by
  cases hb : numB f
  · rfl
  · have := num_at hb i hi; omega
theorem num_yes {f : Nat → Int} (h : ∀ i, i < 15 → f i < 31) : numB f = true := by
  unfold numB; rw [List.all_eq_true]; intro i hi; simpa using h i (List.mem_range.1 hi)
theorem tab_at {f : Nat → Int} (h : tabB f = true) (i : Nat) (hi : i < 31) : f i < 2147483648 := by
  have := List.all_eq_true.1 h i (List.mem_range.2 hi)
  simpa using this
theorem tab_no {f : Nat → Int} (i : Nat) (hi : i < 31) (h : 2147483648 ≤ f i) : tabB f = false := by
  cases hb : tabB f
  · rfl
  · have := tab_at hb i hi; omega
theorem tab_yes {f : Nat → Int} (h : ∀ i, i < 31 → f i < 2147483648) : tabB f = true := by
  unfold tabB; rw [List.all_eq_true]; intro i hi; simpa using h i (List.mem_range.1 hi)
set_option maxRecDepth 100000 in
set_option maxHeartbeats 1000000 in
theorem numbers_any (f : Nat → Int) (hf : ∀ i, i < 15 → 0 ≤ f i ∧ f i < 256) (w : World) : Calls Try.prog 80 #[.agg (A15 f)] w fun e w' => e = .returned (.bool (numB f)) ∧ Ext w w' := by
  go_enter Try.func80, Try.ntmps80
  go_wp2_with fail
  have HB := Lib.hid (Blk.new w 22 (A15 f))
  have HE := Lib.hid ((Ext.refl w).alloc (.cells (A15 f) 22))
  generalize w.alloc (.cells (A15 f) 22) = W at *
  go_loopw [3] (fun i wr => ∃ k : Nat, k ≤ 15 ∧ i = .int .i64 k ∧ wr = W ∧ ∀ j, j < k → f j < 31) (fun i _ => 15 - (intOf i).toNat)
  case atStart => exact ⟨0, by omega, rfl, rfl, fun j h => absurd h (by omega)⟩
  case round =>
    obtain ⟨k, hk, rfl, rfl, hall⟩ := hrel
    have HA := Lib.hid hall
    clear hall
    by_cases hk15 : k < 15
    · have hk2 : (k : Int) < 15 := by omega
      have c1 : wr.cell? ⟨w.heap.size, k, none⟩ = some (.int .u8 (f k)) := by rw [HB.out.cell]; exact A15_at f k hk15
      have hb := hf k hk15
      by_cases h31 : f k < 31
      · have b1 : decide (31 ≤ f k) = false := by simp; omega
        have H31 := Lib.hid (show ∀ j, j < k + 1 → f j < 31 from fun j hj => by
          rcases Nat.lt_or_ge j k with h | h
          · exact HA.out j h
          · obtain rfl : j = k := by omega
            exact h31)
        generalize f k = v at *
        go_wp2_with fail
        refine ⟨⟨k + 1, by omega, by go_num, trivial, H31.out⟩, by simp [intOf]; omega⟩
      · have b1 : decide (31 ≤ f k) = true := by simp; omega
        have HF := Lib.hid (num_no k hk15 (show 31 ≤ f k by omega))
        go_wp2_with fail
        go_ret
        exact ⟨ret_of (by rw [HF.out]; rfl), HE.out⟩
    · obtain rfl : k = 15 := by omega
      have HF := Lib.hid (num_yes HA.out)
      go_wp2_with fail
      go_ret
      exact ⟨ret_of (by rw [HF.out]; rfl), HE.out⟩
set_option maxRecDepth 100000 in
set_option maxHeartbeats 1000000 in
theorem tabled_any (f : Nat → Int) (hf : ∀ i, i < 31 → 0 ≤ f i ∧ f i < 4294967296) (w : World) : Calls Try.prog 81 #[.agg (A31 f)] w fun e w' => e = .returned (.bool (tabB f)) ∧ Ext w w' := by
  go_enter Try.func81, Try.ntmps81
  go_wp2_with fail
  have HB := Lib.hid (Blk.new w 24 (A31 f))
  have HE := Lib.hid ((Ext.refl w).alloc (.cells (A31 f) 24))
  generalize w.alloc (.cells (A31 f) 24) = W at *
  go_loopw [3] (fun i wr => ∃ k : Nat, k ≤ 31 ∧ i = .int .i64 k ∧ wr = W ∧ ∀ j, j < k → f j < 2147483648) (fun i _ => 31 - (intOf i).toNat)
  case atStart => exact ⟨0, by omega, rfl, rfl, fun j h => absurd h (by omega)⟩
  case round =>
    obtain ⟨k, hk, rfl, rfl, hall⟩ := hrel
    have HA := Lib.hid hall
    clear hall
    by_cases hk31 : k < 31
    · have hk2 : (k : Int) < 31 := by omega
      have c1 : wr.cell? ⟨w.heap.size, k, none⟩ = some (.int .u32 (f k)) := by rw [HB.out.cell]; exact A31_at f k hk31
      have hb := hf k hk31
      by_cases h31 : f k < 2147483648
      · have b1 : f k / 2147483648 = 0 := by omega
        have H31 := Lib.hid (show ∀ j, j < k + 1 → f j < 2147483648 from fun j hj => by
          rcases Nat.lt_or_ge j k with h | h
          · exact HA.out j h
          · obtain rfl : j = k := by omega
            exact h31)
        generalize f k = v at *
        go_wp2_with fail
        refine ⟨⟨k + 1, by omega, by go_num, trivial, H31.out⟩, by simp [intOf]; omega⟩
      · have b1 : f k / 2147483648 = 1 := by omega
        have HF := Lib.hid (tab_no k hk31 (show 2147483648 ≤ f k by omega))
        go_wp2_with fail
        go_ret
        exact ⟨ret_of (by rw [HF.out]; rfl), HE.out⟩
    · obtain rfl : k = 31 := by omega
      have HF := Lib.hid (tab_yes HA.out)
      go_wp2_with fail
      go_ret
      exact ⟨ret_of (by rw [HF.out]; rfl), HE.out⟩
theorem large8_any (n : Int) (w : World) : Calls Try.prog 82 #[.int .u8 n] w fun e w' => e = .returned (.bool (decide (31 ≤ n))) ∧ w = w' := by
  go_enter Try.func82, Try.ntmps82
  go_wp2_with fail
  go_ret
  exact ⟨rfl, rfl⟩
theorem large32_any (n : Int) (w : World) : Calls Try.prog 85 #[.int .u32 n] w fun e w' => e = .returned (.bool (decide (2147483648 ≤ n))) ∧ w = w' := by
  go_enter Try.func85, Try.ntmps85
  go_wp2_with fail
  go_ret
  exact ⟨rfl, rfl⟩
set_option maxRecDepth 100000 in
set_option maxHeartbeats 1000000 in
theorem index8_any (f : Nat → Int) (b off : Nat) (w : World) (hc : ∀ j, j < 15 → w.cell? ⟨b, off + j, none⟩ = some (.int .u8 (f j))) : Calls Try.prog 99 #[.slice (some ⟨b, off, none⟩) 15 15, .func (.func 82) #[] #[]] w fun e w' => ∃ v : Int, e = .returned (.int .i64 v) ∧ decide (0 ≤ v) = !numB f ∧ w = w' := by
  have HC := Lib.hid hc
  clear hc
  go_enter Try.func99, Try.ntmps99
  go_wp2_with fail
  go_loopw [5, 8] (fun _ i wr => ∃ k : Nat, k ≤ 15 ∧ i = .int .i64 k ∧ wr = w ∧ ∀ j, j < k → f j < 31) (fun _ i _ => 15 - (intOf i).toNat)
  case atStart => exact ⟨0, by omega, rfl, rfl, fun j h => absurd h (by omega)⟩
  case round =>
    obtain ⟨k, hk, rfl, rfl, hall⟩ := hrel
    have HA := Lib.hid hall
    clear hall
    by_cases hkN : k < 15
    · have hk2 : (k : Int) < 15 := by omega
      have c1 := HC.out k hkN
      have C := Lib.hid (fun w => large8_any (f k) w)
      by_cases h31 : f k < 31
      · have b1 : decide (31 ≤ f k) = false := by simp; omega
        have H31 := Lib.hid (show ∀ j, j < k + 1 → f j < 31 from fun j hj => by
          rcases Nat.lt_or_ge j k with h | h
          · exact HA.out j h
          · obtain rfl : j = k := by omega
            exact h31)
        rw [b1] at C
        generalize f k = v at *
        clear h31 b1
        go_wp2_with (go_at_call 82; refine Calls.same (C.out _) ?_)
        refine ⟨⟨k + 1, by omega, by go_num, trivial, H31.out⟩, by simp [intOf]; omega⟩
      · have b1 : decide (31 ≤ f k) = true := by simp; omega
        have HF := Lib.hid (num_no k hkN (show 31 ≤ f k by omega))
        rw [b1] at C
        generalize f k = v at *
        clear h31 b1
        go_wp2_with (go_at_call 82; refine Calls.same (C.out _) ?_)
        go_ret
        exact ⟨(k : Int), rfl, by rw [HF.out]; simp, rfl⟩
    · obtain rfl : k = 15 := by omega
      have HF := Lib.hid (num_yes HA.out)
      go_wp2_with fail
      go_ret
      exact ⟨-1, rfl, by rw [HF.out]; rfl, rfl⟩
theorem contains8_any (f : Nat → Int) (b off : Nat) (w : World) (hc : ∀ j, j < 15 → w.cell? ⟨b, off + j, none⟩ = some (.int .u8 (f j))) : Calls Try.prog 83 #[.slice (some ⟨b, off, none⟩) 15 15, .func (.func 82) #[] #[]] w fun e w' => e = .returned (.bool (!numB f)) ∧ w = w' := by
  have C := Lib.hid (index8_any f b off w hc)
  clear hc
  go_enter Try.func83, Try.ntmps83
  go_wp2_with (go_at_call 99; refine C.out.mono ?_; rintro e w' ⟨v, rfl, hv, rfl⟩)
  go_ret
  exact ⟨ret_of (by rw [← hv]; rfl), rfl⟩
set_option maxRecDepth 100000 in
set_option maxHeartbeats 1000000 in
theorem index32_any (f : Nat → Int) (b off : Nat) (w : World) (hc : ∀ j, j < 31 → w.cell? ⟨b, off + j, none⟩ = some (.int .u32 (f j))) : Calls Try.prog 100 #[.slice (some ⟨b, off, none⟩) 31 31, .func (.func 85) #[] #[]] w fun e w' => ∃ v : Int, e = .returned (.int .i64 v) ∧ decide (0 ≤ v) = !tabB f ∧ w = w' := by
  have HC := Lib.hid hc
  clear hc
  go_enter Try.func100, Try.ntmps100
  go_wp2_with fail
  go_loopw [5, 8] (fun _ i wr => ∃ k : Nat, k ≤ 31 ∧ i = .int .i64 k ∧ wr = w ∧ ∀ j, j < k → f j < 2147483648) (fun _ i _ => 31 - (intOf i).toNat)
  case atStart => exact ⟨0, by omega, rfl, rfl, fun j h => absurd h (by omega)⟩
  case round =>
    obtain ⟨k, hk, rfl, rfl, hall⟩ := hrel
    have HA := Lib.hid hall
    clear hall
    by_cases hkN : k < 31
    · have hk2 : (k : Int) < 31 := by omega
      have c1 := HC.out k hkN
      have C := Lib.hid (fun w => large32_any (f k) w)
      by_cases h31 : f k < 2147483648
      · have b1 : decide (2147483648 ≤ f k) = false := by simp; omega
        have H31 := Lib.hid (show ∀ j, j < k + 1 → f j < 2147483648 from fun j hj => by
          rcases Nat.lt_or_ge j k with h | h
          · exact HA.out j h
          · obtain rfl : j = k := by omega
            exact h31)
        rw [b1] at C
        generalize f k = v at *
        clear h31 b1
        go_wp2_with (go_at_call 85; refine Calls.same (C.out _) ?_)
        refine ⟨⟨k + 1, by omega, by go_num, trivial, H31.out⟩, by simp [intOf]; omega⟩
      · have b1 : decide (2147483648 ≤ f k) = true := by simp; omega
        have HF := Lib.hid (tab_no k hkN (show 2147483648 ≤ f k by omega))
        rw [b1] at C
        generalize f k = v at *
        clear h31 b1
        go_wp2_with (go_at_call 85; refine Calls.same (C.out _) ?_)
        go_ret
        exact ⟨(k : Int), rfl, by rw [HF.out]; simp, rfl⟩
    · obtain rfl : k = 31 := by omega
      have HF := Lib.hid (tab_yes HA.out)
      go_wp2_with fail
      go_ret
      exact ⟨-1, rfl, by rw [HF.out]; rfl, rfl⟩
theorem contains32_any (f : Nat → Int) (b off : Nat) (w : World) (hc : ∀ j, j < 31 → w.cell? ⟨b, off + j, none⟩ = some (.int .u32 (f j))) : Calls Try.prog 84 #[.slice (some ⟨b, off, none⟩) 31 31, .func (.func 85) #[] #[]] w fun e w' => e = .returned (.bool (!tabB f)) ∧ w = w' := by
  have C := Lib.hid (index32_any f b off w hc)
  clear hc
  go_enter Try.func84, Try.ntmps84
  go_wp2_with (go_at_call 100; refine C.out.mono ?_; rintro e w' ⟨v, rfl, hv, rfl⟩)
  go_ret
  exact ⟨ret_of (by rw [← hv]; rfl), rfl⟩
theorem run_load_sub {P : Program} (w : World) (g off : Nat) (ty : TypeId) (n : Nat) (f : Nat → Value) (d : TypeDesc) (hc : ∀ j, j < n → w.cell? ⟨g, off + j, none⟩ = some (f j))
    (hu : P.underlying ty = some d) (hd : (match d with | .struct _ | .array _ _ => true | _ => false) = true) (hi : (P.info? ty).map (·.size) = some n) : (loadVar ty ⟨g, off, none⟩).run P w = .ok (.agg (valL n f).toArray) w := by
  have hl : (loadCells ⟨g, off, none⟩ (valL n f).length).run P w = .ok (valL n f).toArray w :=
    run_loadCells_list (P := P) w ⟨g, off, none⟩ (valL n f) (fun j v hv => by
      have hj : j < n := by
        rcases Nat.lt_or_ge j n with h | h
        · exact h
        · rw [List.getElem?_eq_none (by rw [valL_len]; exact h)] at hv; cases hv
      rw [valL_at _ _ _ hj] at hv
      rw [addr_add, hc j hj]; exact hv)
  cases hq : P.info? ty with
  | none => simp [hq] at hi
  | some i =>
    have hs : i.size = n := by simpa [hq] using hi
    have hagg : (isAgg ty).run P w = .ok true w := by
      unfold isAgg
      rw [Sem.run_bind, run_underlying hu w]
      cases d <;> simp_all
    rw [valL_len] at hl
    simp [loadVar, Sem.run_bind, hagg, sizeOf, typeInfo, hq, hs, hl]
theorem wpList_load_sub {P : Program} {ops : Array Oper} {rest : List Oper} {o : Oper} {a : Act} {w : World} {Q : Exit → Act → World → Prop} (hgd : o.guard = none) (ty : TypeId) (x : Operand) (ho : o.op = .load ty x)
    (g off : Nat) (hx : a.eval x = .pointer (some ⟨g, off, none⟩)) (n : Nat) (f : Nat → Value) (d : TypeDesc) (hc : ∀ j, j < n → w.cell? ⟨g, off + j, none⟩ = some (f j))
    (hu : P.underlying ty = some d) (hd : (match d with | .struct _ | .array _ _ => true | _ => false) = true) (hi : (P.info? ty).map (·.size) = some n)
    (h : wpList P ops Q rest (a.put o.dst (.agg (valL n f).toArray)) w) : wpList P ops Q (o :: rest) a w :=
  wpList_plain hgd fun _ hK => by
    unfold Oper.wp execOp
    simp only [ho, hx, Instr.loadAt, Instr.sureAddr, Sem.run_bind, Sem.run_pure, Result.andThen_ok, run_load_sub w g off ty n f d hc hu hd hi]
    exact hK _ _ h
theorem wp_load_sub {P : Program} {o : Oper} {a : Act} {w : World} {K : Act → World → Prop} {Q : Exit → Act → World → Prop} (ty : TypeId) (x : Operand) (ho : o.op = .load ty x)
    (g off : Nat) (hx : a.eval x = .pointer (some ⟨g, off, none⟩)) (n : Nat) (f : Nat → Value) (d : TypeDesc) (hc : ∀ j, j < n → w.cell? ⟨g, off + j, none⟩ = some (f j))
    (hu : P.underlying ty = some d) (hd : (match d with | .struct _ | .array _ _ => true | _ => false) = true) (hi : (P.info? ty).map (·.size) = some n)
    (h : K (a.put o.dst (.agg (valL n f).toArray)) w) : o.wp P a w K Q := by
  unfold Oper.wp execOp
  simp only [ho, hx, Instr.loadAt, Instr.sureAddr, Sem.run_bind, Sem.run_pure, Result.andThen_ok, run_load_sub w g off ty n f d hc hu hd hi]
  exact h
theorem wpList_load_sub_g {P : Program} {ops : Array Oper} {rest : List Oper} {o : Oper} {a : Act} {w : World} {Q : Exit → Act → World → Prop} (ty : TypeId) (x : Operand) (ho : o.op = .load ty x) (hw : Region.wanted o (yielded ops a.tmps) = true)
    (g off : Nat) (hx : a.eval x = .pointer (some ⟨g, off, none⟩)) (n : Nat) (f : Nat → Value) (d : TypeDesc) (hc : ∀ j, j < n → w.cell? ⟨g, off + j, none⟩ = some (f j))
    (hu : P.underlying ty = some d) (hd : (match d with | .struct _ | .array _ _ => true | _ => false) = true) (hi : (P.info? ty).map (·.size) = some n)
    (h : wpList P ops Q rest (a.put o.dst (.agg (valL n f).toArray)) w) : wpList P ops Q (o :: rest) a w := by
  unfold wpList
  rw [if_pos hw]
  exact .inl (wp_load_sub ty x ho g off hx n f d hc hu hd hi h)
end Go.Proofs.Ytfdcapblgdlkaaa
