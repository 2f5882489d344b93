/- Sums of bits less two times products. -/
import Derived.Test.YtfdcapblgdlkaaaMasks
import Derived.Test.YtfdcapblgdlkaaaRel
import Derived.Laws.CopyRow
namespace Go.Proofs.Ytfdcapblgdlkaaa
open Go.RowKit

def cntS (f g : Nat → Int) : Nat → Int
  | 0 => 0
  | k + 1 => cntS f g k + (f k - 2 * g k)
theorem run_index22 (f : Nat → Int) (k : Nat) (h : k < 15) (w : World) : (Instr.index 22 (.agg (A15 f)) (.int .i64 (k : Int))).run Try.prog w = .ok (.int .u8 (f k)) w := by
  have hi : (Try.prog.info? 5).map (·.size) = some 1 := by kernel_rfl
  cases hq : Try.prog.info? 5 with
  | none => rw [hq] at hi; cases hi
  | some i =>
    have hs : i.size = 1 := by rw [hq] at hi; simpa using hi
    simp [Instr.index, asIntOf, run_underlying Try.underlying22, run_underlying Try.underlying5, sizeOf, typeInfo, hq, hs, part, isAgg, A15_at f k h]
    intro h'; omega
set_option maxRecDepth 100000 in
set_option maxHeartbeats 1000000 in
theorem count_any (f g : Nat → Int) (hf : ∀ i, i < 15 → 0 ≤ f i ∧ f i < 256) (hg : ∀ i, i < 15 → 0 ≤ g i ∧ g i < 256) (w : World) : Calls Try.prog 86 #[.agg (A15 f), .agg (A15 g)] w fun e w' => e = .returned (.int .i64 (cntS f g 15 % 31)) ∧ Ext w w' := by
  have H1 := Lib.hid ((Blk.new w 22 (A15 f)).alloc (.cells (A15 g) 22))
  have H2 := Lib.hid (Blk.new' (w.alloc (.cells (A15 f) 22)) 22 (A15 g) (w.heap.size + 1) (by simp))
  have HE := Lib.hid (((Ext.refl w).alloc (.cells (A15 f) 22)).alloc (.cells (A15 g) 22))
  go_enter Try.func86, Try.ntmps86
  go_wp2_with (refine wpList_load_row rfl 22 (.tmp 2) rfl w.heap.size rfl 22 (A15 f) (0, 0) _ H1.out Try.underlying22 rfl info22 ?_)
  generalize (w.alloc (.cells (A15 f) 22)).alloc (.cells (A15 g) 22) = W at *
  go_loopw [5, 6, 7, 9] (fun s _ _ i wr => ∃ (k : Nat) (z : World), k ≤ 15 ∧ i = .int .i64 k ∧ wr = ext W z ∧ s = .int .i64 (cntS f g k % 31)) (fun _ _ _ i _ => 15 - (intOf i).toNat)
  case atStart => exact ⟨0, W, by omega, rfl, (ext_of (Ext.refl W)).symm, rfl⟩
  case round =>
    obtain ⟨k, z, hk, rfl, rfl, rfl⟩ := hrel
    by_cases hk15 : k < 15
    · have hk2 : (k : Int) < 15 := by omega
      have c2 : W.cell? ⟨w.heap.size + 1, k, none⟩ = some (.int .u8 (g k)) := by rw [H2.out.cell]; exact A15_at g k hk15
      have o2 := Old.mk H2.out.lt
      have hi := fun w => run_index22 f k hk15 w
      have bf := hf k hk15
      have bg := hg k hk15
      have HS := Lib.hid (show cntS f g (k + 1) = cntS f g k + (f k - 2 * g k) from rfl)
      generalize cntS f g k = c at *
      have hc : 0 ≤ c % 31 ∧ c % 31 < 31 := by omega
      generalize hcc : c % 31 = cm at *
      generalize f k = fk at *
      generalize g k = gk at *
      have C1 := Lib.hid (fun w => plus_any cm fk (by omega) (by omega) w)
      have C2 := Lib.hid (fun w => times_any 2 gk (by omega) (by omega) w)
      have C3 := Lib.hid (fun w => minus_any ((cm + fk) % 31) ((2 * gk) % 31) (by omega) (by omega) w)
      have HV := Lib.hid (show ((cm + fk) % 31 - (2 * gk) % 31) % 31 = (c + (fk - 2 * gk)) % 31 by omega)
      have wa : IntKind.i64.wrap fk = fk := IntWalk.i64_in _ (by omega)
      have wb : IntKind.i64.wrap gk = gk := IntWalk.i64_in _ (by omega)
      generalize (cm + fk) % 31 = p1 at *
      generalize (2 * gk) % 31 = p2 at *
      clear hcc
      go_wp2_with fail
      refine wp_region_ext (by kernel_rfl) (by kernel_rfl) ?_
      repeat (go_big_quiet_step (first | (go_at_call 64; exact Calls.quiet_same (C1.out _)) | (go_at_call 63; exact Calls.quiet_same (C2.out _)) | (go_at_call 61; exact Calls.quiet_same (C3.out _))))
      refine wpQuiet_nil ?_
      rintro _ ⟨z2, rfl⟩
      go_wp2_with fail
      refine ⟨⟨k + 1, _, by omega, by go_num, (ext_of ((Ext.ext_self W z).ext z2)).symm, by rw [HS.out, ← HV.out]⟩, by simp [intOf]; omega⟩
    · obtain rfl : k = 15 := by omega
      go_wp2_with fail
      go_ret
      exact ⟨rfl, HE.out.ext _⟩
end Go.Proofs.Ytfdcapblgdlkaaa
/- A block that is filled part by part, in a region that draws its order. -/
namespace Go.Proofs.Ytfdcapblgdlkaaa
open Go.RowKit

/-- All other blocks are as they were; each cell of block T is as it was, or as it will be. -/
structure RT (T : Nat) (t : TypeId) (fin : Array Value) (w w' : World) : Prop where
  os : w'.os = w.os
  tape : w'.tape = w.tape
  output : w'.output = w.output
  size : w.heap.size ≤ w'.heap.size
  other : ∀ b, b ≠ T → b < w.heap.size → w'.heap[b]? = w.heap[b]?
  part : ∀ cur, Blk w T t cur → cur.size = fin.size → ∃ cur', Blk w' T t cur' ∧ cur'.size = fin.size ∧ ∀ j : Nat, cur'[j]? = cur[j]? ∨ cur'[j]? = fin[j]?
section
variable {T : Nat} {t : TypeId} {fin : Array Value}
theorem RT.refl (w : World) : RT T t fin w w := ⟨rfl, rfl, rfl, Nat.le_refl _, fun _ _ _ => rfl, fun cur h hs => ⟨cur, h, hs, fun _ => .inl rfl⟩⟩
theorem RT.trans (a b c : World) (h : RT T t fin a b) (k : RT T t fin b c) : RT T t fin a c :=
  ⟨k.os.trans h.os, k.tape.trans h.tape, k.output.trans h.output, Nat.le_trans h.size k.size, fun x hx hb => (k.other x hx (Nat.lt_of_lt_of_le hb h.size)).trans (h.other x hx hb), fun cur hc hs => by
    obtain ⟨c1, h1, h2, h3⟩ := h.part cur hc hs
    obtain ⟨c2, k1, k2, k3⟩ := k.part c1 h1 h2
    refine ⟨c2, k1, k2, fun j => ?_⟩
    rcases k3 j with e | e
    · rcases h3 j with e2 | e2
      · exact .inl (e.trans e2)
      · exact .inr (e.trans e2)
    · exact .inr e⟩
theorem RT.of_ext {w w' : World} (h : Ext w w') : RT T t fin w w' :=
  ⟨h.os, h.tape, h.output, h.size, fun b _ hb => h.block b hb, fun cur hc hs => ⟨cur, hc.grow h, hs, fun _ => .inl rfl⟩⟩
theorem RT.blk {w w' : World} (h : RT T t fin w w') {b : Nat} {u : TypeId} {cs : Array Value} (hb : Blk w b u cs) (hne : b ≠ T) : Blk w' b u cs := (h.other b hne hb.lt).trans hb
theorem RT.below {a w w' : World} (h : RT T t fin w w') (he : Ext a w) (hT : a.heap.size ≤ T) : Ext a w' :=
  ⟨h.os.trans he.os, h.tape.trans he.tape, h.output.trans he.output, Nat.le_trans he.size h.size, fun b hb => (h.other b (by omega) (Nat.lt_of_lt_of_le hb he.size)).trans (he.block b hb)⟩
/-- the n cells from o on are as they will be -/
def isS (T : Nat) (t : TypeId) (fin : Array Value) (o n : Nat) : Value → World → Prop := fun _ w => ∃ cur, Blk w T t cur ∧ cur.size = fin.size ∧ ∀ j, o ≤ j → j < o + n → cur[j]? = fin[j]?
def MonoR (R : World → World → Prop) (p : Value → World → Prop) : Prop := ∀ v w w', p v w → R w w' → p v w'
theorem isS_mono (o n : Nat) : MonoR (RT T t fin) (isS T t fin o n) := by
  rintro v w w' ⟨cur, h1, h2, h3⟩ hR
  obtain ⟨c2, k1, k2, k3⟩ := hR.part cur h1 h2
  refine ⟨c2, k1, k2, fun j hj hj2 => ?_⟩
  rcases k3 j with e | e
  · exact e.trans (h3 j hj hj2)
  · exact e
theorem isV_monoR (R : World → World → Prop) (u : Value) : MonoR R (isV u) := fun _ _ _ h _ => h
theorem Vof_monoR {R : World → World → Prop} {ps : List (Value → World → Prop)} (h : ∀ p ∈ ps, MonoR R p) : ∀ i v w w', Vof ps i v w → R w w' → Vof ps i v w' := by
  intro i v w w' hv hw
  unfold Vof at hv ⊢
  cases hp : ps[i]? with
  | none => trivial
  | some p => rw [hp] at hv; exact h p (List.mem_of_getElem? hp) v w w' hv hw
end
section
variable {P : Program} {Q : Exit → Act → World → Prop} {V : Nat → Value → World → Prop} {i : Nat} {o : Oper} {a : Act} {w : World} {T : Nat} {t : TypeId} {fin : Array Value}
/-- what each operation owes -/
def Owes (P : Program) (V : Nat → Value → World → Prop) (R : World → World → Prop) (i : Nat) (o : Oper) (a : Act) (w : World) (Q : Exit → Act → World → Prop) : Prop :=
  o.wp P a w (fun a' w' => ∃ v, a' = a.put o.dst v ∧ V i (match o.dst with | some _ => v | none => undef) w' ∧ R w w') Q
theorem owes_val {v : Value} {d : Tmp} (hd : o.dst = some d) (hr : (execOp a.eval o).run P w = .ok (.value v) w) (hv : V i v w) : Owes P V (RT T t fin) i o a w Q := by
  unfold Owes Oper.wp
  rw [hr]
  exact ⟨v, rfl, by rw [hd]; exact hv, RT.refl _⟩
theorem owes_call {v : Value} {d : Tmp} (hd : o.dst = some d) (f : FuncId) (xs : List Operand) (ts : Array TypeId) (ho : o.op = .call { callee := .value (.func f), args := xs.toArray, argTypes := ts }) (hf : callB P f = true) (args : List Value) (hargs : xs.map a.eval = args)
    (h : Calls P f args.toArray w fun e w' => e = .returned v ∧ Ext w w') (hv : ∀ w', V i v w') : Owes P V (RT T t fin) i o a w Q := by
  unfold Owes Oper.wp
  rw [run_call_op ho hf]
  have e : xs.toArray.map a.eval = args.toArray := by rw [List.map_toArray, hargs]
  rw [e]
  exact h.mono fun en w' ⟨he, hw⟩ => by subst he; exact ⟨v, rfl, by rw [hd]; exact hv w', RT.of_ext hw⟩
theorem owes_load {d : Tmp} (hd : o.dst = some d) (ty : TypeId) (x : Operand) (ho : o.op = .load ty x) (g off : Nat) (hx : a.eval x = .pointer (some ⟨g, off, none⟩)) (n : Nat) (f : Nat → Value) (td : TypeDesc) (hc : ∀ j, j < n → w.cell? ⟨g, off + j, none⟩ = some (f j))
    (hu : P.underlying ty = some td) (htd : (match td with | .struct _ | .array _ _ => true | _ => false) = true) (hi : (P.info? ty).map (·.size) = some n) (hv : V i (.agg (valL n f).toArray) w) : Owes P V (RT T t fin) i o a w Q := by
  refine owes_val hd (v := .agg (valL n f).toArray) ?_ hv
  unfold execOp
  simp only [ho, hx, Instr.loadAt, Instr.sureAddr, Sem.run_bind, Sem.run_pure, Result.andThen_ok, run_load_sub w g off ty n f td hc hu htd hi]
theorem owes_store (hd : o.dst = none) (ty : TypeId) (x y : Operand) (ho : o.op = .store ty x y) (off : Nat) (hx : a.eval x = .pointer (some ⟨T, off, none⟩)) (n : Nat) (f : Nat → Value) (hy : a.eval y = .agg (valL n f).toArray) (hi : (P.info? ty).map (·.size) = some n)
    (hone : ∀ j, j < n → (f j).oneCell' = true) (hB : ∃ cur, Blk w T t cur ∧ cur.size = fin.size) (hfin : ∀ j, j < n → fin[off + j]? = some (f j)) (hlen : off + n ≤ fin.size) (hv : ∀ w', isS T t fin off n undef w' → V i undef w') : Owes P V (RT T t fin) i o a w Q := by
  obtain ⟨cur, hB, hsz⟩ := hB
  have hone' : ∀ v ∈ valL n f, v.oneCell' = true := by
    intro v hv'
    obtain ⟨j, hj, rfl⟩ := List.mem_map.1 hv'
    exact hone j (List.mem_range.1 hj)
  have hs := run_storeCells_at (P := P) T off t (valL n f) 0 cur w hB (by rw [valL_len]; omega) hone'
  rw [Nat.add_zero, valL_len] at hs
  have hst : (storeVar ty ⟨T, off, none⟩ (.agg (valL n f).toArray)).run P w = .ok () (w.setRow T (cur.toList.take off ++ valL n f ++ cur.toList.drop (off + n)).toArray) := by
    cases hq : P.info? ty with
    | none => simp [hq] at hi
    | some inf =>
      have hs2 : inf.size = n := by simp [hq] at hi; omega
      simp [storeVar, sizeOf, typeInfo, hq, Value.cells, hs2, valL_len, hs]
  have hB2 := hB.row (cur.toList.take off ++ valL n f ++ cur.toList.drop (off + n)).toArray
  have hat : ∀ j : Nat, (cur.toList.take off ++ valL n f ++ cur.toList.drop (off + n)).toArray[j]? = if off ≤ j ∧ j < off + n then fin[j]? else cur[j]? := by
    intro j
    have hlt : (cur.toList.take off).length = off := by simp; omega
    simp only [List.getElem?_toArray, List.append_assoc]
    split
    · rename_i h
      rw [List.getElem?_append_right (by omega), List.getElem?_append_left (by rw [valL_len]; omega), hlt, valL_at _ _ _ (by omega), ← hfin (j - off) (by omega)]
      congr 1; omega
    · rename_i h
      rcases Nat.lt_or_ge j off with h1 | h1
      · rw [List.getElem?_append_left (by omega), List.getElem?_take, if_pos h1]; simp
      · rw [List.getElem?_append_right (by omega), List.getElem?_append_right (by rw [valL_len]; omega), hlt, valL_len, List.getElem?_drop]
        simp only [Array.getElem?_toList]
        congr 1; omega
  have hsz2 : (cur.toList.take off ++ valL n f ++ cur.toList.drop (off + n)).toArray.size = fin.size := by simp [valL_len]; omega
  unfold Owes Oper.wp execOp
  simp only [ho, hx, hy, Sem.run_bind, Instr.storeAt, Instr.sureAddr, Sem.run_pure, Result.andThen, hst]
  refine ⟨undef, rfl, ?_, rfl, rfl, rfl, by simp [World.setRow], fun b hb _ => setRow_heap _ _ _ _ hb, fun c hc hcs => ?_⟩
  · rw [hd]
    refine hv _ ⟨_, hB2, hsz2, fun j h1 h2 => ?_⟩
    rw [hat, if_pos ⟨h1, h2⟩]
  · have : c = cur := by unfold Blk at hc hB; rw [hB] at hc; injection hc with hc; injection hc with hc; exact hc.symm
    subst this
    refine ⟨_, hB2, hsz2, fun j => ?_⟩
    rw [hat]
    split
    · exact .inr rfl
    · exact .inl rfl
/-- one cell -/
theorem owes_store1 (hd : o.dst = none) (off : Nat) (v : Value) (hr : ∀ cur, Blk w T t cur → cur.size = fin.size → (execOp a.eval o).run P w = .ok .skip (w.setCell ⟨T, off, none⟩ v))
    (hB : ∃ cur, Blk w T t cur ∧ cur.size = fin.size) (hfin : fin[off]? = some v) (hv : ∀ w', isS T t fin off 1 undef w' → V i undef w') : Owes P V (RT T t fin) i o a w Q := by
  obtain ⟨cur, hB, hsz⟩ := hB
  have hlen : off < fin.size := by
    rcases Nat.lt_or_ge off fin.size with h | h
    · exact h
    · rw [Array.getElem?_eq_none h] at hfin; cases hfin
  have hat : ∀ j : Nat, (cur.setIfInBounds off v)[j]? = if j = off then fin[j]? else cur[j]? := by
    intro j
    rw [Array.getElem?_setIfInBounds]
    by_cases h : off = j
    · subst h; rw [if_pos rfl, if_pos (by omega), if_pos rfl, hfin]
    · rw [if_neg h, if_neg (fun e => h e.symm)]
  have hsz2 : (cur.setIfInBounds off v).size = fin.size := by simpa using hsz
  unfold Owes Oper.wp
  rw [hr cur hB hsz]
  refine ⟨undef, rfl, ?_, rfl, rfl, rfl, by simp [World.setCell], fun b hb _ => Below.heap_setCell w ⟨T, off, none⟩ v b hb, fun c hc hcs => ?_⟩
  · rw [hd]
    refine hv _ ⟨_, hB.set_ off v, hsz2, fun j h1 h2 => ?_⟩
    obtain rfl : j = off := by omega
    rw [hat, if_pos rfl]
  · have : c = cur := by unfold Blk at hc hB; rw [hB] at hc; injection hc with hc; injection hc with hc; exact hc.symm
    subst this
    refine ⟨_, hB.set_ off v, hsz2, fun j => ?_⟩
    rw [hat]
    split
    · exact .inr rfl
    · exact .inl rfl
end
end Go.Proofs.Ytfdcapblgdlkaaa
