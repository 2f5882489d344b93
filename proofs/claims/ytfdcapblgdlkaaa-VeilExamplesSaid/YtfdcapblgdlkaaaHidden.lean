/- Hidden words. -/
import Derived.Test.YtfdcapblgdlkaaaOrdered
import Derived.Test.YtfdcapblgdlkaaaHide
namespace Go.Proofs.Ytfdcapblgdlkaaa
open Go.RowKit

section
variable {P : Program} {ops : Array Oper} {o : Oper} {a : Act} {w : World} {K : Act → World → Prop} {Q : Exit → Act → World → Prop} {E : Prop}
theorem step_call_list (hgd : o.guard = none) (f : FuncId) (xs : List Operand) (ts : Array TypeId) (ho : o.op = .call { callee := .value (.func f), args := xs.toArray, argTypes := ts }) (hf : callB P f = true) (args : List Value) (hargs : xs.map a.eval = args)
    {t : TypeId} {ys : List Value} (h : Calls P f args.toArray w (RetL t ys w)) (hk : ∀ g z, w.heap.size ≤ g → Blk (ext w z) g t ys.toArray → K (a.put o.dst (.slice (some ⟨g, 0, none⟩) ys.length ys.length)) (ext w z)) :
    if Region.wanted o (yielded ops a.tmps) = true then Oper.wp P o a w K Q else E :=
  step_call_of hgd f xs.toArray ts ho hf (by rw [List.map_toArray, hargs]; exact calls_list h fun g z hg hb => hk g z hg hb)
end
/-- the order of a key -/
def ordN (n p : Nat) : List Nat := dec n (List.range n) p
theorem ordN_len (n p : Nat) : (ordN n p).length = n := dec_len _ _ _
theorem ordN_perm {n p : Nat} (hp : p < factN n) : (ordN n p).Perm (List.range n) := dec_perm n _ p (by simp) hp
theorem ordN_lt {n p : Nat} (hp : p < factN n) : ∀ x ∈ ordN n p, x < n := fun _ hx => List.mem_range.1 ((ordN_perm hp).subset hx)
/-- a word with its bits in an order -/
def perF (l : List Nat) (x : BitVec 16) (i : Nat) : Bool := x.getLsbD (l.getD i 0)
def perW (l : List Nat) (x : BitVec 16) : BitVec 16 := wordF l.length (perF l x)
def hidW (n p : Nat) (pad x : BitVec 16) : BitVec 16 := perW (ordN n p) x ^^^ pad
theorem order_lst (n p : Nat) (pad : BitVec 16) (hn : 1 ≤ n ∧ n ≤ 15) (hp : p < factN n) (w : World) : Calls Try.prog 69 #[(K.mk n p pad).val] w fun e w' => ∃ g c, e = .returned (.slice (some ⟨g, 0, none⟩) n c) ∧ Lst 3 w' g c (intsV (ordN n p)) ∧ Ext w w' :=
  (order_any n p pad hn hp w).mono fun e w' ⟨A, c, he, ho, hw⟩ => by
    obtain ⟨g, hg, _, hL⟩ := lst_of_own (by omega) (by rw [ints_len, dec_len]) ho
    subst hg
    exact ⟨g, c, he, hL, hw⟩
theorem ordered_lst (n p : Nat) (hn : 1 ≤ n ∧ n ≤ 15) (hp : p < factN n) (w : World) : Calls Try.prog 70 #[.int .i64 n, .int .i64 p] w fun e w' => ∃ g c, e = .returned (.slice (some ⟨g, 0, none⟩) n c) ∧ Lst 3 w' g c (intsV (ordN n p)) ∧ Ext w w' :=
  (ordered_any n p hn hp w).mono fun e w' ⟨A, c, he, ho, hw⟩ => by
    obtain ⟨g, hg, _, hL⟩ := lst_of_own (by omega) (by rw [ints_len, dec_len]) ho
    subst hg
    exact ⟨g, c, he, hL, hw⟩
theorem calls_lst {P : Program} {f : FuncId} {args : Array Value} {w : World} {n : Nat} {xs : List Value} {R : Ending → World → Prop}
    (h : Calls P f args w fun e w' => ∃ g c, e = .returned (.slice (some ⟨g, 0, none⟩) n c) ∧ Lst 3 w' g c xs ∧ Ext w w') (hR : ∀ g c z, Lst 3 (ext w z) g c xs → R (.returned (.slice (some ⟨g, 0, none⟩) n c)) (ext w z)) : Calls P f args w R :=
  h.mono fun en w' ⟨g, c, he, hb, hw⟩ => by
    subst he
    have := hR g c w'
    rw [ext_of hw] at this
    exact this hb
section
variable {P : Program} {ops : Array Oper} {o : Oper} {a : Act} {w : World} {K : Act → World → Prop} {Q : Exit → Act → World → Prop} {E : Prop}
theorem step_call_lst (hgd : o.guard = none) (f : FuncId) (xs : List Operand) (ts : Array TypeId) (ho : o.op = .call { callee := .value (.func f), args := xs.toArray, argTypes := ts }) (hf : callB P f = true) (args : List Value) (hargs : xs.map a.eval = args)
    {n : Nat} {ys : List Value} (h : Calls P f args.toArray w fun e w' => ∃ g c, e = .returned (.slice (some ⟨g, 0, none⟩) n c) ∧ Lst 3 w' g c ys ∧ Ext w w') (hk : ∀ g c z, Lst 3 (ext w z) g c ys → K (a.put o.dst (.slice (some ⟨g, 0, none⟩) n c)) (ext w z)) :
    if Region.wanted o (yielded ops a.tmps) = true then Oper.wp P o a w K Q else E :=
  step_call_of hgd f xs.toArray ts ho hf (by rw [List.map_toArray, hargs]; exact calls_lst h fun g c z hb => hk g c z hb)
end
set_option maxRecDepth 100000 in
set_option maxHeartbeats 2000000 in
theorem hide_any (n p : Nat) (pad x : BitVec 16) (hn : 1 ≤ n ∧ n ≤ 15) (hp : p < factN n) (w : World) : Calls Try.prog 55 #[(K.mk n p pad).val, .int .u16 (uv x)] w fun e w' => e = .returned (.int .u16 (uv (hidW n p pad x))) ∧ Ext w w' := by
  have hn2 : (n : Int) ≤ 15 := by omega
  go_enter Try.func55, Try.ntmps55
  go_wp2_with fail
  have HB := Lib.hid (Blk.new w 55 #[.int .i64 (n : Int), .int .i64 (p : Int), .int .u16 (uv pad)])
  have HE := Lib.hid ((Ext.refl w).alloc (.cells #[.int .i64 (n : Int), .int .i64 (p : Int), .int .u16 (uv pad)] 55))
  generalize w.alloc (.cells #[.int .i64 (n : Int), .int .i64 (p : Int), .int .u16 (uv pad)] 55) = W at *
  have b0 : W.cell? ⟨w.heap.size, 0, none⟩ = some (.int .i64 (n : Int)) := HB.out.cell 0
  have b1 : W.cell? ⟨w.heap.size, 1, none⟩ = some (.int .i64 (p : Int)) := HB.out.cell 1
  have b2 : W.cell? ⟨w.heap.size, 2, none⟩ = some (.int .u16 (uv pad)) := HB.out.cell 2
  have hO := Old.mk HB.out.lt
  go_region_law (first
    | (refine step_call_list rfl 89 [.tmp 5, .tmp 7] #[27, 3] rfl (by kernel_rfl) [.int .u16 (uv x), .int .i64 n] rfl (bits_any x n hn.2 _) ?_; intro g1 z1 _ hB1; rw [valL_len])
    | (refine step_call_lst rfl 69 [.tmp 9] #[55] rfl (by kernel_rfl) [(K.mk n p pad).val] rfl (order_lst n p pad hn hp _) ?_; intro g2 c2 z2 hL2)
    | (refine step_call_list rfl 88 [.tmp 8, .tmp 10] #[123, 56] rfl (by kernel_rfl) [.slice (some ⟨g1, 0, none⟩) n n, .slice (some ⟨g2, 0, none⟩) n c2] rfl (pick_any (fun i => x.getLsbD i) (ordN n p) n hn.2 (ordN_len n p) (ordN_lt hp) g1 g2 c2 _ (by first | exact hB1 | exact hB1.ext _) (by first | exact hL2 | exact hL2.grow (Ext.ext_self _ _))) ?_; intro g3 z3 _ hB3; rw [valL_len])
    | (refine step_call_ext rfl 87 [.tmp 11] #[123] rfl (by kernel_rfl) [.slice (some ⟨g3, 0, none⟩) n n] rfl (Calls.ext_of_same (word_any (perF (ordN n p) x) n hn.2 g3 _ hB3)) ?_; intro z4))
  all_goals
    go_wp2_with fail
    go_ret
    refine ⟨ret_of (by rw [hidW, perW, ordN_len]; rfl), ?_⟩
    repeat' (first | with_reducible exact HE.out | with_reducible refine Ext.ext ?_ _ | with_reducible refine Ext.drew ?_)
set_option maxRecDepth 100000 in
set_option maxHeartbeats 2000000 in
theorem hidden_any (n p : Nat) (pad x : BitVec 16) (hn : 1 ≤ n ∧ n ≤ 15) (hp : p < factN n) (w : World) : Calls Try.prog 57 #[(K.mk n p pad).val, .int .u16 (uv x)] w fun e w' => e = .returned (.int .u16 (uv (hidW n p pad x))) ∧ Ext w w' := by
  have hn2 : (n : Int) ≤ 15 := by omega
  go_enter Try.func57, Try.ntmps57
  go_wp2_with fail
  have HB := Lib.hid (Blk.new w 55 #[.int .i64 (n : Int), .int .i64 (p : Int), .int .u16 (uv pad)])
  have HE := Lib.hid ((Ext.refl w).alloc (.cells #[.int .i64 (n : Int), .int .i64 (p : Int), .int .u16 (uv pad)] 55))
  generalize w.alloc (.cells #[.int .i64 (n : Int), .int .i64 (p : Int), .int .u16 (uv pad)] 55) = W at *
  have b0 : W.cell? ⟨w.heap.size, 0, none⟩ = some (.int .i64 (n : Int)) := HB.out.cell 0
  have b1 : W.cell? ⟨w.heap.size, 1, none⟩ = some (.int .i64 (p : Int)) := HB.out.cell 1
  have b2 : W.cell? ⟨w.heap.size, 2, none⟩ = some (.int .u16 (uv pad)) := HB.out.cell 2
  have hO := Old.mk HB.out.lt
  go_region_law (first
    | (refine step_call_lst rfl 70 [.tmp 6, .tmp 8] #[3, 3] rfl (by kernel_rfl) [.int .i64 n, .int .i64 p] rfl (ordered_lst n p hn hp _) ?_; intro g2 c2 z2 hL2)
    | (refine step_call_ext rfl 90 [.tmp 9, .tmp 10] #[56, 27] rfl (by kernel_rfl) [.slice (some ⟨g2, 0, none⟩) n c2, .int .u16 (uv x)] rfl (Calls.ext_of_same (permuted_any x (ordN n p) n hn.2 (ordN_len n p) (ordN_lt hp) g2 c2 _ hL2)) ?_; intro z4))
  all_goals
    go_wp2_with fail
    go_ret
    refine ⟨ret_of (by rw [hidW, perW, ordN_len]; rfl), ?_⟩
    repeat' (first | with_reducible exact HE.out | with_reducible refine Ext.ext ?_ _ | with_reducible refine Ext.drew ?_)
end Go.Proofs.Ytfdcapblgdlkaaa
