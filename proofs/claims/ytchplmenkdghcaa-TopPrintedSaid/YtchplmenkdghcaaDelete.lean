/- The library's Compact at lists of two numbers (65). -/
import Derived.Test.YtchplmenkdghcaaSlices
import Derived.Test.YtchplmenkdghcaaPrint
import Derived.Test.YtchplmenkdghcaaTops
namespace Go.Proofs.Ytchplmenkdghcaa
open Go.RowKit
set_option maxRecDepth 100000 in
set_option maxHeartbeats 4000000 in
/-- two that differ stay -/
theorem compact_two (g : Nat) (a b : Int) (hab : a ≠ b) (w : World) (hB : Blk w g 3 #[.int .i64 a, .int .i64 b]) :
    Calls Try.prog 21 #[.slice (some ⟨g, 0, none⟩) 2 2] w fun e w' => e = .returned (.slice (some ⟨g, 0, none⟩) 2 2) ∧ Ext w w' := by
  have c0 : w.cell? ⟨g, 0, none⟩ = some (.int .i64 a) := hB.cell 0
  have c1 : w.cell? ⟨g, 1, none⟩ = some (.int .i64 b) := hB.cell 1
  have hne : (b == a) = false := by simpa using fun h => hab h.symm
  have ho := Old.mk hB.lt
  clear hab hB
  go_enter Try.func21, Try.ntmps21
  go_wp2_with fail
  refine wp_loop_rounds 2 ?_
  rw [rounds_succ]
  go_wp2_with fail
  refine wp_region_ext (by kernel_rfl) (by kernel_rfl) ?_
  repeat (go_big_quiet_step (fail))
  refine wpQuiet_nil ?_
  rintro _ ⟨z2, rfl⟩
  go_wp2_with fail
  rw [rounds_succ]
  go_wp2_with fail
  go_ret
  exact ⟨rfl, Ext.ext_self _ _⟩
set_option maxRecDepth 100000 in
set_option maxHeartbeats 4000000 in
/-- two noughts are one -/
theorem compact_one (g : Nat) (w : World) (hB : Blk w g 3 #[.int .i64 0, .int .i64 0]) :
    Calls Try.prog 21 #[.slice (some ⟨g, 0, none⟩) 2 2] w fun e w' => e = .returned (.slice (some ⟨g, 0, none⟩) 1 2) ∧ Blk w' g 3 #[.int .i64 0, .int .i64 0] ∧ w.grownBy w' (some g) := by
  have c0 : w.cell? ⟨g, 0, none⟩ = some (.int .i64 0) := hB.cell 0
  have c1 : w.cell? ⟨g, 1, none⟩ = some (.int .i64 0) := hB.cell 1
  have HB := Lib.hid hB
  have f1 := hB.frozen
  have ho := Old.mk hB.lt
  have hcl : ∀ z ty, (Builtin.clear_ #[72] ty #[.slice (some ⟨g, 1, none⟩) 1 1]).run Try.prog (ext w z) = .ok (.tuple #[]) ((ext w z).setCell ⟨g, 1, none⟩ (.int .i64 0)) := fun z ty => by
    have := Lib.run_clear_slice (P := Try.prog) (ext w z) 72 3 ty (.int .i64 0) Try.underlying72 Try.zeroValue3 rfl rfl g 1 1 1 (by omega) (fun j hj => by
      obtain rfl : j = 0 := by omega
      rw [ext_cell, c1]
      rfl) (fun j hj => by rw [ext_frozen]; exact f1 _)
    exact this
  clear hB
  go_enter Try.func21, Try.ntmps21
  go_wp2_with fail
  refine wp_loop_rounds 1 ?_
  rw [rounds_succ]
  go_wp2_with fail
  refine wp_region_ext (by kernel_rfl) (by kernel_rfl) ?_
  repeat (go_big_quiet_step (fail))
  refine wpQuiet_nil ?_
  rintro _ ⟨z2, rfl⟩
  go_wp2_with fail
  refine wp_loop_rounds 1 ?_
  rw [rounds_succ]
  go_wp2_with fail
  go_ret
  exact ⟨rfl, (HB.out.ext z2).set_ 1 _, grown_trans (grown_ext (Ext.ext_self w z2) _) (grown_set g 1 _ _)⟩
end Go.Proofs.Ytchplmenkdghcaa
namespace Go.Proofs.Ytchplmenkdghcaa
open Go.RowKit
abbrev rs0 : Rs := ⟨⟨0, 0, 0, 0, 0⟩, 0⟩
theorem flatG_take {α : Type} {sz : Nat} {f : α → List Value} (hf : ∀ x, (f x).length = sz) (l : List α) (k : Nat) : (flatG f l).take (k * sz) = flatG f (l.take k) := by
  induction l generalizing k with
  | nil => simp [flatG]
  | cons x r ih =>
    cases k with
    | zero => simp [flatG]
    | succ k =>
      unfold flatG at ih ⊢
      rw [List.flatMap_cons, List.take_succ_cons, List.flatMap_cons, List.take_append, List.take_of_length_le (by rw [hf, Nat.succ_mul]; omega), hf, show (k + 1) * sz - sz = k * sz by rw [Nat.succ_mul]; omega, ih]
theorem flatG_drop {α : Type} {sz : Nat} {f : α → List Value} (hf : ∀ x, (f x).length = sz) (l : List α) (k : Nat) : (flatG f l).drop (k * sz) = flatG f (l.drop k) := by
  induction l generalizing k with
  | nil => simp [flatG]
  | cons x r ih =>
    cases k with
    | zero => simp [flatG]
    | succ k =>
      unfold flatG at ih ⊢
      rw [List.flatMap_cons, List.drop_succ_cons, List.drop_append, List.drop_of_length_le (by rw [hf, Nat.succ_mul]; omega), List.nil_append, hf, show (k + 1) * sz - sz = k * sz by rw [Nat.succ_mul]; omega, ih]
set_option maxRecDepth 100000 in
set_option maxHeartbeats 4000000 in
theorem delete_any (B : Nat) (l : List Rs) (v : Value) (k : Nat) (hk : k < l.length) (hn : l.length ≤ 60000) (w : World) (h : w.ownsRow B 70 6 v l.length (flatG Rs.cellsL l)) :
    Calls Try.prog 23 #[v, .int .i64 (k : Int), .int .i64 ((k : Int) + 1)] w fun e w' => ∃ v', e = .returned v' ∧ w'.ownsRow B 70 6 v' (l.eraseIdx k).length (flatG Rs.cellsL (l.eraseIdx k)) ∧ w.grownBy w' v.ownBlock ∧ v'.ownBlock = v.ownBlock := by
  obtain ⟨q1, q2⟩ := h
  rcases q2 with ⟨-, q2⟩ | ⟨g, cap, cur, rfl, hb, hB0, hcap, hmx, hcs, htk⟩
  · omega
  have hB : Blk w g 70 cur := hB0
  replace hmx : cap ≤ 9223372036854775807 := hmx
  have hel : (l.eraseIdx k).length = l.length - 1 := by rw [List.length_eraseIdx, if_pos hk]
  obtain ⟨news, hnews⟩ : ∃ news, news = flatG Rs.cellsL (l.drop (k + 1)) := ⟨_, rfl⟩
  have hlen : news.length = (l.length - (k + 1)) * 6 := by rw [hnews, flatG_len rs_len]; simp
  have hat : ∀ t u, news[t]? = some u → cur[(k + 1) * 6 + t]? = some u := by
    intro t u hu
    rw [hnews, ← flatG_drop rs_len, ← htk, List.getElem?_drop, List.getElem?_take] at hu
    split at hu
    · simpa using hu
    · cases hu
  obtain ⟨A, hA, hsrc⟩ : ∃ A : Addr, (if cap = k + 1 then (some ⟨g, 0, none⟩ : Option Addr) else some ⟨g, (k + 1) * 6, none⟩) = some A ∧ Hid (∀ t u, news[t]? = some u → w.drew.cell? (A.add t) = some u) := by
    by_cases hc : cap = k + 1
    · refine ⟨⟨g, 0, none⟩, by simp [hc], Lib.hid fun t u hu => ?_⟩
      have h0 : news.length = 0 := by rw [hlen]; omega
      rw [List.length_eq_zero_iff.1 h0] at hu
      simp at hu
    · refine ⟨⟨g, (k + 1) * 6, none⟩, by simp [hc], Lib.hid fun t u hu => ?_⟩
      rw [Addr.add_lit]
      exact (hB.cell _).trans (hat t u hu)
  have s1 := Lib.hid hlen
  have s2 : Hid (∀ u ∈ news, u.oneCell' = true) := Lib.hid (by rw [hnews]; exact flatG_one rs_one _)
  have s3 : Hid (∀ t, t < news.length → (w.drew.cell? ⟨g, 0 + k * 6 + t, none⟩).isSome = true ∧ w.drew.frozen? ⟨g, 0 + k * 6 + t, none⟩ = false) := Lib.hid fun t ht => by
    rw [hlen] at ht
    refine ⟨?_, hB.drew.frozen _⟩
    have : (w.drew.cell? ⟨g, 0 + k * 6 + t, none⟩) = cur[0 + k * 6 + t]? := hB.cell _
    rw [this, Array.getElem?_eq_getElem (by omega)]
    rfl
  obtain ⟨W1, hW1⟩ : ∃ W1, W1 = w.drew.setCells g (0 + k * 6) news := ⟨_, rfl⟩
  have hB1 : Blk W1 g 70 (putA cur (0 + k * 6) news) := by rw [hW1]; exact Blk.setCells news _ _ _ hB.drew
  have hsz1 : (putA cur (0 + k * 6) news).size = cap * 6 := by rw [putA_size, hcs]
  have hG1 : w.grownBy W1 (some g) := by rw [hW1]; exact grown_trans (grown_ext (Ext.refl w).drew _) (grown_setCells g news _ _)
  have hcl : ∀ ty, (Builtin.clear_ #[43] ty #[.slice (some ⟨g, (l.length - 1) * 6, none⟩) 1 (cap - (l.length - 1))]).run Try.prog W1 = .ok (.tuple #[]) (W1.setCells g ((l.length - 1) * 6) rs0.cellsL) :=
    fun ty => run_clear_one W1 43 70 ty (.agg #[.int .i64 0, .int .i64 0, .int .i64 0, .int .i64 0, .int .i64 0, .int .i64 0]) rs0.cellsL Try.underlying43 Try.zeroValue70 rfl (rs_one rs0) g _ _ (fun j hj => by
      rw [hB1.cell, Array.getElem?_eq_getElem (by rw [hsz1]; have : rs0.cellsL.length = 6 := rfl; omega)]
      rfl) (fun j _ => hB1.frozen _)
  have HB2 := Lib.hid (Blk.setCells rs0.cellsL ((l.length - 1) * 6) _ _ hB1)
  have HG2 := Lib.hid (grown_trans hG1 (grown_setCells g rs0.cellsL ((l.length - 1) * 6) W1))
  have HT : Hid ((putA (putA cur (0 + k * 6) news) ((l.length - 1) * 6) rs0.cellsL).toList.take ((l.length - 1) * 6) = flatG Rs.cellsL (l.eraseIdx k)) := Lib.hid (by
    have e6 : rs0.cellsL.length = 6 := rfl
    apply List.ext_getElem?
    intro j
    rw [List.getElem?_take, List.eraseIdx_eq_take_drop_succ, flatG_app, ← hnews]
    have hl1 : (flatG Rs.cellsL (l.take k)).length = k * 6 := by rw [flatG_len rs_len]; simp; omega
    split
    · rename_i hj
      rw [Array.getElem?_toList, putA_at _ _ _ _ (by rw [hsz1, e6]; omega), if_neg (by omega), putA_at _ _ _ _ (by omega)]
      by_cases hjk : j < k * 6
      · rw [if_neg (by omega), List.getElem?_append_left (by omega), ← flatG_take rs_len, ← htk, List.take_take, List.getElem?_take, if_pos (by omega), Array.getElem?_toList]
      · rw [if_pos (by omega), List.getElem?_append_right (by omega), hl1, Nat.zero_add]
    · rw [List.getElem?_eq_none]
      rw [List.length_append, hl1, hlen]
      omega)
  have hW : Hid (W1 = w.drew.setCells g (0 + k * 6) news) := Lib.hid hW1
  have HF : Hid ((W1.setCells g ((l.length - 1) * 6) rs0.cellsL).ownsRow B 70 6 (.slice (some ⟨g, 0, none⟩) (l.length - 1) cap) (l.eraseIdx k).length (flatG Rs.cellsL (l.eraseIdx k)) ∧ w.grownBy (W1.setCells g ((l.length - 1) * 6) rs0.cellsL) (some g)) := Lib.hid ⟨⟨flatG_len rs_len _, .inr ⟨g, cap, _, by rw [hel], hb, HB2.out, by omega, hmx, by rw [putA_size, hsz1], by rw [hel]; exact HT.out⟩⟩, HG2.out⟩
  clear hW1 hB1 hG1 hB hB0 hat hnews htk hlen hsz1 hcs hel q1 HB2 HG2 HT hn
  generalize l.length = n at *
  have hkc : k ≤ cap := by omega
  have e1 : (k : Int) + 1 = ((k + 1 : Nat) : Int) := by push_cast; rfl
  have e2 : n - 1 = k + (n - (k + 1)) := by omega
  have e3 : n - (k + (n - (k + 1))) = 1 := by omega
  rw [e1]
  rw [e2] at hcl
  replace hcl : ∀ ty, (Builtin.clear_ #[43] ty #[.slice (some ⟨g, (k + (n - (k + 1))) * 6, none⟩) (n - (k + (n - (k + 1)))) (cap - (k + (n - (k + 1))))]).run Try.prog W1 = .ok (.tuple #[]) (W1.setCells g ((k + (n - (k + 1))) * 6) rs0.cellsL) := by rw [e3]; exact hcl
  have hkj : k ≤ k + 1 := by omega
  have hjn : k + 1 ≤ n := by omega
  have hjc : k + 1 ≤ cap := by omega
  have hne : k ≠ k + 1 := by omega
  have HE2 := Lib.hid e2
  clear e1 e2 e3 hk
  generalize k + 1 = j at *
  have hb : ((k : Int) == (j : Int)) = false := by simp; omega
  obtain ⟨-, i0, z0, hi0, -, hsz0, -⟩ := infoRs
  go_enter Try.func23, Try.ntmps23
  go_wp2_with fail
  go_region_law (refine step_append_room rfl (.tmp 22) (.tmp 25) 43 rfl 70 _ 6 Try.underlying43 hi0 hsz0 g 0 k cap (by simp [Act.eval, Act.put]) A (n - j) (cap - j) news (by simp [Act.eval, Act.put]) s1.out hsrc.out s2.out (by omega) s3.out ?_; rw [← hW.out])
  go_wp2_with fail
  go_ret
  exact ⟨_, rfl, by rw [← HE2.out]; exact HF.out.1, by rw [← HE2.out]; exact HF.out.2, rfl⟩
end Go.Proofs.Ytchplmenkdghcaa

