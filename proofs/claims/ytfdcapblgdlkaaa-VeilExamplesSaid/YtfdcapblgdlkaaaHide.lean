/- Bits of words, picked and joined. -/
import Derived.Test.YtfdcapblgdlkaaaLists
namespace Go.Proofs.Ytfdcapblgdlkaaa
open Go.RowKit

def bitV (b : Bool) : Value := .int .u16 (if b then 1 else 0)
theorem bitI_V (x : BitVec 16) (i : Nat) : Value.int .u16 (bitI x i) = bitV (x.getLsbD i) := rfl
set_option maxRecDepth 100000 in
set_option maxHeartbeats 1000000 in
theorem bits_any (x : BitVec 16) (n : Nat) (hn : n ≤ 15) (w : World) : Calls Try.prog 89 #[.int .u16 (uv x), .int .i64 n] w (RetL 27 (valL n fun i => bitV (x.getLsbD i)) w) := by
  have hn2 : (n : Int) ≤ 15 := by omega
  go_enter Try.func89, Try.ntmps89
  go_wp2_with (at_make; refine wpList_make_blk _ rfl (.tmp 7) (.tmp 7) 123 rfl 27 (.int .u16 0) zInfo16 n (by omega) rfl rfl ?_; intro z0 hB0)
  have HB0 := Lib.hid hB0
  clear hB0
  go_loopw [6, 11] (fun _ i wr => ∃ (k : Nat) (z : World), k ≤ n ∧ i = .int .i64 k ∧ wr = ext w z ∧ Blk wr w.heap.size 27 (fillA n (.int .u16 0) (fun i => bitV (x.getLsbD i)) k)) (fun _ i _ => n - (intOf i).toNat)
  case atStart => exact ⟨0, z0, Nat.zero_le _, rfl, rfl, by rw [fill_zero]; exact HB0.out⟩
  case round =>
    obtain ⟨k, z, hk, rfl, rfl, hB⟩ := hrel
    have HB := Lib.hid hB
    by_cases hlt : k < n
    · have hk2 : (k : Int) < (n : Int) := by omega
      have h1 := uv_shr x k
      have h2 := bit_val x k
      have hm1 : min k 16 = k := by omega
      have hm2 : min k 64 = k := by omega
      have hc : (ext w z).cell? ⟨w.heap.size, k, none⟩ = some (.int .u16 0) := by rw [hB.cell, fill_at _ _ _ _ _ hlt, if_neg (Nat.lt_irrefl k)]
      have hf := hB.frozen k
      clear hB
      go_wp2_with fail
      refine ⟨⟨k + 1, _, by omega, by go_num, (ext_of ((Ext.ext_self w z).setCell (Nat.le_refl _) _)).symm, ?_⟩, by simp [intOf]; omega⟩
      rw [← fill_set _ _ _ k (.int .u16 (bitI x k)) rfl]
      exact HB.out.set_ k _
    · obtain rfl : k = n := by omega
      clear hB
      go_wp2_with fail
      go_ret
      exact ⟨w.heap.size, ret_of (by simp only [valL_len]; rfl), Nat.le_refl _, by rw [← fill_full]; exact HB.out, Ext.ext_self w z⟩
set_option maxRecDepth 100000 in
set_option maxHeartbeats 1000000 in
theorem pick_any (f : Nat → Bool) (l : List Nat) (n : Nat) (hn : n ≤ 15) (hl : l.length = n) (hlt : ∀ x ∈ l, x < n) (B g c : Nat) (w : World) (hB : Blk w B 27 (valL n fun i => bitV (f i)).toArray) (hN : Lst 3 w g c (intsV l)) :
    Calls Try.prog 88 #[.slice (some ⟨B, 0, none⟩) n n, .slice (some ⟨g, 0, none⟩) n c] w (RetL 27 (valL n fun i => bitV (f (l.getD i 0))) w) := by
  have hn2 : (n : Int) ≤ 15 := by omega
  have hb1 := Old.mk hB.lt
  have hb2 := Old.mk hN.lt
  have HB1 := Lib.hid hB
  have HN := Lib.hid hN
  clear hB hN
  go_enter Try.func88, Try.ntmps88
  go_wp2_with (at_make; refine wpList_make_blk _ rfl (.tmp 9) (.tmp 9) 123 rfl 27 (.int .u16 0) zInfo16 n (by omega) rfl rfl ?_; intro z0 hB0)
  have HB0 := Lib.hid hB0
  clear hB0
  go_loopw [6, 7, 13] (fun _ _ i wr => ∃ (k : Nat) (z : World), k ≤ n ∧ i = .int .i64 k ∧ wr = ext w z ∧ Blk wr w.heap.size 27 (fillA n (.int .u16 0) (fun i => bitV (f (l.getD i 0))) k)) (fun _ _ i _ => n - (intOf i).toNat)
  case atStart => exact ⟨0, z0, Nat.zero_le _, rfl, rfl, by rw [fill_zero]; exact HB0.out⟩
  case round =>
    obtain ⟨k, z, hk, rfl, rfl, hB⟩ := hrel
    have HB := Lib.hid hB
    by_cases hkn : k < n
    · have hk2 : (k : Int) < (n : Int) := by omega
      have hlk : l.getD k 0 < n := by
        rw [List.getD_eq_getElem?_getD, List.getElem?_eq_getElem (by omega)]
        exact hlt _ (List.getElem_mem _)
      have c1 : w.cell? ⟨g, k, none⟩ = some (.int .i64 ((l.getD k 0 : Nat) : Int)) := by
        rw [HN.out.at_ k (by rw [ints_len]; omega), ints_at, List.getD_eq_getElem?_getD, List.getElem?_eq_getElem (by omega)]; rfl
      generalize hq : l.getD k 0 = q at *
      have HQ := Lib.hid hq
      clear hq
      have hq2 : (q : Int) < (n : Int) := by omega
      have c2 : w.cell? ⟨B, q, none⟩ = some (bitV (f q)) := by rw [HB1.out.cell]; simp only [List.getElem?_toArray]; exact valL_at _ _ _ hlk
      unfold bitV at c2
      have hc : (ext w z).cell? ⟨w.heap.size, k, none⟩ = some (.int .u16 0) := by rw [hB.cell, fill_at _ _ _ _ _ hkn, if_neg (Nat.lt_irrefl k)]
      have hf := hB.frozen k
      clear hB
      go_wp2_with fail
      refine ⟨⟨k + 1, _, by omega, by go_num, (ext_of ((Ext.ext_self w z).setCell (Nat.le_refl _) _)).symm, ?_⟩, by simp [intOf]; omega⟩
      rw [← fill_set _ _ _ k (bitV (f q)) (by rw [HQ.out])]
      exact HB.out.set_ k _
    · obtain rfl : k = n := by omega
      clear hB
      go_wp2_with fail
      go_ret
      exact ⟨w.heap.size, ret_of (by simp only [valL_len]; rfl), Nat.le_refl _, by rw [← fill_full]; exact HB.out, Ext.ext_self w z⟩
theorem lst_int {w : World} {g c : Nat} {l : List Nat} (h : Lst 3 w g c (intsV l)) (j : Nat) (hj : j < l.length) : w.cell? ⟨g, j, none⟩ = some (.int .i64 ((l.getD j 0 : Nat) : Int)) := by
  rw [h.at_ j (by rw [ints_len]; omega), ints_at, List.getD_eq_getElem?_getD, List.getElem?_eq_getElem (by omega)]; rfl
set_option maxRecDepth 100000 in
set_option maxHeartbeats 1000000 in
theorem pickI_any (m l : List Nat) (n c1 : Nat) (hn : n ≤ 15) (hm : m.length = n) (hl : l.length = n) (hlt : ∀ x ∈ l, x < n) (B g c : Nat) (w : World) (hB : Lst 3 w B c1 (intsV m)) (hN : Lst 3 w g c (intsV l)) :
    Calls Try.prog 97 #[.slice (some ⟨B, 0, none⟩) n c1, .slice (some ⟨g, 0, none⟩) n c] w (RetL 3 (valL n fun i => .int .i64 ((m.getD (l.getD i 0) 0 : Nat) : Int)) w) := by
  have hn2 : (n : Int) ≤ 15 := by omega
  have hb1 := Old.mk hB.lt
  have hb2 := Old.mk hN.lt
  have HB1 := Lib.hid hB
  have HN := Lib.hid hN
  clear hB hN
  go_enter Try.func97, Try.ntmps97
  go_wp2_with (at_make; refine wpList_make_blk _ rfl (.tmp 9) (.tmp 9) 56 rfl 3 (.int .i64 0) zInfoI n (by omega) rfl rfl ?_; intro z0 hB0)
  have HB0 := Lib.hid hB0
  clear hB0
  go_loopw [6, 7, 13] (fun _ _ i wr => ∃ (k : Nat) (z : World), k ≤ n ∧ i = .int .i64 k ∧ wr = ext w z ∧ Blk wr w.heap.size 3 (fillA n (.int .i64 0) (fun i => .int .i64 ((m.getD (l.getD i 0) 0 : Nat) : Int)) k)) (fun _ _ i _ => n - (intOf i).toNat)
  case atStart => exact ⟨0, z0, Nat.zero_le _, rfl, rfl, by rw [fill_zero]; exact HB0.out⟩
  case round =>
    obtain ⟨k, z, hk, rfl, rfl, hB⟩ := hrel
    have HB := Lib.hid hB
    by_cases hkn : k < n
    · have hk2 : (k : Int) < (n : Int) := by omega
      have hlk : l.getD k 0 < n := by
        rw [List.getD_eq_getElem?_getD, List.getElem?_eq_getElem (by omega)]
        exact hlt _ (List.getElem_mem _)
      have c1 := lst_int HN.out k (by omega)
      generalize hq : l.getD k 0 = q at *
      have HQ := Lib.hid hq
      clear hq
      have hq2 : (q : Int) < (n : Int) := by omega
      have c2 := lst_int HB1.out q (by omega)
      generalize hr : m.getD q 0 = r at *
      have HR := Lib.hid hr
      clear hr
      have hc : (ext w z).cell? ⟨w.heap.size, k, none⟩ = some (.int .i64 0) := by rw [hB.cell, fill_at _ _ _ _ _ hkn, if_neg (Nat.lt_irrefl k)]
      have hf := hB.frozen k
      clear hB
      go_wp2_with fail
      refine ⟨⟨k + 1, _, by omega, by go_num, (ext_of ((Ext.ext_self w z).setCell (Nat.le_refl _) _)).symm, ?_⟩, by simp [intOf]; omega⟩
      rw [← fill_set _ _ _ k (.int .i64 (r : Int)) (by rw [HQ.out, HR.out])]
      exact HB.out.set_ k _
    · obtain rfl : k = n := by omega
      clear hB
      go_wp2_with fail
      go_ret
      exact ⟨w.heap.size, ret_of (by simp only [valL_len]; rfl), Nat.le_refl _, by rw [← fill_full]; exact HB.out, Ext.ext_self w z⟩
theorem shl_u16 (k : Nat) (hk : k ≤ 15) : IntKind.u16.wrap (2 ^ k) = uv (1#16 <<< k) := by
  have h : 2 ^ k ≤ 2 ^ 15 := Nat.pow_le_pow_right (by omega) hk
  rw [IntKind.wrap_u16]
  unfold uv
  rw [BitVec.toNat_shiftLeft, Nat.shiftLeft_eq]
  have e : (2 : Int) ^ k = ((2 ^ k : Nat) : Int) := by push_cast; rfl
  rw [e]
  simp
theorem uv_or0 (x : BitVec 16) : bits .or .u16 (uv x) 0 = uv x := by
  rw [← uv_zero, uv_or]; simp
set_option maxRecDepth 100000 in
set_option maxHeartbeats 1000000 in
theorem word_any (f : Nat → Bool) (n : Nat) (hn : n ≤ 15) (B : Nat) (w : World) (hB : Blk w B 27 (valL n fun i => bitV (f i)).toArray) :
    Calls Try.prog 87 #[.slice (some ⟨B, 0, none⟩) n n] w fun e w' => e = .returned (.int .u16 (uv (wordF n f))) ∧ w = w' := by
  have hn2 : (n : Int) ≤ 15 := by omega
  have HB1 := Lib.hid hB
  have hz := uv_zero
  clear hB
  go_enter Try.func87, Try.ntmps87
  go_wp2_with fail
  go_loopw [3, 4, 5, 8] (fun o _ _ i wr => ∃ k : Nat, k ≤ n ∧ i = .int .i64 k ∧ wr = w ∧ o = .int .u16 (uv (wordF k f))) (fun _ _ _ i _ => n - (intOf i).toNat)
  case atStart => exact ⟨0, Nat.zero_le _, rfl, rfl, rfl⟩
  case round =>
    obtain ⟨k, hk, rfl, rfl, rfl⟩ := hrel
    by_cases hkn : k < n
    · have hk2 : (k : Int) < (n : Int) := by omega
      have hm1 : min k 16 = k := by omega
      have hm2 : min k 64 = k := by omega
      have c2 : wr.cell? ⟨B, k, none⟩ = some (bitV (f k)) := by rw [HB1.out.cell]; simp only [List.getElem?_toArray]; exact valL_at _ _ _ hkn
      have HS := Lib.hid (show wordF (k + 1) f = wordF k f ||| ((if f k then 1#16 else 0#16) <<< k) from rfl)
      have h1 := shl_u16 k (by omega)
      have h2 := uv_or0 (wordF k f)
      have hk3 : (k : Int) < 64 := by omega
      generalize wordF k f = acc at *
      cases hb : f k
      · rw [hb] at c2 HS
        unfold bitV at c2
        simp only [Bool.false_eq_true, if_false, BitVec.zero_shiftLeft, BitVec.or_zero] at HS c2
        go_wp2_with fail
        refine ⟨⟨k + 1, by omega, by go_num, trivial, by rw [HS.out]⟩, by simp [intOf]; omega⟩
      · rw [hb] at c2 HS
        unfold bitV at c2
        simp only [if_true] at HS c2
        go_wp2_with fail
        refine ⟨⟨k + 1, by omega, by go_num, trivial, by rw [HS.out]⟩, by simp [intOf]; omega⟩
    · obtain rfl : k = n := by omega
      go_wp2_with fail
      go_ret
      exact ⟨rfl, rfl⟩
set_option maxRecDepth 100000 in
set_option maxHeartbeats 1000000 in
theorem permuted_any (x : BitVec 16) (l : List Nat) (n : Nat) (hn : n ≤ 15) (hl : l.length = n) (hlt : ∀ x ∈ l, x < n) (g c : Nat) (w : World) (hN : Lst 3 w g c (intsV l)) :
    Calls Try.prog 90 #[.slice (some ⟨g, 0, none⟩) n c, .int .u16 (uv x)] w fun e w' => e = .returned (.int .u16 (uv (wordF n fun i => x.getLsbD (l.getD i 0)))) ∧ w = w' := by
  have hn2 : (n : Int) ≤ 15 := by omega
  have HN := Lib.hid hN
  have hz := uv_zero
  clear hN
  generalize hff : (fun i => x.getLsbD (l.getD i 0)) = f
  have HF := Lib.hid hff
  clear hff
  go_enter Try.func90, Try.ntmps90
  go_wp2_with fail
  go_loopw [5, 6] (fun o i wr => ∃ k : Nat, k ≤ n ∧ i = .int .i64 k ∧ wr = w ∧ o = .int .u16 (uv (wordF k f))) (fun _ i _ => n - (intOf i).toNat)
  case atStart => exact ⟨0, Nat.zero_le _, rfl, rfl, rfl⟩
  case round =>
    obtain ⟨k, hk, rfl, rfl, rfl⟩ := hrel
    by_cases hkn : k < n
    · have hk2 : (k : Int) < (n : Int) := by omega
      have hlk : l.getD k 0 < n := by
        rw [List.getD_eq_getElem?_getD, List.getElem?_eq_getElem (by omega)]
        exact hlt _ (List.getElem_mem _)
      have c1 := lst_int HN.out k (by omega)
      have hfk : f k = x.getLsbD (l.getD k 0) := by rw [← HF.out]
      generalize hq : l.getD k 0 = q at *
      have hq2 : (q : Int) < (n : Int) := by omega
      clear hq
      have hm1 : min k 16 = k := by omega
      have hm2 : min k 64 = k := by omega
      have hm3 : min q 16 = q := by omega
      have hm4 : min q 64 = q := by omega
      have e1 := uv_shr x q
      have e2 := bit_val x q
      have HS := Lib.hid (show wordF (k + 1) f = wordF k f ||| ((if f k then 1#16 else 0#16) <<< k) from rfl)
      have h1 := shl_u16 k (by omega)
      have h2 := uv_or0 (wordF k f)
      have hk3 : (k : Int) < 64 := by omega
      generalize wordF k f = acc at *
      unfold bitI at e2
      rw [← hfk] at e2
      cases hb : f k
      · rw [hb] at e2 HS
        simp only [Bool.false_eq_true, if_false, BitVec.zero_shiftLeft, BitVec.or_zero] at HS e2
        clear hfk hb
        go_wp2_with fail
        refine ⟨⟨k + 1, by omega, by go_num, trivial, by rw [HS.out]⟩, by simp [intOf]; omega⟩
      · rw [hb] at e2 HS
        simp only [if_true] at HS e2
        clear hfk hb
        go_wp2_with fail
        refine ⟨⟨k + 1, by omega, by go_num, trivial, by rw [HS.out]⟩, by simp [intOf]; omega⟩
    · obtain rfl : k = n := by omega
      go_wp2_with fail
      go_ret
      exact ⟨rfl, rfl⟩
end Go.Proofs.Ytfdcapblgdlkaaa
