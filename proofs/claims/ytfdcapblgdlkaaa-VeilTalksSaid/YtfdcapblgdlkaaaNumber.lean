/- The number of an order; the order that undoes an order. -/
import Derived.Test.YtfdcapblgdlkaaaHidden
namespace Go.Proofs.Ytfdcapblgdlkaaa
open Go.RowKit

theorem num_le (l : List Nat) (n : Nat) (hn : l.length = n) (h15 : n ≤ 15) : num l ≤ 1307674368000 := by
  have h1 := num_lt l
  rw [hn] at h1
  have := fact_le n (by omega)
  omega
theorem drop_num (l : List Nat) (i : Nat) (hi : i < l.length) : num (l.drop i) = ((l.drop (i + 1)).countP (· < l.getD i 0)) * factN (l.length - (i + 1)) + num (l.drop (i + 1)) := by
  rw [List.drop_eq_getElem_cons hi, num, List.length_drop, List.getD_eq_getElem?_getD, List.getElem?_eq_getElem hi]
  rfl
theorem count_step (d : List Nat) (x : Nat) (j : Nat) (hj : j < d.length) : (d.take (j + 1)).countP (· < x) = (d.take j).countP (· < x) + if d.getD j 0 < x then 1 else 0 := by
  rw [List.take_succ_eq_append_getElem hj, List.countP_append, List.countP_singleton, List.getD_eq_getElem?_getD, List.getElem?_eq_getElem hj]
  simp
theorem getD_drop (l : List Nat) (i j : Nat) : (l.drop i).getD j 0 = l.getD (i + j) 0 := by
  rw [List.getD_eq_getElem?_getD, List.getD_eq_getElem?_getD, List.getElem?_drop]
set_option maxRecDepth 100000 in
set_option maxHeartbeats 2000000 in
theorem number_any (l : List Nat) (n : Nat) (hn : n ≤ 15) (hl : l.length = n) (hlt : ∀ x ∈ l, x < n) (g c : Nat) (w : World) (hN : Lst 3 w g c (intsV l)) :
    Calls Try.prog 95 #[.slice (some ⟨g, 0, none⟩) n c] w fun e w' => e = .returned (.int .i64 (num l)) ∧ w = w' := by
  have hn2 : (n : Int) ≤ 15 := by omega
  have hcap : n ≤ c := by obtain ⟨cur, _, h1, _⟩ := hN; rw [ints_len] at h1; omega
  have HN := Lib.hid hN
  have HL := Lib.hid hl
  clear hN
  go_enter Try.func95, Try.ntmps95
  go_wp2_with fail
  go_loopw [3, 4, 5, 6, 8, 11] (fun s3 _ _ _ _ i wr => ∃ k s : Nat, k ≤ n ∧ i = .int .i64 k ∧ wr = w ∧ s3 = .int .i64 (s : Int) ∧ s * factN (n - k) + num (l.drop k) = num l) (fun _ _ _ _ _ i _ => n - (intOf i).toNat)
  case atStart => exact ⟨0, 0, Nat.zero_le _, rfl, rfl, rfl, by simp⟩
  case round =>
    obtain ⟨k, s, hk, rfl, rfl, rfl, hs⟩ := hrel
    by_cases hkn : k < n
    · have hk2 : (k : Int) < (n : Int) := by omega
      have hle := num_le l n hl hn
      have hd := drop_num l k (by omega)
      have hxk : l.getD k 0 < n := by
        rw [List.getD_eq_getElem?_getD, List.getElem?_eq_getElem (by omega)]
        exact hlt _ (List.getElem_mem _)
      have c1 := lst_int HN.out k (by omega)
      have hdl : (l.drop (k + 1)).length = n - (k + 1) := by simp; omega
      have hcells : ∀ j, j < n - (k + 1) → wr.cell? ⟨g, k + 1 + j, none⟩ = some (.int .i64 (((l.drop (k + 1)).getD j 0 : Nat) : Int)) := by
        intro j hj; rw [getD_drop]; exact lst_int HN.out _ (by omega)
      rw [hl] at hd
      have hsk : s * factN (n - k) = s * (n - k) * factN (n - (k + 1)) := by
        have e : n - k = n - (k + 1) + 1 := by omega
        rw [e, factN, Nat.mul_assoc, Nat.mul_comm (factN _)]
        rw [show n - (k + 1) + 1 - 1 = n - (k + 1) by omega] at *
      generalize l.getD k 0 = x at *
      generalize hdd : l.drop (k + 1) = d at *
      have HDD := Lib.hid hdd
      clear hdd
      have hx2 : (x : Int) < (n : Int) := by omega
      have hf := fact_le (n - (k + 1)) (by omega)
      have hcd := List.countP_le_length (p := fun y => decide (y < x)) (l := d)
      have hNW : (s * (n - k) + d.countP (· < x)) * factN (n - (k + 1)) + num d = num l := by
        rw [Nat.add_mul, ← hsk]; omega
      have hbd : s * (n - k) + d.countP (· < x) ≤ 1307674368000 := by
        have h1 : (s * (n - k) + d.countP (· < x)) * 1 ≤ (s * (n - k) + d.countP (· < x)) * factN (n - (k + 1)) := Nat.mul_le_mul_left _ hf.1
        omega
      have HS := Lib.hid hNW
      have HCN := Lib.hid hcells
      have hk1 : k + 1 ≤ n := by omega
      have hk3 : (k : Int) + 1 ≤ (n : Int) := by omega
      have hk4 : (n : Int) ≤ (c : Int) := by omega
      have hk5 : (k : Int) + 1 ≤ (c : Int) := by omega
      clear hs hsk hd hNW hf hle hcells
      by_cases hcd : c = k + 1
      · subst hcd
        obtain rfl : n = k + 1 := by omega
        obtain rfl : d = [] := List.eq_nil_of_length_eq_zero (by omega)
        go_wp2_with fail
        refine wp_loop_rounds 1 ?_
        rw [rounds_succ]
        have hb1 : (s : Int) * (((k + 1 : Nat) : Int) - (k : Int)) = (s : Int) := by rw [show ((k + 1 : Nat) : Int) - (k : Int) = 1 by omega, Int.mul_one]
        have hb2 : (s : Int) ≤ 1307674368000 := by simp at hbd; omega
        go_wp2_with fail
        refine ⟨⟨k + 1, s, Nat.le_refl _, by go_num, trivial, by rw [show (k : Int) + 1 - (k : Int) = 1 by omega, Int.mul_one], ?_⟩, by simp [intOf]⟩
        have := HS.out
        rw [HDD.out]
        simpa [factN, num] using this
      · go_wp2_with fail
        go_loopw [6, 8, 21] (fun s6 _ i2 wr2 => ∃ j : Nat, j ≤ n - (k + 1) ∧ i2 = .int .i64 j ∧ wr2 = wr ∧ s6 = .int .i64 (((d.take j).countP (· < x) : Nat) : Int)) (fun _ _ i _ => n - (k + 1) - (intOf i).toNat)
        case atStart => exact ⟨0, Nat.zero_le _, rfl, rfl, by simp⟩
        case round =>
          obtain ⟨j, hj, rfl, rfl, rfl⟩ := hrel
          by_cases hjn : j < n - (k + 1)
          · have hcj := HCN.out j hjn
            have hst := count_step d x j (by omega)
            have hcl := List.countP_le_length (p := fun y => decide (y < x)) (l := d.take j)
            have htl : (d.take j).length ≤ 15 := by simp; omega
            have hcl2 : (((d.take j).countP (· < x) : Nat) : Int) ≤ 15 := by omega
            generalize d.getD j 0 = y at *
            have hj2 : (j : Int) < (n : Int) - ((k : Int) + 1) := by omega
            have hj3 : (j : Int) < ((n - (k + 1) : Nat) : Int) := by omega
            by_cases hyx : y < x
            · rw [if_pos hyx] at hst
              have HST := Lib.hid hst
              have byx : decide ((y : Int) < (x : Int)) = true := by simp; omega
              generalize (d.take j).countP (· < x) = cc at *
              clear hst hcl htl
              go_wp2_with fail
              refine ⟨⟨j + 1, by omega, by go_num, trivial, by rw [HST.out]; go_num⟩, by simp [intOf]; omega⟩
            · rw [if_neg hyx] at hst
              have HST := Lib.hid hst
              have byx : decide ((y : Int) < (x : Int)) = false := by simp; omega
              generalize (d.take j).countP (· < x) = cc at *
              clear hst hcl htl
              go_wp2_with fail
              refine ⟨⟨j + 1, by omega, by go_num, trivial, by rw [HST.out, Nat.add_zero]⟩, by simp [intOf]; omega⟩
          · have htk : d.take j = d := List.take_of_length_le (by omega)
            rw [htk]
            have hj3 : ((n - (k + 1) : Nat) : Int) ≤ (j : Int) := by omega
            have hb1 : (s : Int) * ((n : Int) - (k : Int)) = ((s * (n - k) : Nat) : Int) := by push_cast; rw [Int.ofNat_sub (by omega)]
            generalize d.countP (· < x) = cc at *
            generalize s * (n - k) = sn at *
            have hb2 : (sn : Int) + (cc : Int) ≤ 1307674368000 := by omega
            clear htk
            go_wp2_with fail
            refine ⟨⟨k + 1, sn + cc, by omega, by go_num, trivial, by go_num, by rw [HDD.out]; exact HS.out⟩, by simp [intOf]; omega⟩
    · obtain rfl : k = n := by omega
      have hs2 : s = num l := by
        rw [Nat.sub_self, List.drop_of_length_le (by omega)] at hs
        simpa [factN, num] using hs
      subst hs2
      go_wp2_with fail
      go_ret
      exact ⟨rfl, rfl⟩

set_option maxRecDepth 100000 in
set_option maxHeartbeats 2000000 in
theorem refNumber_any (l : List Nat) (n : Nat) (hn : n ≤ 15) (hl : l.length = n) (hlt : ∀ x ∈ l, x < n) (g c : Nat) (w : World) (hN : Lst 3 w g c (intsV l)) :
    Calls Try.prog 98 #[.slice (some ⟨g, 0, none⟩) n c] w fun e w' => e = .returned (.int .i64 (num l)) ∧ Ext w w' := by
  have hn2 : (n : Int) ≤ 15 := by omega
  have HN := Lib.hid hN
  have HL := Lib.hid hl
  have hgo := Old.mk hN.lt
  clear hN
  go_enter Try.func98, Try.ntmps98
  go_wp2_with fail
  go_loopw [3, 4, 5, 6] (fun s3 i _ _ wr => ∃ (k s : Nat) (z : World), k ≤ n ∧ i = .int .i64 k ∧ wr = ext w z ∧ s3 = .int .i64 (s : Int) ∧ s + num (l.drop k) = num l) (fun _ i _ _ _ => n - (intOf i).toNat)
  case atStart => exact ⟨0, 0, w, Nat.zero_le _, rfl, (ext_of (Ext.refl w)).symm, rfl, by simp⟩
  case round =>
    obtain ⟨k, s, z, hk, rfl, rfl, rfl, hs⟩ := hrel
    by_cases hkn : k < n
    · have hk2 : (k : Int) < (n : Int) := by omega
      have hle := num_le l n hl hn
      have hd := drop_num l k (by omega)
      have hxk : l.getD k 0 < n := by
        rw [List.getD_eq_getElem?_getD, List.getElem?_eq_getElem (by omega)]
        exact hlt _ (List.getElem_mem _)
      have c1 := lst_int HN.out k (by omega)
      have hdl : (l.drop (k + 1)).length = n - (k + 1) := by simp; omega
      have hcells : ∀ j, j < n - (k + 1) → w.cell? ⟨g, k + 1 + j, none⟩ = some (.int .i64 (((l.drop (k + 1)).getD j 0 : Nat) : Int)) := by
        intro j hj; rw [getD_drop]; exact lst_int HN.out _ (by omega)
      rw [hl] at hd
      generalize l.getD k 0 = x at *
      generalize hdd : l.drop (k + 1) = d at *
      have HDD := Lib.hid hdd
      clear hdd
      have hx2 : (x : Int) < (n : Int) := by omega
      have hf := fact_le (n - (k + 1)) (by omega)
      have hcd := List.countP_le_length (p := fun y => decide (y < x)) (l := d)
      have C := Lib.hid (refFact_any (n - (k + 1)) (by omega))
      generalize factN (n - (k + 1)) = F at *
      have hHS : s + d.countP (· < x) * F + num d = num l := by omega
      have HS := Lib.hid hHS
      have hbd : s + d.countP (· < x) * F ≤ 1307674368000 := by omega
      have hsb : (s : Int) ≤ 1307674368000 := by omega
      have HCN := Lib.hid hcells
      have hk1 : k + 1 ≤ n := by omega
      have hk3 : (k : Int) + 1 ≤ (n : Int) := by omega
      clear hs hd hHS hle hcells
      go_wp2_with fail
      go_loopw [5, 6] (fun s6 i2 wr2 => ∃ (j : Nat) (z2 : World), j ≤ n - (k + 1) ∧ i2 = .int .i64 ((k : Int) + 1 + j) ∧ wr2 = ext w z2 ∧ s6 = .int .i64 (((d.take j).countP (· < x) : Nat) : Int)) (fun _ i => fun _ => n - (intOf i).toNat)
      case atStart => exact ⟨0, z, Nat.zero_le _, by simp, rfl, by simp⟩
      case round =>
        obtain ⟨j, z2, hj, rfl, rfl, rfl⟩ := hrel
        by_cases hjn : j < n - (k + 1)
        · have hcj := HCN.out j hjn
          have hst := count_step d x j (by omega)
          have hcl := List.countP_le_length (p := fun y => decide (y < x)) (l := d.take j)
          have htl : (d.take j).length ≤ 15 := by simp; omega
          have hcl2 : (((d.take j).countP (· < x) : Nat) : Int) ≤ 15 := by omega
          generalize d.getD j 0 = y at *
          have hj3 : (k : Int) + 1 + (j : Int) < (n : Int) := by omega
          by_cases hyx : y < x
          · rw [if_pos hyx] at hst
            have HST := Lib.hid hst
            have byx : decide ((y : Int) < (x : Int)) = true := by simp; omega
            generalize (d.take j).countP (· < x) = cc at *
            clear hst hcl htl hbd hf hcd
            go_wp2_with fail
            refine wp_region_ext (by kernel_rfl) (by kernel_rfl) ?_
            repeat (go_big_quiet_step (fail))
            refine wpQuiet_nil ?_
            rintro _ ⟨z3, rfl⟩
            go_wp2_with fail
            refine ⟨⟨j + 1, _, by omega, by go_num, (ext_of ((Ext.ext_self w z2).ext z3)).symm, by rw [HST.out]; go_num⟩, by simp [intOf]; omega⟩
          · rw [if_neg hyx] at hst
            have HST := Lib.hid hst
            have byx : decide ((y : Int) < (x : Int)) = false := by simp; omega
            generalize (d.take j).countP (· < x) = cc at *
            clear hst hcl htl hbd hf hcd
            go_wp2_with fail
            refine wp_region_ext (by kernel_rfl) (by kernel_rfl) ?_
            repeat (go_big_quiet_step (fail))
            refine wpQuiet_nil ?_
            rintro _ ⟨z3, rfl⟩
            go_wp2_with fail
            refine ⟨⟨j + 1, _, by omega, by go_num, (ext_of ((Ext.ext_self w z2).ext z3)).symm, by rw [HST.out, Nat.add_zero]⟩, by simp [intOf]; omega⟩
        · have htk : d.take j = d := List.take_of_length_le (by omega)
          rw [htk]
          have hj3 : (n : Int) ≤ (k : Int) + 1 + (j : Int) := by omega
          have hb1 : (((d.countP (· < x)) : Nat) : Int) * (F : Int) = ((d.countP (· < x) * F : Nat) : Int) := by push_cast; rfl
          have hnk : (n : Int) - 1 - (k : Int) = ((n - (k + 1) : Nat) : Int) := by omega
          have hnw : IntKind.i64.wrap ((n : Int) - 1 - (k : Int)) = ((n - (k + 1) : Nat) : Int) := by rw [hnk]; exact IntWalk.i64_in _ (by omega)
          generalize hNK : n - (k + 1) = nk at *
          generalize d.countP (· < x) = cc at *
          generalize cc * F = sn at *
          have hb2 : (s : Int) + (sn : Int) ≤ 1307674368000 := by omega
          clear htk hf hcd hnw
          go_wp2_with (go_at_call 45; refine Calls.same (C.out _) ?_)
          refine ⟨⟨k + 1, s + sn, _, by omega, by go_num, rfl, by go_num, by rw [HDD.out]; exact HS.out⟩, by simp [intOf]; omega⟩
    · obtain rfl : k = n := by omega
      have hs2 : s = num l := by
        rw [List.drop_of_length_le (by omega)] at hs
        simpa [num] using hs
      subst hs2
      go_wp2_with fail
      go_ret
      exact ⟨rfl, Ext.ext_self _ _⟩

/-- the order that undoes an order -/
def inv (l : List Nat) : List Nat := (List.range l.length).map fun v => l.idxOf v
theorem inv_len (l : List Nat) : (inv l).length = l.length := by simp [inv]
def invA (l : List Nat) (k : Nat) : Array Value := ((List.range l.length).map fun v => Value.int .i64 ((if l.idxOf v < k then l.idxOf v else 0 : Nat) : Int)).toArray
theorem invA_zero (l : List Nat) : invA l 0 = Array.replicate l.length (.int .i64 0) := by
  apply Array.ext
  · simp [invA]
  · intro i h1 h2; simp [invA]
theorem idxOf_at {l : List Nat} (hd : l.Nodup) (k : Nat) (hk : k < l.length) : l.idxOf (l.getD k 0) = k := by
  rw [List.getD_eq_getElem?_getD, List.getElem?_eq_getElem hk]
  exact hd.idxOf_getElem k hk
theorem invA_at (l : List Nat) (k q : Nat) (hq : q < l.length) : (invA l k)[q]? = some (.int .i64 ((if l.idxOf q < k then l.idxOf q else 0 : Nat) : Int)) := by
  unfold invA; simp [hq]
theorem invA_set {l : List Nat} (hd : l.Nodup) (k : Nat) (hk : k < l.length) : (invA l k).setIfInBounds (l.getD k 0) (.int .i64 (k : Int)) = invA l (k + 1) := by
  apply Array.ext
  · simp [invA]
  · intro i h1 h2
    have hi : i < l.length := by simpa [invA] using h2
    rw [Array.getElem_setIfInBounds (by simpa [invA] using hi)]
    simp only [invA, List.getElem_toArray, List.getElem_map, List.getElem_range]
    by_cases h : l.getD k 0 = i
    · rw [if_pos h, ← h, idxOf_at hd k hk, if_pos (by omega)]
    · rw [if_neg h]
      have e : (l.idxOf i < k + 1) ↔ (l.idxOf i < k) := by
        constructor
        · intro h3
          rcases Nat.lt_or_ge (l.idxOf i) k with h4 | h4
          · exact h4
          · exfalso
            have h5 : l.idxOf i = k := by omega
            have h6 : l.idxOf i < l.length := by omega
            have h7 := List.getElem_idxOf h6
            apply h
            rw [List.getD_eq_getElem?_getD, ← h5, List.getElem?_eq_getElem h6]
            exact h7
        · omega
      simp only [e]
theorem invA_full {l : List Nat} {n : Nat} (hl : l.length = n) (hp : l.Perm (List.range n)) : invA l n = (intsV (inv l)).toArray := by
  unfold invA intsV inv
  rw [List.map_map]
  congr 1
  apply List.map_congr_left
  intro v hv
  have hvn : v < n := by rw [← hl]; exact List.mem_range.1 hv
  have hm : v ∈ l := hp.symm.subset (List.mem_range.2 hvn)
  have := List.idxOf_lt_length_of_mem hm
  simp only [Function.comp]
  rw [if_pos (by omega)]
set_option maxRecDepth 100000 in
set_option maxHeartbeats 2000000 in
theorem inverse_any (l : List Nat) (n : Nat) (hn : n ≤ 15) (hl : l.length = n) (hp : l.Perm (List.range n)) (g c : Nat) (w : World) (hN : Lst 3 w g c (intsV l)) :
    Calls Try.prog 94 #[.slice (some ⟨g, 0, none⟩) n c] w (RetL 3 (intsV (inv l)) w) := by
  have hn2 : (n : Int) ≤ 15 := by omega
  have hgo := Old.mk hN.lt
  have HN := Lib.hid hN
  have hd : l.Nodup := hp.symm.nodup List.nodup_range
  clear hN
  go_enter Try.func94, Try.ntmps94
  go_wp2_with (at_make; refine wpList_make_blk _ rfl (.tmp 7) (.tmp 7) 56 rfl 3 (.int .i64 0) zInfoI n (by omega) rfl rfl ?_; intro z0 hB0)
  have HB0 := Lib.hid hB0
  clear hB0
  go_loopw [4, 5, 11] (fun _ _ i wr => ∃ (k : Nat) (z : World), k ≤ n ∧ i = .int .i64 k ∧ wr = ext w z ∧ Blk wr w.heap.size 3 (invA l k)) (fun _ _ i _ => n - (intOf i).toNat)
  case atStart => exact ⟨0, z0, Nat.zero_le _, rfl, rfl, by rw [invA_zero, hl]; exact HB0.out⟩
  case round =>
    obtain ⟨k, z, hk, rfl, rfl, hB⟩ := hrel
    have HB := Lib.hid hB
    by_cases hkn : k < n
    · have hk2 : (k : Int) < (n : Int) := by omega
      have hlk : l.getD k 0 < n := by
        rw [List.getD_eq_getElem?_getD, List.getElem?_eq_getElem (by omega)]
        exact List.mem_range.1 (hp.subset (List.getElem_mem _))
      have c1 := lst_int HN.out k (by omega)
      have HSet := Lib.hid (invA_set hd k (by omega))
      have hc := (hB.cell (l.getD k 0)).trans (invA_at l k _ (by omega))
      generalize hq : l.getD k 0 = q at *
      have hq2 : (q : Int) < (n : Int) := by omega
      have hf := hB.frozen q
      generalize (if l.idxOf q < k then l.idxOf q else 0) = old at *
      clear hB hq hp hd
      go_wp2_with fail
      refine ⟨⟨k + 1, _, by omega, by go_num, (ext_of ((Ext.ext_self w z).setCell (Nat.le_refl _) _)).symm, ?_⟩, by simp [intOf]; omega⟩
      rw [← HSet.out]
      exact HB.out.set_ q _
    · obtain rfl : k = n := by omega
      clear hB
      have HF := Lib.hid (invA_full hl hp)
      clear hp hd
      go_wp2_with fail
      go_ret
      exact ⟨w.heap.size, ret_of (by simp only [ints_len, inv_len, hl]; rfl), Nat.le_refl _, by rw [← HF.out]; exact HB.out, Ext.ext_self w z⟩
set_option maxRecDepth 100000 in
set_option maxHeartbeats 2000000 in
theorem back_any (l : List Nat) (n : Nat) (hn : n ≤ 15) (hl : l.length = n) (hp : l.Perm (List.range n)) (g c : Nat) (w : World) (hN : Lst 3 w g c (intsV l)) :
    Calls Try.prog 96 #[.slice (some ⟨g, 0, none⟩) n c] w (RetL 3 (intsV (inv l)) w) := by
  have hn2 : (n : Int) ≤ 15 := by omega
  have hgo := Old.mk hN.lt
  have HN := Lib.hid hN
  have hd : l.Nodup := hp.symm.nodup List.nodup_range
  clear hN
  go_enter Try.func96, Try.ntmps96
  go_wp2_with (at_make; refine wpList_make_blk _ rfl (.tmp 6) (.tmp 6) 56 rfl 3 (.int .i64 0) zInfoI n (by omega) rfl rfl ?_; intro z0 hB0)
  have HB0 := Lib.hid hB0
  clear hB0
  go_loopw [4] (fun i wr => ∃ (k : Nat) (z : World), k ≤ n ∧ i = .int .i64 k ∧ wr = ext w z ∧ Blk wr w.heap.size 3 (invA l k)) (fun i _ => n - (intOf i).toNat)
  case atStart => exact ⟨0, z0, Nat.zero_le _, rfl, rfl, by rw [invA_zero, hl]; exact HB0.out⟩
  case round =>
    obtain ⟨k, z, hk, rfl, rfl, hB⟩ := hrel
    have HB := Lib.hid hB
    by_cases hkn : k < n
    · have hk2 : (k : Int) < (n : Int) := by omega
      have hlk : l.getD k 0 < n := by
        rw [List.getD_eq_getElem?_getD, List.getElem?_eq_getElem (by omega)]
        exact List.mem_range.1 (hp.subset (List.getElem_mem _))
      have c1 := lst_int HN.out k (by omega)
      have HSet := Lib.hid (invA_set hd k (by omega))
      have hc := (hB.cell (l.getD k 0)).trans (invA_at l k _ (by omega))
      generalize hq : l.getD k 0 = q at *
      have hq2 : (q : Int) < (n : Int) := by omega
      have hf := hB.frozen q
      generalize (if l.idxOf q < k then l.idxOf q else 0) = old at *
      clear hB hq hp hd
      go_wp2_with fail
      refine ⟨⟨k + 1, _, by omega, by go_num, (ext_of ((Ext.ext_self w z).setCell (Nat.le_refl _) _)).symm, ?_⟩, by simp [intOf]; omega⟩
      rw [← HSet.out]
      exact HB.out.set_ q _
    · obtain rfl : k = n := by omega
      clear hB
      have HF := Lib.hid (invA_full hl hp)
      clear hp hd
      go_wp2_with fail
      go_ret
      exact ⟨w.heap.size, ret_of (by simp only [ints_len, inv_len, hl]; rfl), Nat.le_refl _, by rw [← HF.out]; exact HB.out, Ext.ext_self w z⟩
end Go.Proofs.Ytfdcapblgdlkaaa
