/- How many keys hide a word as a word. -/
import Derived.Test.YtfdcapblgdlkaaaHidden
namespace Go.Proofs.Ytfdcapblgdlkaaa
open Go.RowKit

theorem perW_at (l : List Nat) (x : BitVec 16) (i : Nat) (hi : i < 16) : (perW l x).getLsbD i = (decide (i < l.length) && x.getLsbD (l.getD i 0)) := wordF_at _ _ _ hi
theorem fit_iff (n : Nat) (x : BitVec 16) : fitB n x = true ↔ ∀ i, n ≤ i → x.getLsbD i = false := by
  unfold fitB
  rw [decide_eq_true_eq]
  constructor
  · intro h i hi
    rw [← BitVec.testBit_toNat]
    exact Nat.testBit_lt_two_pow (Nat.lt_of_lt_of_le h (Nat.pow_le_pow_right (by omega) hi))
  · intro h
    apply Nat.lt_pow_two_of_testBit
    intro i hi
    rw [BitVec.testBit_toNat]
    exact h i hi
theorem fit_xor {n : Nat} {x y : BitVec 16} (hx : fitB n x = true) (hy : fitB n y = true) : fitB n (x ^^^ y) = true := by
  rw [fit_iff] at *
  intro i hi
  rw [BitVec.getLsbD_xor, hx i hi, hy i hi]; rfl
theorem fit_perW (l : List Nat) (x : BitVec 16) : fitB l.length (perW l x) = true := by
  rw [fit_iff]
  intro i hi
  rcases Nat.lt_or_ge i 16 with h | h
  · rw [perW_at _ _ _ h]; simp; omega
  · simp [h]
theorem fit_hidW {n p : Nat} {pad x : BitVec 16} (h : fitB n pad = true) : fitB n (hidW n p pad x) = true := by
  have := fit_perW (ordN n p) x
  rw [ordN_len] at this
  exact fit_xor this h
def okV (n : Int) (x h : BitVec 16) : Bool := inB n 1 5 && fitB n.toNat x && fitB n.toNat h
def viewsV (n : Int) (x h : BitVec 16) : Value := if okV n x h then .tuple #[.int .i64 (factN n.toNat), .int .i64 0] else .tuple #[.int .i64 0, .int .i64 2]
theorem okV_parts {n : Nat} {x h : BitVec 16} (hk : okV n x h = true) : (1 ≤ n ∧ n ≤ 5) ∧ fitB n x = true ∧ fitB n h = true := by
  simp only [okV, inB, Bool.and_eq_true, decide_eq_true_eq, Int.toNat_natCast] at hk
  exact ⟨by omega, hk.1.2, hk.2⟩
theorem fit_lt {n : Nat} {x : BitVec 16} (h : fitB n x = true) : uv x < ((2 ^ n : Nat) : Int) := by
  unfold fitB at h; rw [decide_eq_true_eq] at h; unfold uv; omega
theorem fit_ge {n : Nat} {x : BitVec 16} (h : fitB n x = false) : ((2 ^ n : Nat) : Int) ≤ uv x := by
  unfold fitB at h; rw [decide_eq_false_iff_not] at h; unfold uv; omega
theorem hid_pad (n p : Nat) (x h : BitVec 16) : hidW n p 0#16 x ^^^ h = hidW n p h x := by unfold hidW; simp
theorem chk_view {n p : Nat} {x h : BitVec 16} (hn : 1 ≤ n ∧ n ≤ 5) (hp : p < factN n) (hh : fitB n h = true) : chkK ⟨n, p, hidW n p h x⟩ = 0 := by
  have h1 := fit_hidW (n := n) (p := p) (x := x) hh
  unfold chkK
  rw [if_pos]
  simp only [okK, Int.toNat_natCast, h1, Bool.and_true, inB, Bool.and_eq_true, decide_eq_true_eq]
  omega
theorem fact_le5 : ∀ n, n < 6 → factN n ≤ 120 := by decide
set_option maxRecDepth 100000 in
set_option maxHeartbeats 2000000 in
theorem views_ok (n : Nat) (x h : BitVec 16) (hk : okV n x h = true) (w : World) : Calls Try.prog 19 #[.int .i64 n, .int .u16 (uv x), .int .u16 (uv h)] w fun e w' => e = .returned (.tuple #[.int .i64 (factN n), .int .i64 0]) ∧ Ext w w' := by
  obtain ⟨hn, hx, hh⟩ := okV_parts hk
  have hn2 : (n : Int) ≤ 5 := by omega
  have hn3 : (1 : Int) ≤ n := by omega
  have hs := shl_i64 n (by omega)
  have fx := fit_lt hx
  have fh := fit_lt hh
  have hN := Nat.pow_le_pow_right (n := 2) (by omega) hn.2
  generalize 2 ^ n = N at *
  have bx : decide ((N : Int) ≤ uv x) = false := by simp; omega
  have bh : decide ((N : Int) ≤ uv h) = false := by simp; omega
  have hx2 := uv_lt x
  have hh2 := uv_lt h
  have hn64 : (n : Int) < 64 := by omega
  have hF := fact_le5 n (by omega)
  have C := Lib.hid (fact_any n (by omega))
  go_enter Try.func19, Try.ntmps19
  go_wp2_with (go_at_call 54; refine Calls.same (C.out _) ?_)
  go_loopw [8, 9, 10, 33] (fun s8 _ _ i wr => ∃ (k : Nat) (z : World), k ≤ factN n ∧ i = .int .i64 k ∧ s8 = .int .i64 k ∧ wr = ext w z) (fun _ _ _ i _ => factN n - (intOf i).toNat)
  case atStart => exact ⟨0, w, Nat.zero_le _, rfl, rfl, (ext_of (Ext.refl w)).symm⟩
  case round =>
    obtain ⟨k, z, hk2, rfl, rfl, rfl⟩ := hrel
    by_cases hlt : k < factN n
    · have hk3 : (k : Int) < (factN n : Int) := by omega
      have C1 := Lib.hid (show ∀ w, Calls Try.prog 55 #[.agg #[.int .i64 n, .int .i64 k, .int .u16 0], .int .u16 (uv x)] w fun e w' => e = .returned (.int .u16 (uv (hidW n k 0#16 x))) ∧ Ext w w' from fun w => hide_any n k 0#16 x (by omega) hlt w)
      have C2 := Lib.hid (fun w => (chk_view (x := x) (h := h) hn hlt hh) ▸ check_any ⟨n, k, hidW n k h x⟩ w)
      have HP := hid_pad n k x h
      generalize hidW n k h x = y at *
      clear hlt hk2
      go_wp2_with (first | (go_at_call 55; refine Calls.ext (C1.out _) fun z1 => ?_) | (go_at_call 30; refine Calls.ext (C2.out _) fun z2 => ?_))
      refine ⟨⟨k + 1, _, by omega, by go_num, by go_num, (ext_of (Ext.ext (Ext.setCell (Ext.ext ((Ext.ext_self w z).alloc _) _) (ext_size w z) _) _)).symm⟩, by simp [intOf]; omega⟩
    · obtain rfl : k = factN n := by omega
      go_wp2_with fail
      go_ret2
      exact ⟨rfl, Ext.ext_self _ _⟩
theorem tgt_iff (n p : Nat) (x h q : BitVec 16) : (hidW n p q x == h) = (q == hidW n p h x) := by
  unfold hidW
  generalize perW (ordN n p) x = b
  rw [Bool.eq_iff_iff, beq_iff_eq, beq_iff_eq]
  constructor
  · intro e; rw [← e, ← BitVec.xor_assoc, BitVec.xor_self, BitVec.zero_xor]
  · intro e; rw [e, ← BitVec.xor_assoc, BitVec.xor_self, BitVec.zero_xor]
theorem conv16 (j : Nat) : IntKind.u16.wrap (j : Int) = uv (BitVec.ofNat 16 j) := by
  rw [IntKind.wrap_u16]; unfold uv; rw [BitVec.toNat_ofNat]; omega
set_option maxRecDepth 100000 in
set_option maxHeartbeats 2000000 in
theorem refViews_ok (n : Nat) (x h : BitVec 16) (hk : okV n x h = true) (w : World) : Calls Try.prog 20 #[.int .i64 n, .int .u16 (uv x), .int .u16 (uv h)] w fun e w' => e = .returned (.tuple #[.int .i64 (factN n), .int .i64 0]) ∧ Ext w w' := by
  obtain ⟨hn, hx, hh⟩ := okV_parts hk
  have hn2 : (n : Int) ≤ 5 := by omega
  have hn3 : (1 : Int) ≤ n := by omega
  have hs := shl_i64 n (by omega)
  have C0 := Lib.hid (show ∀ w, Calls Try.prog 56 #[.int .i64 n, .int .i64 1, .int .i64 5] w fun e w' => e = .returned (.bool true) ∧ w = w' from fun w => (show inB n 1 5 = true by simp [inB]; omega) ▸ within_any n 1 5 w)
  have C1 := Lib.hid (fun w => hx ▸ fits_any n (by omega) x w)
  have C2 := Lib.hid (fun w => hh ▸ fits_any n (by omega) h w)
  have hT := Lib.hid (show ∀ k, (hidW n k h x).toNat < 2 ^ n from fun k => by have := fit_hidW (n := n) (p := k) (x := x) hh; simpa [fitB] using this)
  have hN := Nat.pow_le_pow_right (n := 2) (by omega) hn.2
  generalize 2 ^ n = N at *
  have hn64 : (n : Int) < 64 := by omega
  have hF := fact_le5 n (by omega)
  have C := Lib.hid (refFact_any n (by omega))
  clear hk hx hh
  go_enter Try.func20, Try.ntmps20
  go_wp2_with (first | (go_at_call 56; refine Calls.same (C0.out _) ?_) | (go_at_call 44; refine Calls.same (C1.out _) ?_) | (go_at_call 44; refine Calls.same (C2.out _) ?_) | (go_at_call 45; refine Calls.same (C.out _) ?_))
  go_loopw [8, 9, 10] (fun s8 i _ wr => ∃ (k : Nat) (z : World), k ≤ factN n ∧ i = .int .i64 k ∧ s8 = .int .i64 k ∧ wr = ext w z) (fun _ i _ _ => factN n - (intOf i).toNat)
  case atStart => exact ⟨0, w, Nat.zero_le _, rfl, rfl, (ext_of (Ext.refl w)).symm⟩
  case round =>
    obtain ⟨k, z, hk2, rfl, rfl, rfl⟩ := hrel
    by_cases hlt : k < factN n
    · have hk3 : (k : Int) < (factN n : Int) := by omega
      have H := Lib.hid (fun q w => hidden_any n k q x (by omega) hlt w)
      have hT2 := hT.out k
      have HTG := Lib.hid (tgt_iff n k x h)
      go_wp2_with (first | (go_at_call 45; refine Calls.same (C.out _) ?_))
      go_loopw [8, 10] (fun s8 i wr => ∃ (j c : Nat) (z : World), j ≤ N ∧ i = .int .i64 j ∧ s8 = .int .i64 (c : Int) ∧ c = k + (if (hidW n k h x).toNat < j then 1 else 0) ∧ wr = ext w z) (fun _ i _ => N - (intOf i).toNat)
      case atStart => exact ⟨0, k, z, Nat.zero_le _, rfl, rfl, rfl, rfl⟩
      case round =>
        obtain ⟨j, c, z2, hj, rfl, rfl, hcc, rfl⟩ := hrel
        have hcb : c ≤ k + 1 := by rw [hcc]; split <;> omega
        generalize hidW n k h x = tg at *
        by_cases hlj : j < N
        · have hj3 : (j : Int) < (N : Int) := by omega
          have hcv := conv16 j
          have hne : (uv (hidW n k (BitVec.ofNat 16 j) x) == uv h) = decide (tg.toNat = j) := by
            rw [uv_eq, HTG.out, Bool.eq_iff_iff, beq_iff_eq, decide_eq_true_eq]
            constructor
            · intro e; rw [← e, BitVec.toNat_ofNat]; omega
            · intro e; apply BitVec.eq_of_toNat_eq; rw [BitVec.toNat_ofNat]; omega
          have H1 := Lib.hid (H.out (BitVec.ofNat 16 j))
          rw [uv_eq] at hne
          generalize BitVec.ofNat 16 j = jj at *
          generalize hidW n k jj x = res at *
          have HCC := Lib.hid hcc
          clear hT2 hcc
          have hc3 : (c : Int) ≤ 121 := by omega
          have hN3 : (N : Int) ≤ 32 := by omega
          clear hcb hj hlt hk2 hF hN
          by_cases hc : tg.toNat = j
          · have hne2 : (res == h) = true := by rw [hne]; simp; omega
            have hif := Lib.hid (show c + 1 = k + (if tg.toNat < j + 1 then 1 else 0) by rw [HCC.out, if_neg (by omega), if_pos (by omega)])
            clear hne hc
            go_wp2_with (go_at_call 57; refine Calls.ext (H1.out _) fun z3 => ?_)
            refine ⟨⟨j + 1, c + 1, _, by omega, by go_num, by go_num, hif.out, (ext_of ((Ext.ext_self w z2).ext z3)).symm⟩, by simp [intOf]; omega⟩
          · have hne2 : (res == h) = false := by rw [hne]; simp; omega
            have hif := Lib.hid (show c = k + (if tg.toNat < j + 1 then 1 else 0) by
              rw [HCC.out]
              have e : (tg.toNat < j + 1) ↔ (tg.toNat < j) := by omega
              simp only [e])
            clear hne hc
            go_wp2_with (go_at_call 57; refine Calls.ext (H1.out _) fun z3 => ?_)
            refine ⟨⟨j + 1, c, _, by omega, by go_num, rfl, hif.out, (ext_of ((Ext.ext_self w z2).ext z3)).symm⟩, by simp [intOf]; omega⟩
        · obtain rfl : j = N := by omega
          rw [if_pos hT2] at hcc
          subst hcc
          go_wp2_with fail
          refine ⟨⟨k + 1, _, by omega, by go_num, by go_num, rfl⟩, by simp [intOf]; omega⟩
    · obtain rfl : k = factN n := by omega
      go_wp2_with (first | (go_at_call 45; refine Calls.same (C.out _) ?_))
      go_ret2
      exact ⟨rfl, Ext.ext_self _ _⟩
theorem okV_bad {n : Int} {x h : BitVec 16} (hk : okV n x h = false) : (n < 1 ∨ 5 < n) ∨ ∃ m : Nat, n = m ∧ 1 ≤ m ∧ m ≤ 5 ∧ (fitB m x = false ∨ fitB m x = true ∧ fitB m h = false) := by
  by_cases hn : 1 ≤ n ∧ n ≤ 5
  · right
    obtain ⟨m, rfl⟩ := Int.eq_ofNat_of_zero_le (show 0 ≤ n by omega)
    refine ⟨m, rfl, by omega, by omega, ?_⟩
    have hi : inB (m : Int) 1 5 = true := by simp only [inB, Bool.and_eq_true, decide_eq_true_eq]; exact hn
    have e : okV (m : Int) x h = (fitB m x && fitB m h) := by
      unfold okV; rw [hi]; simp
    rw [e] at hk
    cases h1 : fitB m x
    · exact .inl rfl
    · rw [h1] at hk; exact .inr ⟨rfl, by simpa using hk⟩
  · left; omega
set_option maxRecDepth 100000 in
set_option maxHeartbeats 2000000 in
theorem views_bad (n : Int) (x h : BitVec 16) (hk : okV n x h = false) (w : World) : Calls Try.prog 19 #[.int .i64 n, .int .u16 (uv x), .int .u16 (uv h)] w fun e w' => e = .returned (.tuple #[.int .i64 0, .int .i64 2]) ∧ w = w' := by
  rcases okV_bad hk with (h1 | h1) | ⟨m, rfl, hm1, hm2, h1⟩
  · have b1 : decide (n < 1) = true := by simp; omega
    go_enter Try.func19, Try.ntmps19
    go_wp2_with fail
    go_ret2
    exact ⟨rfl, rfl⟩
  · have b1 : decide (n < 1) = false := by simp; omega
    have b2 : decide (5 < n) = true := by simp; omega
    go_enter Try.func19, Try.ntmps19
    go_wp2_with fail
    go_ret2
    exact ⟨rfl, rfl⟩
  · have hn2 : (m : Int) ≤ 5 := by omega
    have hn3 : (1 : Int) ≤ m := by omega
    have hs := shl_i64 m (by omega)
    have hN := Nat.pow_le_pow_right (n := 2) (by omega) hm2
    have hx2 := uv_lt x
    have hh2 := uv_lt h
    have hn64 : (m : Int) < 64 := by omega
    rcases h1 with h1 | ⟨h1, h2⟩
    · have fx := fit_ge h1
      generalize 2 ^ m = N at *
      have bx : decide ((N : Int) ≤ uv x) = true := by simp; omega
      clear hk h1
      go_enter Try.func19, Try.ntmps19
      go_wp2_with fail
      go_ret2
      exact ⟨rfl, rfl⟩
    · have fx := fit_lt h1
      have fh := fit_ge h2
      generalize 2 ^ m = N at *
      have bx : decide ((N : Int) ≤ uv x) = false := by simp; omega
      have bh : decide ((N : Int) ≤ uv h) = true := by simp; omega
      clear hk h1 h2
      go_enter Try.func19, Try.ntmps19
      go_wp2_with fail
      go_ret2
      exact ⟨rfl, rfl⟩
set_option maxRecDepth 100000 in
set_option maxHeartbeats 2000000 in
theorem refViews_bad (n : Int) (x h : BitVec 16) (hk : okV n x h = false) (w : World) : Calls Try.prog 20 #[.int .i64 n, .int .u16 (uv x), .int .u16 (uv h)] w fun e w' => e = .returned (.tuple #[.int .i64 0, .int .i64 2]) ∧ w = w' := by
  by_cases hn : n < 1 ∨ 5 < n
  · have C0 := Lib.hid (show ∀ w, Calls Try.prog 56 #[.int .i64 n, .int .i64 1, .int .i64 5] w fun e w' => e = .returned (.bool false) ∧ w = w' from fun w => (show inB n 1 5 = false by simp [inB]; omega) ▸ within_any n 1 5 w)
    go_enter Try.func20, Try.ntmps20
    go_wp2_with (first | (go_at_call 56; refine Calls.same (C0.out _) ?_))
    go_ret2
    exact ⟨rfl, rfl⟩
  · rcases okV_bad hk with h0 | ⟨m, rfl, hm1, hm2, h1⟩
    · exact absurd h0 hn
    have C0 := Lib.hid (show ∀ w, Calls Try.prog 56 #[.int .i64 m, .int .i64 1, .int .i64 5] w fun e w' => e = .returned (.bool true) ∧ w = w' from fun w => (show inB (m : Int) 1 5 = true by simp [inB]; omega) ▸ within_any m 1 5 w)
    rcases h1 with h1 | ⟨h1, h2⟩
    · have C1 := Lib.hid (fun w => h1 ▸ fits_any m (by omega) x w)
      clear hk h1
      go_enter Try.func20, Try.ntmps20
      go_wp2_with (first | (go_at_call 56; refine Calls.same (C0.out _) ?_) | (go_at_call 44; refine Calls.same (C1.out _) ?_))
      go_ret2
      exact ⟨rfl, rfl⟩
    · have C1 := Lib.hid (fun w => h1 ▸ fits_any m (by omega) x w)
      have C2 := Lib.hid (fun w => h2 ▸ fits_any m (by omega) h w)
      clear hk h1 h2
      go_enter Try.func20, Try.ntmps20
      go_wp2_with (first | (go_at_call 56; refine Calls.same (C0.out _) ?_) | (go_at_call 44; refine Calls.same (C1.out _) ?_) | (go_at_call 44; refine Calls.same (C2.out _) ?_))
      go_ret2
      exact ⟨rfl, rfl⟩
theorem Views_any (n : Int) (x h : BitVec 16) (w : World) : Calls Try.prog 19 #[.int .i64 n, .int .u16 (uv x), .int .u16 (uv h)] w fun e w' => e = .returned (viewsV n x h) ∧ Ext w w' := by
  unfold viewsV
  cases hk : okV n x h
  · exact Calls.ext_of_same (views_bad n x h hk w)
  · have h1 : 0 ≤ n := by
      have := hk
      simp only [okV, inB, Bool.and_eq_true, decide_eq_true_eq] at this
      omega
    obtain ⟨m, rfl⟩ := Int.eq_ofNat_of_zero_le h1
    exact views_ok m x h hk w
theorem refViews_any (n : Int) (x h : BitVec 16) (w : World) : Calls Try.prog 20 #[.int .i64 n, .int .u16 (uv x), .int .u16 (uv h)] w fun e w' => e = .returned (viewsV n x h) ∧ Ext w w' := by
  unfold viewsV
  cases hk : okV n x h
  · exact Calls.ext_of_same (refViews_bad n x h hk w)
  · have h1 : 0 ≤ n := by
      have := hk
      simp only [okV, inB, Bool.and_eq_true, decide_eq_true_eq] at this
      omega
    obtain ⟨m, rfl⟩ := Int.eq_ofNat_of_zero_le h1
    exact refViews_ok m x h hk w
end Go.Proofs.Ytfdcapblgdlkaaa
