/- Plain laws: orders and their numbers. -/
import Derived.Test.YtfdcapblgdlkaaaCommon
import Derived.RegionTactic
import Derived.Test.YtfdcapblgdlkaaaChecked
namespace Go.Proofs.Ytfdcapblgdlkaaa

def factN : Nat → Nat
  | 0 => 1
  | n + 1 => factN n * (n + 1)
/-- the order with a number, from what is left -/
def dec : Nat → List Nat → Nat → List Nat
  | 0, _, _ => []
  | f + 1, left, p => left.getD (p / factN f) 0 :: dec f (left.eraseIdx (p / factN f)) (p % factN f)
/-- the number of an order -/
def num : List Nat → Nat
  | [] => 0
  | n :: r => (r.countP (· < n)) * factN r.length + num r
theorem fact_pos (n : Nat) : 0 < factN n := by
  induction n with
  | zero => decide
  | succ n ih => exact Nat.mul_pos ih (Nat.succ_pos n)
theorem dec_len : ∀ (f : Nat) (left : List Nat) (p : Nat), (dec f left p).length = f := by
  intro f
  induction f with
  | zero => intro _ _; rfl
  | succ f ih => intro left p; simp [dec, ih]
theorem div_lt (f p : Nat) (h : p < factN (f + 1)) : p / factN f < f + 1 := by
  rw [Nat.div_lt_iff_lt_mul (fact_pos f)]
  rw [factN, Nat.mul_comm] at h
  exact h
theorem cons_erase : ∀ (l : List Nat) (k : Nat) (hk : k < l.length), (l[k] :: l.eraseIdx k).Perm l := by
  intro l
  induction l with
  | nil => intro k hk; exact absurd hk (Nat.not_lt_zero _)
  | cons a r ih =>
    intro k hk
    cases k with
    | zero => exact List.Perm.refl _
    | succ k =>
      simp only [List.eraseIdx_cons_succ, List.getElem_cons_succ]
      exact (List.Perm.swap _ _ _).trans (List.Perm.cons _ (ih k (by simpa using hk)))
theorem dec_perm : ∀ (f : Nat) (left : List Nat) (p : Nat), left.length = f → p < factN f → (dec f left p).Perm left := by
  intro f
  induction f with
  | zero => intro left p hl _; rw [List.length_eq_zero_iff.1 hl]; exact List.Perm.refl _
  | succ f ih =>
    intro left p hl hp
    have hd := div_lt f p hp
    have hlt : p / factN f < left.length := by omega
    have e : left.getD (p / factN f) 0 = left[p / factN f] := by rw [List.getD_eq_getElem?_getD, List.getElem?_eq_getElem hlt]; rfl
    have h1 := ih (left.eraseIdx (p / factN f)) (p % factN f) (by rw [List.length_eraseIdx, if_pos hlt]; omega) (Nat.mod_lt _ (fact_pos f))
    rw [dec, e]
    exact (List.Perm.cons _ h1).trans (cons_erase left _ hlt)
theorem num_lt : ∀ l : List Nat, num l < factN l.length := by
  intro l
  induction l with
  | nil => decide
  | cons n r ih =>
    have h := List.countP_le_length (p := (· < n)) (l := r)
    rw [num, List.length_cons, factN]
    have h1 : (r.countP (· < n)) * factN r.length ≤ r.length * factN r.length := Nat.mul_le_mul_right _ h
    have h2 : factN r.length * (r.length + 1) = r.length * factN r.length + factN r.length := by rw [Nat.mul_add, Nat.mul_one, Nat.mul_comm]
    omega
/-- in what is left, as many are less as stand ahead -/
theorem count_at : ∀ (left : List Nat) (k : Nat) (hk : k < left.length), left.Pairwise (· < ·) → (left.eraseIdx k).countP (· < left[k]) = k := by
  intro left
  induction left with
  | nil => intro k hk; exact absurd hk (Nat.not_lt_zero _)
  | cons a r ih =>
    intro k hk hs
    obtain ⟨ha, hr⟩ := List.pairwise_cons.1 hs
    cases k with
    | zero =>
      simp only [List.eraseIdx_cons_zero, List.getElem_cons_zero]
      rw [List.countP_eq_zero]
      intro x hx
      have := ha x hx
      simp; omega
    | succ k =>
      have hk' : k < r.length := by simpa using hk
      simp only [List.eraseIdx_cons_succ, List.getElem_cons_succ]
      rw [List.countP_cons, ih k hk' hr]
      have := ha r[k] (List.getElem_mem hk')
      simp [this]
theorem num_dec : ∀ (f : Nat) (left : List Nat) (p : Nat), left.length = f → left.Pairwise (· < ·) → p < factN f → num (dec f left p) = p := by
  intro f
  induction f with
  | zero => intro left p _ _ hp; simp [factN] at hp; subst hp; rfl
  | succ f ih =>
    intro left p hl hs hp
    have hd := div_lt f p hp
    have hlt : p / factN f < left.length := by omega
    have e : left.getD (p / factN f) 0 = left[p / factN f] := by rw [List.getD_eq_getElem?_getD, List.getElem?_eq_getElem hlt]; rfl
    have hel : (left.eraseIdx (p / factN f)).length = f := by rw [List.length_eraseIdx, if_pos hlt]; omega
    have hes : (left.eraseIdx (p / factN f)).Pairwise (· < ·) := hs.sublist (List.eraseIdx_sublist _ _)
    have h1 := ih (left.eraseIdx (p / factN f)) (p % factN f) hel hes (Nat.mod_lt _ (fact_pos f))
    have h2 := dec_perm f (left.eraseIdx (p / factN f)) (p % factN f) hel (Nat.mod_lt _ (fact_pos f))
    rw [dec, num, h1, h2.countP_eq, dec_len, e, count_at left _ hlt hs]
    rw [Nat.mul_comm]
    exact Nat.div_add_mod p (factN f)
theorem dec_num : ∀ (f : Nat) (left l : List Nat), l.length = f → l.Perm left → left.Pairwise (· < ·) → dec f left (num l) = l := by
  intro f
  induction f with
  | zero => intro left l hl _ _; rw [List.length_eq_zero_iff.1 hl]; rfl
  | succ f ih =>
    intro left l hl hp hs
    match l, hl with
    | n :: r, hl =>
      have hrl : r.length = f := by simpa using hl
      obtain ⟨k, hk, hkn⟩ := List.getElem_of_mem (hp.subset (List.mem_cons_self ..))
      have hpe : r.Perm (left.eraseIdx k) := by
        have h1 : (n :: r).Perm (left[k] :: left.eraseIdx k) := hp.trans (cons_erase left _ hk).symm
        rw [hkn] at h1
        exact h1.cons_inv
      have hc : r.countP (· < n) = k := by rw [hpe.countP_eq, ← hkn, count_at left k hk hs]
      have hnl := num_lt r
      rw [hrl] at hnl
      have hdiv : num (n :: r) / factN f = k := by
        rw [num, hc, hrl, Nat.mul_comm, Nat.mul_add_div (fact_pos f), Nat.div_eq_of_lt hnl]; rfl
      have hmod : num (n :: r) % factN f = num r := by
        rw [num, hc, hrl, Nat.mul_comm, Nat.mul_add_mod, Nat.mod_eq_of_lt hnl]
      rw [dec, hdiv, hmod, ih (left.eraseIdx k) r hrl hpe (hs.sublist (List.eraseIdx_sublist _ _))]
      rw [List.getD_eq_getElem?_getD, List.getElem?_eq_getElem hk, ← hkn]
      rfl
end Go.Proofs.Ytfdcapblgdlkaaa
/- Keys: factorials, validity. -/
namespace Go.Proofs.Ytfdcapblgdlkaaa
open Go.RowKit

/-- words of 16 bits -/
def uv (x : BitVec 16) : Int := (x.toNat : Int)
theorem uv_lt (x : BitVec 16) : 0 ≤ uv x ∧ uv x < 65536 := ⟨by unfold uv; omega, by unfold uv; have := x.isLt; omega⟩
structure K where
  bits : Int
  perm : Int
  pad : BitVec 16
abbrev K.val (k : K) : Value := .agg #[.int .i64 k.bits, .int .i64 k.perm, .int .u16 (uv k.pad)]
theorem fact_le : ∀ n, n < 16 → 1 ≤ factN n ∧ factN n ≤ 1307674368000 := by decide
set_option maxRecDepth 100000 in
set_option maxHeartbeats 1000000 in
theorem fact_any (n : Nat) (hn : n ≤ 15) (w : World) : Calls Try.prog 54 #[.int .i64 n] w fun e w' => e = .returned (.int .i64 (factN n)) ∧ w = w' := by
  have hn2 : (n : Int) ≤ 15 := by omega
  go_enter Try.func54, Try.ntmps54
  go_wp2_with fail
  go_loopw [3, 6] (fun o i wr => ∃ j : Nat, j ≤ n ∧ i = .int .i64 j ∧ o = .int .i64 (factN j) ∧ wr = w) (fun _ i _ => n - (intOf i).toNat)
  case atStart => exact ⟨0, Nat.zero_le _, rfl, rfl, rfl⟩
  case round =>
    obtain ⟨j, hj, rfl, rfl, rfl⟩ := hrel
    by_cases hlj : j < n
    · have hs := Lib.hid (show factN (j + 1) = factN j * (j + 1) from rfl)
      have h1 := fact_le j (by omega)
      have h2 := fact_le (j + 1) (by omega)
      have hlj2 : (j : Int) < (n : Int) := by omega
      have hm : IntKind.i64.wrap ((factN j : Int) * ((j : Int) + 1)) = (factN j : Int) * ((j : Int) + 1) := by
        have e : (factN j : Int) * ((j : Int) + 1) = ((factN (j + 1) : Nat) : Int) := by rw [hs.out]; push_cast; rfl
        rw [e]; exact IntWalk.i64_in _ (by omega)
      have hm2 : wrap64 ((factN j : Int) * ((j : Int) + 1)) = (factN j : Int) * ((j : Int) + 1) := by rwa [IntWalk.i64_left] at hm
      generalize factN j = f at *
      go_wp2_with fail
      go_roundw
      case rel => exact ⟨j + 1, by omega, by go_num, by rw [hs.out]; push_cast; rfl, trivial⟩
      case measure => simp [intOf]; omega
    · obtain rfl : j = n := by omega
      go_wp2_with fail
      go_ret
      exact ⟨rfl, rfl⟩
def inB (n lo hi : Int) : Bool := decide (lo ≤ n) && decide (n ≤ hi)
theorem within_any (n lo hi : Int) (w : World) : Calls Try.prog 56 #[.int .i64 n, .int .i64 lo, .int .i64 hi] w fun e w' => e = .returned (.bool (inB n lo hi)) ∧ w = w' := by
  go_enter Try.func56, Try.ntmps56
  go_wp2
  all_goals (go_ret; refine ⟨ret_of ?_, rfl⟩; simp_all [inB])
  omega

set_option maxRecDepth 100000 in
set_option maxHeartbeats 1000000 in
theorem refFact_any (n : Nat) (hn : n ≤ 15) (w : World) : Calls Try.prog 45 #[.int .i64 n] w fun e w' => e = .returned (.int .i64 (factN n)) ∧ w = w' := by
  have hn2 : (n : Int) ≤ 15 := by omega
  go_enter Try.func45, Try.ntmps45
  go_wp2_with fail
  go_loopw [3, 4] (fun o i wr => ∃ j : Nat, (j ≤ n ∨ j = 1) ∧ 1 ≤ j ∧ i = .int .i64 ((j : Int) + 1) ∧ o = .int .i64 (factN j) ∧ wr = w) (fun _ i _ => n + 1 - (intOf i).toNat)
  case atStart => exact ⟨1, .inr rfl, Nat.le_refl _, rfl, rfl, rfl⟩
  case round =>
    obtain ⟨j, hj, hj1, rfl, rfl, rfl⟩ := hrel
    by_cases hlj : j < n
    · have hs := Lib.hid (show factN (j + 1) = factN j * (j + 1) from rfl)
      have h1 := fact_le j (by omega)
      have h2 := fact_le (j + 1) (by omega)
      have hlj2 : (j : Int) + 1 ≤ (n : Int) := by omega
      have hlj3 : (j : Int) < (n : Int) := by omega
      have hm : IntKind.i64.wrap ((factN j : Int) * ((j : Int) + 1)) = (factN j : Int) * ((j : Int) + 1) := by
        have e : (factN j : Int) * ((j : Int) + 1) = ((factN (j + 1) : Nat) : Int) := by rw [hs.out]; push_cast; rfl
        rw [e]; exact IntWalk.i64_in _ (by omega)
      have hm2 : wrap64 ((factN j : Int) * ((j : Int) + 1)) = (factN j : Int) * ((j : Int) + 1) := by rwa [IntWalk.i64_left] at hm
      generalize factN j = f at *
      go_wp2_with fail
      go_roundw
      case rel => exact ⟨j + 1, .inl (by omega), by omega, by go_num, by rw [hs.out]; push_cast; rfl, trivial⟩
      case measure => simp [intOf]; omega
    · have hf : factN j = factN n := by
        rcases hj with h | h
        · have : j = n := by omega
          rw [this]
        · subst h
          have : n = 0 ∨ n = 1 := by omega
          rcases this with rfl | rfl <;> rfl
      have hlj2 : (n : Int) < (j : Int) + 1 := by omega
      have HF := Lib.hid hf
      clear hf
      go_wp2_with fail
      go_ret
      exact ⟨ret_of (by rw [← HF.out]; rfl), rfl⟩
theorem shl_i64 (n : Nat) (hn : n ≤ 15) : IntKind.i64.wrap (2 ^ n) = ((2 ^ n : Nat) : Int) := by
  have h : 2 ^ n ≤ 2 ^ 15 := Nat.pow_le_pow_right (by omega) hn
  have e : (2 : Int) ^ n = ((2 ^ n : Nat) : Int) := by push_cast; rfl
  rw [e]
  generalize 2 ^ n = N at h
  exact IntWalk.i64_in _ (by omega)
def fitB (n : Nat) (x : BitVec 16) : Bool := decide (x.toNat < 2 ^ n)
set_option maxRecDepth 100000 in
theorem fits_any (n : Nat) (hn : n ≤ 15) (x : BitVec 16) (w : World) : Calls Try.prog 44 #[.int .i64 n, .int .u16 (uv x)] w fun e w' => e = .returned (.bool (fitB n x)) ∧ w = w' := by
  have hs := shl_i64 n hn
  have hp : 2 ^ n ≤ 2 ^ 15 := Nat.pow_le_pow_right (by omega) hn
  have hx := uv_lt x
  have hf : decide (uv x < ((2 ^ n : Nat) : Int)) = fitB n x := by unfold fitB uv; simp only [Int.ofNat_lt]
  generalize 2 ^ n = N at *
  generalize fitB n x = v at *
  generalize uv x = y at *
  have HF := Lib.hid hf
  clear hf
  have hn2 : (n : Int) < 64 := by omega
  go_enter Try.func44, Try.ntmps44
  go_wp2_with fail
  go_ret
  exact ⟨ret_of (by rw [← HF.out]; rfl), rfl⟩
end Go.Proofs.Ytfdcapblgdlkaaa
/- Keys: which are valid. -/
namespace Go.Proofs.Ytfdcapblgdlkaaa
open Go.RowKit

def okK (k : K) : Bool := inB k.bits 1 15 && inB k.perm 0 ((factN k.bits.toNat : Int) - 1) && fitB k.bits.toNat k.pad
def chkK (k : K) : Int := if okK k then 0 else 60
theorem ok_parts {k : K} (h : okK k = true) : (1 ≤ k.bits ∧ k.bits ≤ 15) ∧ (0 ≤ k.perm ∧ k.perm < factN k.bits.toNat) ∧ k.pad.toNat < 2 ^ k.bits.toNat := by
  simp [okK, inB, fitB] at h
  omega
set_option maxRecDepth 100000 in
set_option maxHeartbeats 2000000 in
theorem check_any (k : K) (w : World) : Calls Try.prog 30 #[k.val] w fun e w' => e = .returned (.int .i64 (chkK k)) ∧ Ext w w' := by
  have C : Hid (∀ w, Calls Try.prog 54 #[.int .i64 0] w fun e w' => e = .returned (.int .i64 0) ∧ w = w' ∨ True) := Lib.hid fun w => (fact_any 0 (by omega) w).mono fun _ _ _ => .inr trivial
  clear C
  have hx := uv_lt k.pad
  by_cases h1 : k.bits < 1
  · have Hv := Lib.hid (show chkK k = 60 by unfold chkK okK; rw [show inB k.bits 1 15 = false by simp [inB]; omega]; rfl)
    have C := Lib.hid trivial
    have b1 : decide (k.bits < 1) = true := by simp; omega
    clear C
    go_enter Try.func30, Try.ntmps30
    go_wp2_with fail
    refine wp_region_ext (by kernel_rfl) (by kernel_rfl) ?_
    repeat (go_big_quiet_step (fail))
    refine wpQuiet_nil ?_
    rintro _ ⟨z, rfl⟩
    go_wp2_with fail
    go_ret
    exact ⟨ret_of (by rw [Hv.out]; rfl), ((Ext.refl w).alloc _).ext z⟩
  have b1 : decide (k.bits < 1) = false := by simp; omega
  by_cases h2 : 15 < k.bits
  · have Hv := Lib.hid (show chkK k = 60 by unfold chkK okK; rw [show inB k.bits 1 15 = false by simp [inB]; omega]; rfl)
    have b2 : decide (15 < k.bits) = true := by simp; omega
    go_enter Try.func30, Try.ntmps30
    go_wp2_with fail
    refine wp_region_ext (by kernel_rfl) (by kernel_rfl) ?_
    repeat (go_big_quiet_step (fail))
    refine wpQuiet_nil ?_
    rintro _ ⟨z, rfl⟩
    go_wp2_with fail
    go_ret
    exact ⟨ret_of (by rw [Hv.out]; rfl), ((Ext.refl w).alloc _).ext z⟩
  have b2 : decide (15 < k.bits) = false := by simp; omega
  by_cases h3 : k.perm < 0
  · have Hv := Lib.hid (show chkK k = 60 by unfold chkK okK; rw [show inB k.perm 0 ((factN k.bits.toNat : Int) - 1) = false by simp [inB]; omega]; simp)
    have b3 : decide (k.perm < 0) = true := by simp; omega
    go_enter Try.func30, Try.ntmps30
    go_wp2_with fail
    refine wp_region_ext (by kernel_rfl) (by kernel_rfl) ?_
    repeat (go_big_quiet_step (fail))
    refine wpQuiet_nil ?_
    rintro _ ⟨z, rfl⟩
    go_wp2_with fail
    go_ret
    exact ⟨ret_of (by rw [Hv.out]; rfl), ((Ext.refl w).alloc _).ext z⟩
  have b3 : decide (k.perm < 0) = false := by simp; omega
  obtain ⟨bits, perm, pad⟩ := k
  simp only at *
  obtain ⟨n, rfl⟩ := Int.eq_ofNat_of_zero_le (show 0 ≤ bits by omega)
  have hn15 : n ≤ 15 := by omega
  have C := Lib.hid (fact_any n hn15)
  have hs := shl_i64 n hn15
  have hpw : 2 ^ n ≤ 2 ^ 15 := Nat.pow_le_pow_right (by omega) hn15
  have hfl := fact_le n (by omega)
  have hb64 : (n : Int) < 64 := by omega
  have b1' : decide (n < 1) = false := by simp; omega
  have b2' : decide (15 < n) = false := by simp; omega
  have hok : okK ⟨n, perm, pad⟩ = (decide (perm < factN n) && decide (uv pad < ((2 ^ n : Nat) : Int))) := by
    unfold okK fitB uv
    simp only [Int.toNat_natCast, Int.ofNat_lt]
    rw [show inB (n : Int) 1 15 = true by simp [inB]; omega]
    have : inB perm 0 ((factN n : Int) - 1) = decide (perm < factN n) := by
      unfold inB
      rw [show decide (0 ≤ perm) = true by simp; omega, Bool.true_and]
      congr 1
      apply propext
      omega
    rw [this]; rfl
  have Hc := Lib.hid (show chkK ⟨n, perm, pad⟩ = if okK ⟨n, perm, pad⟩ then 0 else 60 from rfl)
  generalize chkK ⟨n, perm, pad⟩ = ck at *
  generalize okK ⟨n, perm, pad⟩ = ok at *
  generalize factN n = F at *
  generalize 2 ^ n = N at *
  have hyy : IntKind.i64.wrap (uv pad) = uv pad := IntWalk.i64_in _ (by omega)
  have hyw : wrap64 (uv pad) = uv pad := by rwa [IntWalk.i64_left] at hyy
  by_cases h4 : (F : Int) ≤ perm
  · have Hv : Hid (ck = 60) := Lib.hid (by rw [Hc.out, hok, show decide (perm < (F : Int)) = false by simp; omega]; rfl)
    have b4 : decide ((F : Int) ≤ perm) = true := by simp; omega
    clear hok Hc
    go_enter Try.func30, Try.ntmps30
    go_wp2_with fail
    refine wp_region_ext (by kernel_rfl) (by kernel_rfl) ?_
    repeat (go_big_quiet_step ((go_at_call 54; exact Calls.quiet_same (C.out _))))
    refine wpQuiet_nil ?_
    rintro _ ⟨z, rfl⟩
    go_wp2_with fail
    go_ret
    exact ⟨ret_of (by rw [Hv.out]; rfl), ((Ext.refl w).alloc _).ext z⟩
  have b4 : decide ((F : Int) ≤ perm) = false := by simp; omega
  by_cases h5 : (N : Int) ≤ uv pad
  · have Hv : Hid (ck = 60) := Lib.hid (by rw [Hc.out, hok, show decide (uv pad < (N : Int)) = false by simp; omega]; simp)
    have b5 : decide ((N : Int) ≤ uv pad) = true := by simp; omega
    clear hok Hc
    go_enter Try.func30, Try.ntmps30
    go_wp2_with fail
    refine wp_region_ext (by kernel_rfl) (by kernel_rfl) ?_
    repeat (go_big_quiet_step ((go_at_call 54; exact Calls.quiet_same (C.out _))))
    refine wpQuiet_nil ?_
    rintro _ ⟨z, rfl⟩
    go_wp2_with fail
    go_ret
    exact ⟨ret_of (by rw [Hv.out]; rfl), ((Ext.refl w).alloc _).ext z⟩
  have Hv : Hid (ck = 0) := Lib.hid (by rw [Hc.out, hok, show decide (uv pad < (N : Int)) = true by simp; omega, show decide (perm < (F : Int)) = true by simp; omega]; rfl)
  have b5 : decide ((N : Int) ≤ uv pad) = false := by simp; omega
  clear hok Hc
  go_enter Try.func30, Try.ntmps30
  go_wp2_with fail
  refine wp_region_ext (by kernel_rfl) (by kernel_rfl) ?_
  repeat (go_big_quiet_step ((go_at_call 54; exact Calls.quiet_same (C.out _))))
  refine wpQuiet_nil ?_
  rintro _ ⟨z, rfl⟩
  go_wp2_with fail
  go_ret
  exact ⟨ret_of (by rw [Hv.out]; rfl), ((Ext.refl w).alloc _).ext z⟩

set_option maxRecDepth 100000 in
set_option maxHeartbeats 2000000 in
theorem refValid_any (k : K) (w : World) : Calls Try.prog 46 #[k.val] w fun e w' => e = .returned (.bool (okK k)) ∧ Ext w w' := by
  cases h1 : inB k.bits 1 15
  · have Hv := Lib.hid (show okK k = false by simp [okK, h1])
    have C1 := Lib.hid (fun w => h1 ▸ within_any k.bits 1 15 w)
    clear h1
    go_enter Try.func46, Try.ntmps46
    go_wp2_with fail
    refine wp_region_ext (by kernel_rfl) (by kernel_rfl) ?_
    repeat (go_big_quiet_step ((go_at_call 56; with_reducible exact Calls.quiet_same (C1.out _))))
    refine wpQuiet_nil ?_
    rintro _ ⟨z, rfl⟩
    go_wp2_with fail
    go_ret
    exact ⟨ret_of (by rw [Hv.out]; rfl), ((Ext.refl w).alloc _).ext z⟩
  obtain ⟨bits, perm, pad⟩ := k
  simp only at *
  have hb : 1 ≤ bits ∧ bits ≤ 15 := by simpa [inB] using h1
  obtain ⟨n, rfl⟩ := Int.eq_ofNat_of_zero_le (show 0 ≤ bits by omega)
  have hn15 : n ≤ 15 := by omega
  have C1 := Lib.hid (fun w => h1 ▸ within_any (n : Int) 1 15 w)
  have C3 := Lib.hid (refFact_any n hn15)
  have hfl := fact_le n (by omega)
  have hok : okK ⟨n, perm, pad⟩ = (inB perm 0 ((factN n : Int) - 1) && fitB n pad) := by
    unfold okK
    simp only [Int.toNat_natCast]
    rw [h1]; simp
  have hw1 : IntKind.i64.wrap ((factN n : Int) - 1) = (factN n : Int) - 1 := IntWalk.i64_in _ (by omega)
  cases h2 : inB perm 0 ((factN n : Int) - 1)
  · have Hv : Hid (okK ⟨n, perm, pad⟩ = false) := Lib.hid (by rw [hok, h2]; rfl)
    have C2 := Lib.hid (fun w => h2 ▸ within_any perm 0 ((factN n : Int) - 1) w)
    have C4 := Lib.hid (fits_any n hn15 pad)
    clear hok h1 h2
    generalize okK ⟨n, perm, pad⟩ = ok at *
    generalize factN n = F at *
    go_enter Try.func46, Try.ntmps46
    go_wp2_with fail
    refine wp_region_ext (by kernel_rfl) (by kernel_rfl) ?_
    repeat (go_big_quiet_step ((first | (go_at_call 56; first | (with_reducible exact Calls.quiet_same (C1.out _)) | (with_reducible exact Calls.quiet_same (C2.out _))) | (go_at_call 45; exact Calls.quiet_same (C3.out _)) | (go_at_call 44; exact Calls.quiet_same (C4.out _)))))
    refine wpQuiet_nil ?_
    rintro _ ⟨z, rfl⟩
    go_wp2_with fail
    go_ret
    exact ⟨ret_of (by rw [Hv.out]; rfl), ((Ext.refl w).alloc _).ext z⟩
  cases h3 : fitB n pad
  · have Hv : Hid (okK ⟨n, perm, pad⟩ = false) := Lib.hid (by rw [hok, h2, h3]; rfl)
    have C2 := Lib.hid (fun w => h2 ▸ within_any perm 0 ((factN n : Int) - 1) w)
    have C4 := Lib.hid (fun w => h3 ▸ fits_any n hn15 pad w)
    clear hok h1 h2 h3
    generalize okK ⟨n, perm, pad⟩ = ok at *
    generalize factN n = F at *
    go_enter Try.func46, Try.ntmps46
    go_wp2_with fail
    refine wp_region_ext (by kernel_rfl) (by kernel_rfl) ?_
    repeat (go_big_quiet_step ((first | (go_at_call 56; first | (with_reducible exact Calls.quiet_same (C1.out _)) | (with_reducible exact Calls.quiet_same (C2.out _))) | (go_at_call 45; exact Calls.quiet_same (C3.out _)) | (go_at_call 44; exact Calls.quiet_same (C4.out _)))))
    refine wpQuiet_nil ?_
    rintro _ ⟨z, rfl⟩
    go_wp2_with fail
    go_ret
    exact ⟨ret_of (by rw [Hv.out]; rfl), ((Ext.refl w).alloc _).ext z⟩
  have Hv : Hid (okK ⟨n, perm, pad⟩ = true) := Lib.hid (by rw [hok, h2, h3]; rfl)
  have C2 := Lib.hid (fun w => h2 ▸ within_any perm 0 ((factN n : Int) - 1) w)
  have C4 := Lib.hid (fun w => h3 ▸ fits_any n hn15 pad w)
  clear hok h1 h2 h3
  generalize okK ⟨n, perm, pad⟩ = ok at *
  generalize factN n = F at *
  go_enter Try.func46, Try.ntmps46
  go_wp2_with fail
  refine wp_region_ext (by kernel_rfl) (by kernel_rfl) ?_
  repeat (go_big_quiet_step ((first | (go_at_call 56; first | (with_reducible exact Calls.quiet_same (C1.out _)) | (with_reducible exact Calls.quiet_same (C2.out _))) | (go_at_call 45; exact Calls.quiet_same (C3.out _)) | (go_at_call 44; exact Calls.quiet_same (C4.out _)))))
  refine wpQuiet_nil ?_
  rintro _ ⟨z, rfl⟩
  go_wp2_with fail
  go_ret
  exact ⟨ret_of (by rw [Hv.out]; rfl), ((Ext.refl w).alloc _).ext z⟩
set_option maxRecDepth 100000 in
theorem refCheck_any (k : K) (w : World) : Calls Try.prog 31 #[k.val] w fun e w' => e = .returned (.int .i64 (chkK k)) ∧ Ext w w' := by
  cases h : okK k
  · have Hv := Lib.hid (show chkK k = 60 by simp [chkK, h])
    have C := Lib.hid (fun w => h ▸ refValid_any k w)
    clear h
    go_enter Try.func31, Try.ntmps31
    go_wp2_with (go_at_call 46; refine Calls.ext (C.out _) fun z => ?_)
    go_ret
    refine ⟨ret_of (by rw [Hv.out]; rfl), ?_⟩
    repeat' (first | with_reducible exact Ext.refl _ | with_reducible refine Ext.alloc ?_ _ | with_reducible refine Ext.ext ?_ _)
  · have Hv := Lib.hid (show chkK k = 0 by simp [chkK, h])
    have C := Lib.hid (fun w => h ▸ refValid_any k w)
    clear h
    go_enter Try.func31, Try.ntmps31
    go_wp2_with (go_at_call 46; refine Calls.ext (C.out _) fun z => ?_)
    go_ret
    refine ⟨ret_of (by rw [Hv.out]; rfl), ?_⟩
    repeat' (first | with_reducible exact Ext.refl _ | with_reducible refine Ext.alloc ?_ _ | with_reducible refine Ext.ext ?_ _)
end Go.Proofs.Ytfdcapblgdlkaaa
