/- Rows of a table as words of 32 bits; what the talk of a deal says; what explains another word: plain laws. -/
import Derived.Test.YtfdcapblgdlkaaaDeal2
import Derived.Test.YtfdcapblgdlkaaaTalked
namespace Go.Proofs.Ytfdcapblgdlkaaa
open Go.RowKit

def vv (x : BitVec 32) : Int := (x.toNat : Int)
theorem vv_in (x : BitVec 32) : 0 ≤ vv x ∧ vv x < 4294967296 := by have := x.isLt; unfold vv; omega
theorem ofInt_vv (x : BitVec 32) : BitVec.ofInt 32 (vv x) = x := by
  apply BitVec.eq_of_toNat_eq
  unfold vv
  rw [BitVec.toNat_ofInt]
  have := x.isLt
  omega
theorem vv_ofInt (n : Int) (h : 0 ≤ n ∧ n < 4294967296) : vv (BitVec.ofInt 32 n) = n := by
  unfold vv
  rw [BitVec.toNat_ofInt]
  omega
theorem wrap_vv (x : BitVec 32) : IntKind.u32.wrap (x.toNat : Int) = vv x := by
  have := x.isLt
  rw [IntKind.wrap_u32]; unfold vv; omega
theorem vv_xor (x y : BitVec 32) : bits .xor .u32 (vv x) (vv y) = vv (x ^^^ y) := by
  show IntKind.u32.wrap ((BitVec.ofInt 32 (vv x) ^^^ BitVec.ofInt 32 (vv y)).toNat : Int) = _
  rw [ofInt_vv, ofInt_vv, wrap_vv]
theorem vv_and (x y : BitVec 32) : bits .and .u32 (vv x) (vv y) = vv (x &&& y) := by
  show IntKind.u32.wrap ((BitVec.ofInt 32 (vv x) &&& BitVec.ofInt 32 (vv y)).toNat : Int) = _
  rw [ofInt_vv, ofInt_vv, wrap_vv]
theorem vv_inj {x y : BitVec 32} (h : vv x = vv y) : x = y := BitVec.eq_of_toNat_eq (by unfold vv at h; omega)
theorem vv_shr (x : BitVec 32) (n : Nat) : vv x / 2 ^ n = vv (x >>> n) := by
  unfold vv
  rw [BitVec.toNat_ushiftRight, Nat.shiftRight_eq_div_pow, Int.natCast_ediv]
  simp
theorem vv_shl (k : Nat) (_ : k < 32) : IntKind.u32.wrap (2 ^ k) = vv (1#32 <<< k) := by
  unfold vv
  rw [BitVec.toNat_shiftLeft, Nat.shiftLeft_eq, IntKind.wrap_u32]
  simp
theorem tb_vv (x : BitVec 32) (s : Nat) : tb (vv x) s = x.getLsbD s := by
  unfold tb
  have h1 : vv 1#32 = 1 := rfl
  rw [vv_shr, ← h1, vv_and, Bool.eq_iff_iff]
  simp only [beq_iff_eq]
  have hb : (x >>> s).getLsbD 0 = x.getLsbD s := by simp
  rw [← hb]
  constructor
  · intro h
    have := congrArg (fun z : BitVec 32 => z.getLsbD 0) (vv_inj h)
    simpa using this
  · intro h
    congr 1
    apply BitVec.eq_of_getLsbD_eq
    intro i hi
    by_cases h0 : i = 0
    · subst h0; rw [hb] at h; simp [h]
    · simp [BitVec.getLsbD_one, h0]
def rowN (x : BitVec 32) (f : Nat → Bool) : Nat → BitVec 32
  | 0 => x
  | k + 1 => if f k then rowN x f k ^^^ (1#32 <<< k) else rowN x f k
theorem one_bit (k s : Nat) (hk : k < 32) : (1#32 <<< k).getLsbD s = decide (s = k) := by
  rw [BitVec.getLsbD_shiftLeft, BitVec.getLsbD_one]
  by_cases h : s = k
  · subst h; simp [hk]
  · rcases Nat.lt_or_ge s k with h1 | h1
    · simp [h, h1]
    · have : s - k ≠ 0 := by omega
      simp [h, this]
theorem rowN_bit (x : BitVec 32) (f : Nat → Bool) (s : Nat) : ∀ k, k ≤ 32 → (rowN x f k).getLsbD s = (x.getLsbD s != (decide (s < k) && f s)) := by
  intro k
  induction k with
  | zero => intro _; simp [rowN]
  | succ k ih =>
    intro hk
    have ih := ih (by omega)
    rw [rowN]
    by_cases hf : f k = true
    · rw [if_pos hf, BitVec.getLsbD_xor, ih, one_bit k s (by omega)]
      by_cases h : s = k
      · subst h; simp [hf]
      · by_cases h1 : s < k
        · have h2 : s < k + 1 := by omega
          simp [h, h1, h2]
        · have h2 : ¬ s < k + 1 := by omega
          simp [h, h1, h2]
    · rw [if_neg hf, ih]
      by_cases h : s = k
      · subst h; simp [hf]
      · by_cases h1 : s < k
        · have h2 : s < k + 1 := by omega
          simp [h1, h2]
        · have h2 : ¬ s < k + 1 := by omega
          simp [h1, h2]
theorem rowN_back (x : BitVec 32) (f : Nat → Bool) : rowN (rowN x f 31) f 31 = x := by
  apply BitVec.eq_of_getLsbD_eq
  intro i _
  rw [rowN_bit _ _ _ _ (by omega), rowN_bit _ _ _ _ (by omega)]
  cases x.getLsbD i <;> cases (decide (i < 31) && f i) <;> rfl
def bt (t : Nat → Int) (i : Nat) : BitVec 32 := BitVec.ofInt 32 (t i)
def nearB (rc rs lim : Int) (i j : Nat) : Bool := decide ((((i : Int) - rc) % 31 + ((j : Int) - rs) % 31) % 31 ≤ lim)
def tabO (t : Nat → Int) (rc rs lim : Int) (i : Nat) : Int := vv (rowN (bt t i) (nearB rc rs lim i) 31)
theorem tabO_in (t : Nat → Int) (rc rs lim : Int) (i : Nat) : 0 ≤ tabO t rc rs lim i ∧ tabO t rc rs lim i < 4294967296 := vv_in _
theorem bt_tabO (t : Nat → Int) (rc rs lim : Int) (i : Nat) : bt (tabO t rc rs lim) i = rowN (bt t i) (nearB rc rs lim i) 31 := ofInt_vv _
theorem tabO_back (t : Nat → Int) (rc rs lim : Int) (h : ∀ i, vv (bt t i) = t i) : tabO (tabO t rc rs lim) rc rs lim = t := by
  funext i
  unfold tabO
  rw [show bt (fun i => vv (rowN (bt t i) (nearB rc rs lim i) 31)) i = rowN (bt t i) (nearB rc rs lim i) 31 from ofInt_vv _, rowN_back, h]
def ptyP (d : Dl) : Pty := ⟨d.a, d.u, d.rc, d.t⟩
def ptyQ (d : Dl) (lim : Int) : Pty := ⟨d.b, fun i => (d.a i * d.b i - d.u i) % 31, d.rs, tabO d.t d.rc d.rs lim⟩
theorem say_sum (d : Dl) (lim : Int) (x y : BitVec 16) (k : Nat) : (sumF (cF (ptyP d) (ptyQ d lim) x y) k + sumF (sF (ptyP d) (ptyQ d lim) x y) k) % 31 = sumF (fun i => bitI x i + bitI y i - 2 * (bitI x i * bitI y i)) k % 31 := by
  induction k with
  | zero => rfl
  | succ k ih =>
    simp only [sumF]
    have hi : (cF (ptyP d) (ptyQ d lim) x y k + sF (ptyP d) (ptyQ d lim) x y k) % 31 = (bitI x k + bitI y k - 2 * (bitI x k * bitI y k)) % 31 := by
      have e1 : cF (ptyP d) (ptyQ d lim) x y k = bitI x k - 2 * (d.a k * ((bitI y k - d.b k) % 31) + d.u k) := rfl
      have e2 : sF (ptyP d) (ptyQ d lim) x y k = bitI y k - 2 * ((bitI x k - d.a k) % 31 * d.b k + (d.a k * d.b k - d.u k) % 31 + (bitI x k - d.a k) % 31 * ((bitI y k - d.b k) % 31)) := rfl
      rw [e1, e2]
      generalize bitI x k = X
      generalize bitI y k = Y
      generalize d.a k = a
      generalize d.b k = b
      generalize d.u k = u
      obtain ⟨e, he, q2, hq2⟩ : ∃ e, (Y - b) % 31 = e ∧ ∃ q, e = Y - b - 31 * q := ⟨_, rfl, (Y - b) / 31, by omega⟩
      obtain ⟨f, hf, q1, hq1⟩ : ∃ e, (X - a) % 31 = e ∧ ∃ q, e = X - a - 31 * q := ⟨_, rfl, (X - a) / 31, by omega⟩
      obtain ⟨s, hs, q3, hq3⟩ : ∃ e, (a * b - u) % 31 = e ∧ ∃ q, e = a * b - u - 31 * q := ⟨_, rfl, (a * b - u) / 31, by generalize a * b = ab; omega⟩
      rw [he, hf, hs, hq2, hq1, hq3]
      have : (X - 2 * (a * (Y - b - 31 * q2) + u) + (Y - 2 * ((X - a - 31 * q1) * b + (a * b - u - 31 * q3) + (X - a - 31 * q1) * (Y - b - 31 * q2)))) = (X + Y - 2 * (X * Y)) + 31 * (2 * (q1 * Y + q2 * X + q3 - 31 * (q1 * q2))) := by grind
      rw [this, Int.add_mul_emod_self_left]
    omega
def farS (x y : BitVec 16) : Int := sumF (fun i => bitI (x ^^^ y) i) 15
theorem sumF_in (f : Nat → Int) (h : ∀ i, 0 ≤ f i ∧ f i ≤ 1) : ∀ k : Nat, 0 ≤ sumF f k ∧ sumF f k ≤ k := by
  intro k
  induction k with
  | zero => exact ⟨Int.le_refl _, Int.le_refl _⟩
  | succ k ih => have := h k; simp only [sumF]; omega
theorem far_in (x y : BitVec 16) : 0 ≤ farS x y ∧ farS x y ≤ 15 := sumF_in _ (fun i => bitI_in _ i) 15
theorem bitI_xor (x y : BitVec 16) (i : Nat) : bitI (x ^^^ y) i = bitI x i + bitI y i - 2 * (bitI x i * bitI y i) := by
  unfold bitI
  rw [BitVec.getLsbD_xor]
  cases x.getLsbD i <;> cases y.getLsbD i <;> rfl
theorem say_far (d : Dl) (lim : Int) (x y : BitVec 16) : ((sayC (ptyP d) (ptyQ d lim) x y - d.rc) % 31 + (sayS (ptyP d) (ptyQ d lim) x y - d.rs) % 31) % 31 = farS x y := by
  have h1 := say_sum d lim x y 15
  have h2 := c_mod (ptyP d) (ptyQ d lim) x y 15
  have h3 := s_mod (ptyP d) (ptyQ d lim) x y 15
  have h4 := far_in x y
  have h5 : sumF (fun i => bitI x i + bitI y i - 2 * (bitI x i * bitI y i)) 15 = farS x y := by unfold farS; congr 1; funext i; rw [bitI_xor]
  rw [h5] at h1
  have e1 : sayC (ptyP d) (ptyQ d lim) x y = (cntS (bitI x) (prodP (ptyP d) (ptyQ d lim) y) 15 % 31 + d.rc) % 31 := rfl
  have e2 : sayS (ptyP d) (ptyQ d lim) x y = (cntS (bitI y) (prodQ (ptyP d) (ptyQ d lim) x y) 15 % 31 + d.rs) % 31 := rfl
  rw [e1, e2]
  omega
theorem sayC_in (p q : Pty) (x y : BitVec 16) : 0 ≤ sayC p q x y ∧ sayC p q x y < 31 := by unfold sayC; omega
theorem sayS_in (p q : Pty) (x y : BitVec 16) : 0 ≤ sayS p q x y ∧ sayS p q x y < 31 := by unfold sayS; omega
theorem say_near (d : Dl) (lim : Int) (x y : BitVec 16) : nearB d.rc d.rs lim (sayC (ptyP d) (ptyQ d lim) x y).toNat (sayS (ptyP d) (ptyQ d lim) x y).toNat = decide (farS x y ≤ lim) := by
  have h := say_far d lim x y
  have h1 := sayC_in (ptyP d) (ptyQ d lim) x y
  have h2 := sayS_in (ptyP d) (ptyQ d lim) x y
  unfold nearB
  rw [Int.toNat_of_nonneg h1.1, Int.toNat_of_nonneg h2.1, h]
theorem bt_ok {d : Dl} (hd : d.ok) (i : Nat) (h : i < 31) : vv (bt d.t i) = d.t i := vv_ofInt _ (hd.t i h)
/-- Match is true exactly if the words differ in at most limit bits -/
theorem match_law (d : Dl) (hd : d.ok) (lim : Int) (x y : BitVec 16) : (talkOf (ptyP d) (ptyQ d lim) x y).m = decide (farS x y ≤ lim) := by
  have h1 := sayC_in (ptyP d) (ptyQ d lim) x y
  have h2 := sayS_in (ptyP d) (ptyQ d lim) x y
  have hn := say_near d lim x y
  show (tb (d.t (sayC (ptyP d) (ptyQ d lim) x y).toNat) (sayS (ptyP d) (ptyQ d lim) x y).toNat != tb (tabO d.t d.rc d.rs lim (sayC (ptyP d) (ptyQ d lim) x y).toNat) (sayS (ptyP d) (ptyQ d lim) x y).toNat) = _
  have hs : (sayS (ptyP d) (ptyQ d lim) x y).toNat < 31 := by omega
  rw [← bt_ok hd _ (by omega), tb_vv, tabO, tb_vv, rowN_bit _ _ _ _ (by omega), hn, decide_eq_true hs]
  cases (bt d.t (sayC (ptyP d) (ptyQ d lim) x y).toNat).getLsbD (sayS (ptyP d) (ptyQ d lim) x y).toNat <;> cases decide (farS x y ≤ lim) <;> rfl
/-- the deal with which the first party sees the same -/
def d1B (d : Dl) (y o : BitVec 16) : Dl := { d with b := fun i => (d.b i + bitI o i - bitI y i) % 31 }
def outB (d : Dl) (lim : Int) (x y o : BitVec 16) : Dl := { d1B d y o with rs := (d.rs + sayS (ptyP d) (ptyQ d lim) x y - sayS (ptyP (d1B d y o)) (ptyQ (d1B d y o) lim) x o) % 31 }
/-- the deal with which the second party sees the same -/
def d1A (d : Dl) (x o : BitVec 16) : Dl := { d with a := fun i => (d.a i + bitI o i - bitI x i) % 31, u := fun i => ((d.a i + bitI o i - bitI x i) % 31 * d.b i - (d.a i * d.b i - d.u i) % 31) % 31 }
def rcA (d : Dl) (lim : Int) (x y o : BitVec 16) : Int := (d.rc + sayC (ptyP d) (ptyQ d lim) x y - sayC (ptyP (d1A d x o)) (ptyQ (d1A d x o) lim) o y) % 31
def outA (d : Dl) (lim : Int) (x y o : BitVec 16) : Dl := { d1A d x o with rc := rcA d lim x y o, t := tabO (tabO d.t d.rc d.rs lim) (rcA d lim x y o) d.rs lim }
theorem outB_law (d : Dl) (lim : Int) (x y o : BitVec 16) :
    let T := talkOf (ptyP d) (ptyQ d lim) x y
    let T' := talkOf (ptyP (outB d lim x y o)) (ptyQ (outB d lim x y o) lim) x o
    T'.d = T.d ∧ T'.e = T.e ∧ T'.c = T.c ∧ T'.s = T.s ∧ T'.l = T.l := by
  have he : ∀ i, (bitI o i - (outB d lim x y o).b i) % 31 = (bitI y i - d.b i) % 31 := fun i => by
    show (bitI o i - (d.b i + bitI o i - bitI y i) % 31) % 31 = _
    omega
  have hP : prodP (ptyP (outB d lim x y o)) (ptyQ (outB d lim x y o) lim) o = prodP (ptyP d) (ptyQ d lim) y := funext fun i => by
    show ((d.a i * ((bitI o i - (outB d lim x y o).b i) % 31)) % 31 + d.u i) % 31 = _
    rw [he]; rfl
  have hc : sayC (ptyP (outB d lim x y o)) (ptyQ (outB d lim x y o) lim) x o = sayC (ptyP d) (ptyQ d lim) x y := by
    unfold sayC; rw [hP]; rfl
  have hs : sayS (ptyP (outB d lim x y o)) (ptyQ (outB d lim x y o) lim) x o = sayS (ptyP d) (ptyQ d lim) x y := by
    have e1 : sayS (ptyP (d1B d y o)) (ptyQ (d1B d y o) lim) x o = (cntS (bitI o) (prodQ (ptyP (d1B d y o)) (ptyQ (d1B d y o) lim) x o) 15 % 31 + d.rs) % 31 := rfl
    have e2 : sayS (ptyP (outB d lim x y o)) (ptyQ (outB d lim x y o) lim) x o = (cntS (bitI o) (prodQ (ptyP (d1B d y o)) (ptyQ (d1B d y o) lim) x o) 15 % 31 + (d.rs + sayS (ptyP d) (ptyQ d lim) x y - sayS (ptyP (d1B d y o)) (ptyQ (d1B d y o) lim) x o) % 31) % 31 := rfl
    have h1 := sayS_in (ptyP d) (ptyQ d lim) x y
    rw [e2, e1]
    omega
  refine ⟨rfl, funext he, hc, hs, ?_⟩
  show tb (d.t _) _ = tb (d.t _) _
  rw [hc, hs]
theorem outA_law (d : Dl) (lim : Int) (x y o : BitVec 16) :
    let T := talkOf (ptyP d) (ptyQ d lim) x y
    let T' := talkOf (ptyP (outA d lim x y o)) (ptyQ (outA d lim x y o) lim) o y
    T'.d = T.d ∧ T'.e = T.e ∧ T'.c = T.c ∧ T'.s = T.s ∧ T'.r = T.r ∧ ptyQ (outA d lim x y o) lim = ptyQ d lim := by
  have hd : ∀ i, (bitI o i - (outA d lim x y o).a i) % 31 = (bitI x i - d.a i) % 31 := fun i => by
    show (bitI o i - (d.a i + bitI o i - bitI x i) % 31) % 31 = _
    omega
  have hq : ptyQ (outA d lim x y o) lim = ptyQ d lim := by
    show Pty.mk _ _ _ _ = Pty.mk _ _ _ _
    congr 1
    · funext i
      show ((d.a i + bitI o i - bitI x i) % 31 * d.b i - ((d.a i + bitI o i - bitI x i) % 31 * d.b i - (d.a i * d.b i - d.u i) % 31) % 31) % 31 = _
      generalize (d.a i + bitI o i - bitI x i) % 31 * d.b i = e
      generalize d.a i * d.b i = f
      omega
    · exact tabO_back _ _ _ _ fun i => by rw [bt_tabO]; rfl
  have hQ : prodQ (ptyP (outA d lim x y o)) (ptyQ d lim) o y = prodQ (ptyP d) (ptyQ d lim) x y := funext fun i => by
    show (((bitI o i - (outA d lim x y o).a i) % 31 * ((d.b i + (bitI y i - d.b i) % 31) % 31)) % 31 + _) % 31 = _
    rw [hd]; rfl
  have hs : sayS (ptyP (outA d lim x y o)) (ptyQ (outA d lim x y o) lim) o y = sayS (ptyP d) (ptyQ d lim) x y := by
    unfold sayS; rw [hq, hQ]
  have hc : sayC (ptyP (outA d lim x y o)) (ptyQ (outA d lim x y o) lim) o y = sayC (ptyP d) (ptyQ d lim) x y := by
    have e1 : sayC (ptyP (d1A d x o)) (ptyQ (d1A d x o) lim) o y = (cntS (bitI o) (prodP (ptyP (d1A d x o)) (ptyQ (d1A d x o) lim) y) 15 % 31 + d.rc) % 31 := rfl
    have e2 : sayC (ptyP (outA d lim x y o)) (ptyQ (outA d lim x y o) lim) o y = (cntS (bitI o) (prodP (ptyP (d1A d x o)) (ptyQ (d1A d x o) lim) y) 15 % 31 + (d.rc + sayC (ptyP d) (ptyQ d lim) x y - sayC (ptyP (d1A d x o)) (ptyQ (d1A d x o) lim) o y) % 31) % 31 := rfl
    have h1 := sayC_in (ptyP d) (ptyQ d lim) x y
    rw [e2, e1]
    omega
  refine ⟨funext hd, by show (fun i => (bitI y i - _) % 31) = _; rfl, hc, hs, ?_, hq⟩
  show tb ((ptyQ (outA d lim x y o) lim).t _) _ = tb ((ptyQ d lim).t _) _
  rw [hc, hs, hq]
end Go.Proofs.Ytfdcapblgdlkaaa
/- The other party's table: the loops. -/
namespace Go.Proofs.Ytfdcapblgdlkaaa
open Go.RowKit

attribute [go_sem] vv_xor
theorem A31_set (f : Nat → Int) (k : Nat) (v : Int) : (A31 f).setIfInBounds k (.int .u32 v) = A31 fun i => if i = k then v else f i := by
  apply Array.ext'
  apply List.ext_getElem?
  intro j
  rw [Array.getElem?_toList, Array.getElem?_toList, Array.getElem?_setIfInBounds]
  rcases Nat.lt_or_ge j 31 with h | h
  · rw [A31_at _ _ h, A31_at _ _ h]
    by_cases hj : k = j
    · subst hj; simp [A31_size, h]
    · simp [hj, show ¬ j = k from fun e => hj e.symm]
  · rw [Array.getElem?_eq_none (by rw [A31_size]; omega), Array.getElem?_eq_none (by rw [A31_size]; omega)]
    simp [A31_size]; omega
theorem A31_congr {f g : Nat → Int} (h : ∀ i, i < 31 → f i = g i) : A31 f = A31 g := by
  apply Array.ext'
  apply List.ext_getElem?
  intro j
  rw [Array.getElem?_toList, Array.getElem?_toList]
  rcases Nat.lt_or_ge j 31 with hj | hj
  · rw [A31_at _ _ hj, A31_at _ _ hj, h j hj]
  · rw [Array.getElem?_eq_none (by rw [A31_size]; omega), Array.getElem?_eq_none (by rw [A31_size]; omega)]
theorem A31_one {f : Nat → Int} : (A31 f).all (·.oneCell') = true := by
  unfold A31 valL
  simp [u32V, Value.oneCell']
def Z31 : Array Value := Array.replicate 31 (.int .u32 0)
/-- the table when k rows and m bits of the next one are done -/
def tabS (t : Nat → Int) (rc rs lim : Int) (k m i : Nat) : Int :=
  if i < k then tabO t rc rs lim i else if i = k then vv (rowN (bt t i) (nearB rc rs lim i) m) else t i
theorem tabS_start (t : Nat → Int) (rc rs lim : Int) (ht : ∀ i, i < 31 → 0 ≤ t i ∧ t i < 4294967296) : A31 (tabS t rc rs lim 0 0) = A31 t :=
  A31_congr fun i hi => by
    unfold tabS
    rw [if_neg (by omega)]
    split
    · exact vv_ofInt _ (ht i hi)
    · rfl
theorem tabS_row (t : Nat → Int) (rc rs lim : Int) (ht : ∀ i, i < 31 → 0 ≤ t i ∧ t i < 4294967296) (k : Nat) : A31 (tabS t rc rs lim k 31) = A31 (tabS t rc rs lim (k + 1) 0) :=
  A31_congr fun i hi => by
    unfold tabS
    rcases Nat.lt_trichotomy i k with h | h | h
    · rw [if_pos h, if_pos (by omega)]
    · subst h
      rw [if_neg (by omega), if_pos rfl, if_pos (by omega)]; rfl
    · rw [if_neg (by omega), if_neg (by omega), if_neg (by omega)]
      split
      · exact (vv_ofInt _ (ht i hi)).symm
      · rfl
theorem tabS_end (t : Nat → Int) (rc rs lim : Int) : A31 (tabS t rc rs lim 31 0) = A31 (tabO t rc rs lim) :=
  A31_congr fun i hi => by unfold tabS; rw [if_pos hi]
theorem tabS_cell (t : Nat → Int) (rc rs lim : Int) (k m : Nat) (hk : k < 31) : (A31 (tabS t rc rs lim k m))[k]? = some (.int .u32 (vv (rowN (bt t k) (nearB rc rs lim k) m))) := by
  rw [A31_at _ _ hk]; unfold tabS; rw [if_neg (by omega), if_pos rfl]
theorem tabS_yes (t : Nat → Int) (rc rs lim : Int) (k m : Nat) (h : nearB rc rs lim k m = true) : (A31 (tabS t rc rs lim k m)).setIfInBounds k (.int .u32 (vv (rowN (bt t k) (nearB rc rs lim k) m ^^^ (1#32 <<< m)))) = A31 (tabS t rc rs lim k (m + 1)) := by
  rw [A31_set]
  congr 1
  funext i
  unfold tabS
  by_cases hi : i = k
  · subst hi
    rw [if_pos rfl, if_neg (by omega), if_pos rfl, rowN, if_pos h]
  · rw [if_neg hi, if_neg hi, if_neg hi]
theorem tabS_no (t : Nat → Int) (rc rs lim : Int) (k m : Nat) (h : nearB rc rs lim k m = false) : tabS t rc rs lim k (m + 1) = tabS t rc rs lim k m := by
  funext i
  unfold tabS
  by_cases hi : i = k
  · subst hi
    rw [if_neg (by omega), if_pos rfl, if_neg (by omega), if_pos rfl, rowN, h]
    rfl
  · rw [if_neg hi, if_neg hi]
end Go.Proofs.Ytfdcapblgdlkaaa
