/- Plain facts: a changed entry changes all later links. -/
import Derived.Test.YtkhmjkhgmggjcaaPure3
import Derived.Test.YtkhmjkhgmggjcaaLogs
namespace Go.Proofs.Ytkhmjkhgmggjcaa
open Go.RowKit

def inU (a : Int) : Prop := 0 ≤ a ∧ a < 18446744073709551616
theorem xor_bv (a b : BitVec 64) : bits .xor .u64 (a.toNat : Int) (b.toNat : Int) = ((a ^^^ b).toNat : Int) := by
  rw [u64_xor _ _ (by omega) (by have := a.isLt; omega) (by omega) (by have := b.isLt; omega)]
  simp
theorem mul_bv (a : BitVec 64) (c : Nat) : IntKind.u64.wrap ((a.toNat : Int) * (c : Int)) = ((a * BitVec.ofNat 64 c).toNat : Int) := by
  rw [IntKind.wrap_u64, BitVec.toNat_mul, BitVec.toNat_ofNat]
  have : (a.toNat : Int) * (c : Int) = ((a.toNat * c : Nat) : Int) := by simp
  rw [this, show (18446744073709551616 : Int) = ((2 ^ 64 : Nat) : Int) by rfl, ← Int.natCast_emod, Nat.mul_mod_mod]
theorem shr_bv (a : BitVec 64) (n : Nat) : (a.toNat : Int) / ((2 ^ n : Nat) : Int) = ((a >>> n).toNat : Int) := by
  rw [BitVec.toNat_ushiftRight, Nat.shiftRight_eq_div_pow, Int.natCast_ediv]
theorem mix_bv (a b : BitVec 64) : mixI a.toNat b.toNat = ((mixV a b).toNat : Int) := by
  unfold mixI mixV
  simp only
  rw [xor_bv]
  have m1 := mul_bv (a ^^^ b) 11400714819323198485
  rw [show ((11400714819323198485 : Nat) : Int) = 11400714819323198485 by rfl] at m1
  rw [m1]
  generalize (a ^^^ b) * BitVec.ofNat 64 11400714819323198485 = x1
  have s1 := shr_bv x1 29
  rw [show ((2 ^ 29 : Nat) : Int) = 536870912 by rfl] at s1
  rw [s1, xor_bv]
  have m2 := mul_bv (x1 ^^^ x1 >>> 29) 13787848793156543929
  rw [show ((13787848793156543929 : Nat) : Int) = 13787848793156543929 by rfl] at m2
  rw [m2]
  generalize (x1 ^^^ x1 >>> 29) * BitVec.ofNat 64 13787848793156543929 = x3
  have s2 := shr_bv x3 32
  rw [show ((2 ^ 32 : Nat) : Int) = 4294967296 by rfl] at s2
  rw [s2, xor_bv]
theorem inU_bv {a : Int} (h : inU a) : a = ((BitVec.ofNat 64 a.toNat).toNat : Int) := by
  obtain ⟨h0, h1⟩ := h
  rw [BitVec.toNat_ofNat, Nat.mod_eq_of_lt (by omega)]; omega
theorem bv_inU (x : BitVec 64) : inU (x.toNat : Int) := ⟨by omega, by have := x.isLt; omega⟩
theorem mix_inU {a b : Int} (ha : inU a) (hb : inU b) : inU (mixI a b) := by
  rw [inU_bv ha, inU_bv hb, mix_bv]; exact bv_inU _
theorem bv_inj {x y : BitVec 64} (h : (x.toNat : Int) = (y.toNat : Int)) : x = y := BitVec.eq_of_toNat_eq (by omega)
theorem xor_cancel {a b c : BitVec 64} (h : a ^^^ b = c ^^^ b) : a = c := by
  have := congrArg (· ^^^ b) h
  simpa [BitVec.xor_assoc] using this
theorem mix_inj1 {a a' b : Int} (ha : inU a) (ha' : inU a') (hb : inU b) (h : mixI a b = mixI a' b) : a = a' := by
  rw [inU_bv ha, inU_bv ha', inU_bv hb, mix_bv, mix_bv] at h
  have := xor_cancel (mixV_inj (bv_inj h))
  rw [inU_bv ha, inU_bv ha', this]
theorem mix_inj2 {a b b' : Int} (ha : inU a) (hb : inU b) (hb' : inU b') (h : mixI a b = mixI a b') : b = b' := by
  rw [inU_bv ha, inU_bv hb', inU_bv hb, mix_bv, mix_bv] at h
  have := mixV_inj (bv_inj h)
  rw [BitVec.xor_comm, BitVec.xor_comm (BitVec.ofNat 64 a.toNat)] at this
  rw [inU_bv hb, inU_bv hb', xor_cancel this]
theorem wrap_inU (t : Int) : inU (IntKind.u64.wrap t) := by rw [IntKind.wrap_u64]; unfold inU; omega
theorem wrap_inj {t t' : Int} (h1 : -9223372036854775808 ≤ t ∧ t ≤ 9223372036854775807) (h2 : -9223372036854775808 ≤ t' ∧ t' ≤ 9223372036854775807) (h : IntKind.u64.wrap t = IntKind.u64.wrap t') : t = t' := by
  rw [IntKind.wrap_u64, IntKind.wrap_u64] at h; omega
theorem link_inU {a : Int} {x : E} (ha : inU a) (hs : inU x.seal_) : inU (linkI a x) := mix_inU (mix_inU (mix_inU ha (wrap_inU _)) (wrap_inU _)) hs
theorem link_first {a a' : Int} {x : E} (ha : inU a) (ha' : inU a') (hs : inU x.seal_) (h : linkI a x = linkI a' x) : a = a' := by
  unfold linkI at h
  have h1 := mix_inj1 (mix_inU (mix_inU ha (wrap_inU _)) (wrap_inU _)) (mix_inU (mix_inU ha' (wrap_inU _)) (wrap_inU _)) hs h
  have h2 := mix_inj1 (mix_inU ha (wrap_inU _)) (mix_inU ha' (wrap_inU _)) (wrap_inU _) h1
  exact mix_inj1 ha ha' (wrap_inU _) h2
theorem link_time {a : Int} {x x' : E} (ha : inU a) (hs : inU x.seal_) (hk : x'.kind = x.kind) (hse : x'.seal_ = x.seal_) (h : linkI a x' = linkI a x) : IntKind.u64.wrap x'.time = IntKind.u64.wrap x.time := by
  unfold linkI at h
  rw [hk, hse] at h
  have h1 := mix_inj1 (mix_inU (mix_inU ha (wrap_inU _)) (wrap_inU _)) (mix_inU (mix_inU ha (wrap_inU _)) (wrap_inU _)) hs h
  have h2 := mix_inj1 (mix_inU ha (wrap_inU _)) (mix_inU ha (wrap_inU _)) (wrap_inU _) h1
  exact mix_inj2 ha (wrap_inU _) (wrap_inU _) h2
theorem link_kind {a : Int} {x x' : E} (ha : inU a) (hs : inU x.seal_) (ht : x'.time = x.time) (hse : x'.seal_ = x.seal_) (h : linkI a x' = linkI a x) : IntKind.u64.wrap x'.kind = IntKind.u64.wrap x.kind := by
  unfold linkI at h
  rw [ht, hse] at h
  have h1 := mix_inj1 (mix_inU (mix_inU ha (wrap_inU _)) (wrap_inU _)) (mix_inU (mix_inU ha (wrap_inU _)) (wrap_inU _)) hs h
  exact mix_inj2 (mix_inU ha (wrap_inU _)) (wrap_inU _) (wrap_inU _) h1
theorem link_seal {a : Int} {x x' : E} (ha : inU a) (hs : inU x.seal_) (hs' : inU x'.seal_) (ht : x'.time = x.time) (hk : x'.kind = x.kind) (h : linkI a x' = linkI a x) : x'.seal_ = x.seal_ := by
  unfold linkI at h
  rw [ht, hk] at h
  exact mix_inj2 (mix_inU (mix_inU ha (wrap_inU _)) (wrap_inU _)) hs' hs h

/-- the link behind some entries -/
def lnk : Int → List E → Int
  | a, [] => a
  | a, x :: r => lnk (linkI a x) r
/-- all links made again -/
def againL : Int → List E → List E
  | _, [] => []
  | a, x :: r => ⟨x.time, x.kind, x.person, x.detail, x.salt, x.seal_, linkI a x⟩ :: againL (linkI a x) r
theorem lnk_append (l m : List E) : ∀ a, lnk a (l ++ m) = lnk (lnk a l) m := by
  induction l with
  | nil => intro a; rfl
  | cons x r ih => intro a; exact ih _
theorem again_append (l m : List E) : ∀ a, againL a (l ++ m) = againL a l ++ againL (lnk a l) m := by
  induction l with
  | nil => intro a; rfl
  | cons x r ih => intro a; simp only [List.cons_append, againL, lnk]; rw [ih]
theorem again_len (l : List E) : ∀ a, (againL a l).length = l.length := by
  induction l with
  | nil => intro a; rfl
  | cons x r ih => intro a; simp [againL, ih]
theorem again_take (l : List E) (n : Nat) : ∀ a, (againL a l).take n = againL a (l.take n) := by
  induction l generalizing n with
  | nil => intro a; simp [againL]
  | cons x r ih =>
    intro a
    cases n with
    | zero => simp [againL]
    | succ n => simp [againL, ih]
theorem again_last (l : List E) : ∀ (a : Int) (q : E), q.link = a → (lastQ q (againL a l)).link = lnk a l := by
  induction l with
  | nil => intro a q h; exact h
  | cons x r ih => intro a q _; simp only [againL, lnk, lastQ_cons]; exact ih _ _ rfl
theorem chk_last (l : List E) : ∀ (q : E), chkB q l = true → (lastQ q l).link = lnk q.link l := by
  induction l with
  | nil => intro q _; rfl
  | cons x r ih =>
    intro q h
    simp only [chkB, Bool.and_eq_true, beq_iff_eq] at h
    rw [lastQ_cons, lnk, ih x h.2, h.1.2]
theorem lnk_inU (l : List E) (hl : ∀ x ∈ l, x.ok) : ∀ a, inU a → inU (lnk a l) := by
  induction l with
  | nil => intro a h; exact h
  | cons x r ih =>
    intro a h
    have hx := hl x (by simp)
    exact ih (fun y hy => hl y (by simp [hy])) _ (link_inU h ⟨hx.2.2.2.2.1, hx.2.2.2.2.2⟩)
theorem lnk_inj (l : List E) (hl : ∀ x ∈ l, x.ok) : ∀ a b, inU a → inU b → lnk a l = lnk b l → a = b := by
  induction l with
  | nil => intro a b _ _ h; exact h
  | cons x r ih =>
    intro a b ha hb h
    have hx := hl x (by simp)
    have hs : inU x.seal_ := ⟨hx.2.2.2.2.1, hx.2.2.2.2.2⟩
    exact link_first ha hb hs (ih (fun y hy => hl y (by simp [hy])) _ _ (link_inU ha hs) (link_inU hb hs) h)

/-- the tips after a change at i -/
theorem tips_change (l : List E) (i : Nat) (x' : E) (hi : i < l.length) (hl : ∀ x ∈ l, x.ok) (hx : inU x'.seal_) (hne : ∀ a, inU a → linkI a x' ≠ linkI a l[i]) (n : Nat) (hn : n ≤ l.length) :
    (lnk 0 ((l.set i x').take n) == lnk 0 (l.take n)) = decide (n ≤ i) := by
  by_cases hni : n ≤ i
  · have : (l.set i x').take n = l.take n := by
      rw [List.take_set, List.set_eq_of_length_le (by simp; omega)]
    simp [this, hni]
  · have e : l = l.take i ++ l[i] :: l.drop (i + 1) := by
      rw [← List.drop_eq_getElem_cons hi, List.take_append_drop]
    have hti : (l.take i).length = i := by simp; omega
    obtain ⟨m, rfl⟩ : ∃ m, n = i + (m + 1) := ⟨n - i - 1, by omega⟩
    have e1 : l.take (i + (m + 1)) = l.take i ++ l[i] :: (l.drop (i + 1)).take m := by
      rw [List.take_add, List.drop_eq_getElem_cons hi, List.take_succ_cons]
    have e2 : (l.set i x').take (i + (m + 1)) = l.take i ++ x' :: (l.drop (i + 1)).take m := by
      rw [List.take_set, e1, List.set_append_right _ _ (by omega), hti, Nat.sub_self, List.set_cons_zero]
    have hz : inU 0 := ⟨by omega, by omega⟩
    have hp : inU (lnk 0 (l.take i)) := lnk_inU _ (fun x hx => hl x (List.mem_of_mem_take hx)) _ hz
    have hxi := hl l[i] (List.getElem_mem hi)
    have hsi : inU l[i].seal_ := ⟨hxi.2.2.2.2.1, hxi.2.2.2.2.2⟩
    rw [e1, e2, lnk_append, lnk_append]
    have hd : lnk (linkI (lnk 0 (l.take i)) x') ((l.drop (i + 1)).take m) ≠ lnk (linkI (lnk 0 (l.take i)) l[i]) ((l.drop (i + 1)).take m) := fun h =>
      hne _ hp (lnk_inj _ (fun x hx => hl x (List.mem_of_mem_drop (List.mem_of_mem_take hx))) _ _ (link_inU hp hx) (link_inU hp hsi) h)
    have : decide (i + (m + 1) ≤ i) = false := by simp
    rw [this]
    simpa [lnk] using hd
theorem chk_change (l : List E) (i : Nat) (x' : E) (hi : i < l.length) (hg : okB l = true) (hl : ∀ x ∈ l, x.ok) (hx : x'.link = l[i].link) (hne : ∀ a, inU a → linkI a x' ≠ linkI a l[i]) : okB (l.set i x') = false := by
  have hti : (l.take i).length = i := by simp; omega
  have e : l = l.take i ++ l[i] :: l.drop (i + 1) := by
    rw [← List.drop_eq_getElem_cons hi, List.take_append_drop]
  have e2 : l.set i x' = l.take i ++ x' :: l.drop (i + 1) := by
    conv => lhs; rw [e]
    rw [List.set_append_right _ _ (by omega), hti, Nat.sub_self, List.set_cons_zero]
  simp only [okB, Bool.and_eq_true, decide_eq_true_eq] at hg
  have hc := hg.2
  rw [e, chk_append, Bool.and_eq_true] at hc
  obtain ⟨c1, c2⟩ := hc
  simp only [chkB, Bool.and_eq_true, beq_iff_eq] at c2
  have hz : inU 0 := ⟨by omega, by omega⟩
  have hp : inU (lastQ E.zero (l.take i)).link := by
    rw [chk_last _ _ c1]; exact lnk_inU _ (fun x hx => hl x (List.mem_of_mem_take hx)) _ hz
  have : chkB E.zero (l.set i x') = false := by
    rw [e2, chk_append, c1, Bool.true_and]
    simp only [chkB]
    have : (x'.link == linkI (lastQ E.zero (List.take i l)).link x') = false := by
      rw [hx, c2.1.2]
      simpa using fun h => hne _ hp h.symm
    simp [this]
  simp [okB, this]
/-- the whole law, in plain words -/
theorem seen_ext (l : List E) (i : Nat) (x' : E) (hi : i < l.length) (hg : okB l = true) (hl : ∀ x ∈ l, x.ok) (hx : inU x'.seal_) (hne : ∀ a, inU a → linkI a x' ≠ linkI a l[i])
    (hm : okB (againL 0 (l.set i x')) = true) (n : Nat) (hn : n ≤ l.length) : extV (againL 0 (l.set i x')) n (lastE (l.take n)).link = .tuple #[.bool (decide (n ≤ i)), .int .i64 0] := by
  have hf : fromB 0 (againL 0 (l.set i x')).length n = true := by simp [fromB, again_len]; omega
  have h1 : (lastE ((againL 0 (l.set i x')).take n)).link = lnk 0 ((l.set i x').take n) := by
    rw [again_take]; exact again_last _ 0 E.zero rfl
  have h2 : (lastE (l.take n)).link = lnk 0 (l.take n) := by
    have hk := ok_take hg n
    simp only [okB, Bool.and_eq_true] at hk
    exact chk_last _ E.zero hk.2
  have h3 := tips_change l i x' hi hl hx hne n hn
  simp only [extV, hm, hf, if_true, Int.toNat_natCast, h1, h2, h3]
end Go.Proofs.Ytkhmjkhgmggjcaa
