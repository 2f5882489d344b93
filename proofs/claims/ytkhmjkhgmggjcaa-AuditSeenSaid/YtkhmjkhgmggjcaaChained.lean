/- whorlref11.Chained: what it returns. -/
import Derived.Test.YtkhmjkhgmggjcaaCheck
namespace Go.Proofs.Ytkhmjkhgmggjcaa
open Go.RowKit

/-- The numbers of an entry fit their kinds. -/
def E.ok (x : E) : Prop := 0 ≤ x.detail ∧ x.detail < 18446744073709551616 ∧ 0 ≤ x.salt ∧ x.salt < 18446744073709551616 ∧ 0 ≤ x.seal_ ∧ x.seal_ < 18446744073709551616

theorem or_zero (a b : Int) (h0 : 0 ≤ a) (h1 : a < 18446744073709551616) (h2 : 0 ≤ b) (h3 : b < 18446744073709551616) : (bits .or .u64 a b == 0) = (a == 0 && b == 0) := by
  rw [u64_or a b h0 h1 h2 h3]
  have : (a.toNat ||| b.toNat = 0) ↔ (a.toNat = 0 ∧ b.toNat = 0) := Nat.or_eq_zero_iff
  rw [Bool.eq_iff_iff]
  simp only [beq_iff_eq, Bool.and_eq_true]
  omega
theorem xor_zero (a b c : Int) (h0 : 0 ≤ a) (h1 : a < 18446744073709551616) (h2 : 0 ≤ b) (h3 : b < 18446744073709551616) (h4 : 0 ≤ c) (h5 : c < 18446744073709551616) :
    (bits .xor .u64 (bits .xor .u64 a b) c == 0) = (a == bits .xor .u64 b c) := by
  have hab : a.toNat ^^^ b.toNat < 18446744073709551616 := Nat.xor_lt_two_pow (n := 64) (by omega) (by omega)
  rw [u64_xor a b h0 h1 h2 h3, u64_xor _ c (by omega) (by omega) h4 h5, u64_xor b c h2 h3 h4 h5, Int.toNat_natCast]
  rw [Bool.eq_iff_iff]
  simp only [beq_iff_eq]
  have : (a.toNat ^^^ b.toNat ^^^ c.toNat = 0) ↔ (a.toNat = b.toNat ^^^ c.toNat) := by
    rw [Nat.xor_assoc]
    constructor
    · intro h
      have : a.toNat ^^^ (a.toNat ^^^ (b.toNat ^^^ c.toNat)) = a.toNat ^^^ 0 := by rw [h]
      rw [← Nat.xor_assoc, Nat.xor_self, Nat.zero_xor, Nat.xor_zero] at this
      exact this.symm
    · intro h; rw [← h, Nat.xor_self]
  omega
theorem fits_eq (x : E) (h : x.ok) : fitsB x = fieldsB x := by
  obtain ⟨h0, h1, h2, h3, h4, h5⟩ := h
  unfold fitsB fieldsB
  rw [or_zero _ _ h0 h1 h2 h3, xor_zero _ _ _ h4 h5 h0 h1 h2 h3]
  by_cases hp : fromB (-1) 63 x.person = true
  · have : (x.person < 0) ↔ (x.person = -1) := by simp [fromB] at hp; omega
    simp only [this]
  · simp [hp]

/-- what the reference's loop asks of the entries that are left -/
def rchB : Bool → Int → Int → List E → Bool
  | _, _, _, [] => true
  | later, pt, lk, x :: r => fieldsB x && !(later && decide (x.time < pt)) && (x.link == linkI lk x) && rchB true x.time (linkI lk x) r
theorem rchB_eq (l : List E) (hl : ∀ x ∈ l, x.ok) (p : E) : rchB true p.time p.link l = chkB p l := by
  induction l generalizing p with
  | nil => rfl
  | cons x r ih =>
    have hx := hl x (by simp)
    simp only [rchB, chkB, fits_eq x hx, Bool.true_and]
    by_cases hk : x.link = linkI p.link x
    · have := ih (fun y hy => hl y (by simp [hy])) x
      rw [← hk, this]
    · have : (x.link == linkI p.link x) = false := by simpa using hk
      simp [this]
theorem rchB_first (l : List E) (hl : ∀ x ∈ l, x.ok) : rchB false 0 0 l = chkB E.zero l := by
  cases l with
  | nil => rfl
  | cons x r =>
    have hx := hl x (by simp)
    have h2 := rchB_eq r (fun y hy => hl y (by simp [hy])) x
    have hz : E.zero.link = 0 := rfl
    have ht : E.zero.time = 0 := rfl
    simp only [rchB, chkB, fits_eq x hx, hz, ht, Bool.false_and, Bool.not_false, Bool.and_true]
    by_cases hf : fieldsB x = true
    · have h0 : 0 ≤ x.time := by simp [fieldsB, fromB] at hf; omega
      have : decide (x.time < 0) = false := by simp; omega
      rw [this]
      by_cases hk : x.link = linkI 0 x
      · rw [← hk, h2]; simp
      · have : (x.link == linkI 0 x) = false := by simpa using hk
        simp [this]
    · simp [hf]
def okB (l : List E) : Bool := decide (l.length ≤ 60) && chkB E.zero l
theorem checkI_eq (l : List E) : checkI l = if okB l then 0 else 110 := rfl

def prevT (l : List E) (k : Nat) : Int := (l.getD (k - 1) E.zero).time

set_option maxHeartbeats 2000000 in
theorem chained_any (A : Option Addr) (c : Nat) (l : List E) (w : World) (hl : Log w A l) (hok : ∀ x ∈ l, x.ok) (hn : l.length ≤ 100) :
    Calls Try.prog 49 #[.slice A l.length c] w fun e w' => e = .returned (.bool (okB l)) ∧ Ext w w' := by
  by_cases h60 : l.length ≤ 60
  · have Hr := Lib.hid (rchB_first l hok)
    clear hok
    go_enter Try.func49, Try.ntmps49
    go_wp2_with fail
    go_loopw [3, 4] (fun t i wr => ∃ (k : Nat) (lk : Int) (z : World), k ≤ l.length ∧ i = .int .i64 k ∧ t = .int .u64 lk ∧ wr = ext w z ∧ rchB false 0 0 l = rchB (decide (0 < k)) (prevT l k) lk (l.drop k))
      (fun _ i _ => l.length - (intOf i).toNat)
    case atStart => exact ⟨0, 0, w, Nat.zero_le _, rfl, rfl, (ext_of (Ext.refl w)).symm, by cases l <;> rfl⟩
    case round =>
      obtain ⟨k, lk, z, hk, rfl, rfl, rfl, hp⟩ := hrel
      have Hp := Lib.hid hp; clear hp
      by_cases hlt : k < l.length
      · rcases hl with rfl | ⟨b, off, rfl, hb, hc⟩
        · simp at hlt
        · have hb' := Old.mk hb
          obtain ⟨c0, c1, c2, c3, c4, c5, c6⟩ := hc k l[k] (List.getElem?_eq_getElem hlt)
          have hd : l.drop k = l[k] :: l.drop (k + 1) := List.drop_eq_getElem_cons hlt
          have hnx : prevT l (k + 1) = l[k].time := by simp [prevT, List.getElem?_eq_getElem hlt]
          generalize hx : l[k] = x at *
          clear hx
          have Hd := Lib.hid (Hp.out.trans (by rw [hd])); clear hd Hp
          have Hn := Lib.hid hnx; clear hnx
          have Hok : ∀ b, rchB false 0 0 l = b → okB l = b := fun b hb => by simp [okB, h60, ← Hr.out, hb]
          have HOK := Lib.hid Hok; clear Hok
          by_cases hg : fieldsB x = true ∧ (decide (0 < k) && decide (x.time < prevT l k)) = false ∧ x.link = linkI lk x
          · obtain ⟨hf, ht, hlk⟩ := hg
            have Hv := Lib.hid (show rchB false 0 0 l = rchB (decide (0 < k + 1)) (prevT l (k + 1)) (linkI lk x) (l.drop (k + 1)) by
              rw [Hd.out, Hn.out]; simp only [rchB, hf, ht, ← hlk]; simp)
            have hlk' : (x.link != linkI lk x) = false := by simpa using hlk
            clear hlk
            rcases Nat.eq_zero_or_pos k with hk0 | hk0
            · clear hc ht
              have hki : (k : Int) ≤ 0 := by omega
              have hkd : decide (0 < k) = false := by simp; omega
              clear hk0
              go_wp2_with fail
              refine wp_region_ext (by kernel_rfl) (by kernel_rfl) ?_
              repeat (go_big_quiet_step ((first | (go_at_call 62; exact Calls.quiet_ext (fields_any x _)))))
              refine wpQuiet_nil ?_
              rintro _ ⟨z2, rfl⟩
              go_wp2_with (go_at_call 55; refine Calls.ext (refLinked_any lk x _) fun z3 => ?_)
              go_roundw
              case rel => exact ⟨k + 1, _, _, by omega, by go_num, rfl, (ext_of ((((Ext.refl w).ext z).ext z2).ext z3)).symm, Hv.out⟩
              case measure => simp [intOf]; omega
            · have hk1 : k - 1 < l.length := by omega
              obtain ⟨d0, -⟩ := hc (k - 1) l[k - 1] (List.getElem?_eq_getElem hk1)
              clear hc
              have hpv : prevT l k = l[k - 1].time := by simp [prevT, List.getElem?_eq_getElem hk1]
              rw [hpv] at ht
              generalize l[k - 1] = p at *
              clear hpv
              have hki : (0 : Int) < (k : Int) := by omega
              have ht' : decide (x.time < p.time) = false := by simpa [hk0] using ht
              clear ht
              go_wp2_with fail
              refine wp_region_ext (by kernel_rfl) (by kernel_rfl) ?_
              repeat (go_big_quiet_step ((first | (go_at_call 62; exact Calls.quiet_ext (fields_any x _)))))
              refine wpQuiet_nil ?_
              rintro _ ⟨z2, rfl⟩
              go_wp2_with (go_at_call 55; refine Calls.ext (refLinked_any lk x _) fun z3 => ?_)
              go_roundw
              case rel => exact ⟨k + 1, _, _, by omega, by go_num, rfl, (ext_of ((((Ext.refl w).ext z).ext z2).ext z3)).symm, Hv.out⟩
              case measure => simp [intOf]; omega
          · have Hv := Lib.hid (show okB l = false by
              refine HOK.out _ ?_
              rw [Hd.out]; simp only [rchB]
              cases h1 : fieldsB x <;> cases h2 : (decide (0 < k) && decide (x.time < prevT l k)) <;> by_cases h3 : x.link = linkI lk x <;> simp_all)
            have hg' : fieldsB x = false ∨ (fieldsB x = true ∧ (decide (0 < k) && decide (x.time < prevT l k)) = true) ∨ (fieldsB x = true ∧ (decide (0 < k) && decide (x.time < prevT l k)) = false ∧ (x.link != linkI lk x) = true) := by
              cases h1 : fieldsB x <;> cases h2 : (decide (0 < k) && decide (x.time < prevT l k)) <;> by_cases h3 : x.link = linkI lk x <;> simp_all
            clear hg
            rcases Nat.eq_zero_or_pos k with hk0 | hk0
            · clear hc
              have hki : (k : Int) ≤ 0 := by omega
              have hkd : decide (0 < k) = false := by simp; omega
              simp only [hk0, Nat.lt_irrefl, decide_false, Bool.false_and, Bool.false_eq_true, and_false, false_or, true_and] at hg'
              clear hk0
              rcases hg' with hf | ⟨hf, hlk'⟩
              all_goals
                go_wp2_with fail
                refine wp_region_ext (by kernel_rfl) (by kernel_rfl) ?_
                repeat (go_big_quiet_step ((first | (go_at_call 62; exact Calls.quiet_ext (fields_any x _)))))
                refine wpQuiet_nil ?_
                rintro _ ⟨z2, rfl⟩
                go_wp2_with (go_at_call 55; refine Calls.ext (refLinked_any lk x _) fun z3 => ?_)
                go_ret
                refine ⟨ret_of (by rw [Hv.out]; rfl), ?_⟩
                repeat' (first | with_reducible exact Ext.refl _ | with_reducible refine Ext.ext ?_ _)
            · have hk1 : k - 1 < l.length := by omega
              obtain ⟨d0, -⟩ := hc (k - 1) l[k - 1] (List.getElem?_eq_getElem hk1)
              clear hc
              have hpv : prevT l k = l[k - 1].time := by simp [prevT, List.getElem?_eq_getElem hk1]
              rw [hpv] at hg'
              generalize l[k - 1] = p at *
              clear hpv
              have hki : (0 : Int) < (k : Int) := by omega
              simp only [hk0, decide_true, Bool.true_and] at hg'
              rcases hg' with hf | ⟨hf, ht'⟩ | ⟨hf, ht', hlk'⟩
              all_goals
                go_wp2_with fail
                refine wp_region_ext (by kernel_rfl) (by kernel_rfl) ?_
                repeat (go_big_quiet_step ((first | (go_at_call 62; exact Calls.quiet_ext (fields_any x _)))))
                refine wpQuiet_nil ?_
                rintro _ ⟨z2, rfl⟩
                go_wp2_with (go_at_call 55; refine Calls.ext (refLinked_any lk x _) fun z3 => ?_)
                go_ret
                refine ⟨ret_of (by rw [Hv.out]; rfl), ?_⟩
                repeat' (first | with_reducible exact Ext.refl _ | with_reducible refine Ext.ext ?_ _)
      · have Hv := Lib.hid (show okB l = true by
          have h1 := Hp.out
          rw [List.drop_of_length_le (by omega)] at h1
          simp [okB, h60, ← Hr.out, h1, rchB])
        go_wp2_with fail
        go_ret
        exact ⟨ret_of (by rw [Hv.out]; rfl), (Ext.refl w).ext z⟩
  · have Hv := Lib.hid (show okB l = false by simp [okB, h60])
    go_enter Try.func49, Try.ntmps49
    go_wp2_with fail
    go_ret
    exact ⟨ret_of (by rw [Hv.out]; rfl), Ext.refl w⟩
end Go.Proofs.Ytkhmjkhgmggjcaa
