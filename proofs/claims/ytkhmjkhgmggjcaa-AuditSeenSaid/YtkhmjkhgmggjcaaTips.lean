/- Tips, extensions, salts: what the program and the reference return. -/
import Derived.Test.YtkhmjkhgmggjcaaChained
namespace Go.Proofs.Ytkhmjkhgmggjcaa
open Go.RowKit

theorem salt_any (a b : Int) (w : World) : Calls Try.prog 26 #[.int .u64 a, .int .u64 b] w fun e w' => e = .returned (.int .u64 (bits .xor .u64 a b)) ∧ w = w' := by
  go_enter Try.func26, Try.ntmps26
  go_wp2
  go_ret
  exact ⟨rfl, rfl⟩
theorem refSalt_any (a b : Int) (w : World) : Calls Try.prog 27 #[.int .u64 a, .int .u64 b] w fun e w' => e = .returned (.int .u64 (bits .xor .u64 a b)) ∧ w = w' := by
  go_enter Try.func27, Try.ntmps27
  go_wp2
  go_ret
  exact ⟨rfl, rfl⟩

theorem field_link (x : E) (w : World) : (Instr.field 54 x.val 6).run Try.prog w = .ok (.int .u64 x.link) w := by kernel_rfl

def lastE (l : List E) : E := l.getLastD E.zero
set_option maxHeartbeats 400000 in
theorem last_any (A : Option Addr) (c : Nat) (l : List E) (w : World) (hl : Log w A l) (hn : l.length ≤ 100) :
    Calls Try.prog 48 #[.slice A l.length c] w fun e w' => e = .returned (lastE l).val ∧ Ext w w' := by
  rcases hl with rfl | ⟨b, off, rfl, hb, hc⟩
  · go_enter Try.func48, Try.ntmps48
    go_wp2_with fail
    exact bodyPost_ret (v := E.zero.val) (by simp [results, Try.results48, go_sem, E.zero]) rfl ⟨rfl, (Ext.refl _).alloc _⟩
  · rcases List.eq_nil_or_concat l with rfl | ⟨l', x, rfl⟩
    · go_enter Try.func48, Try.ntmps48
      go_wp2_with fail
      exact bodyPost_ret (v := E.zero.val) (by simp [results, Try.results48, go_sem, E.zero]) rfl ⟨rfl, (Ext.refl _).alloc _⟩
    · have Hv := Lib.hid (show lastE (l'.concat x) = x by simp [lastE])
      have hb' := Old.mk hb
      have hlen : (l'.concat x).length = l'.length + 1 := by simp
      obtain ⟨c0, c1, c2, c3, c4, c5, c6⟩ := hc l'.length x (by simp)
      clear hc
      rw [hlen] at hn ⊢
      generalize lastE (l'.concat x) = y at *
      clear hlen
      have hne : ((l'.length : Int) + 1 == 0) = false := by simp; omega
      go_enter Try.func48, Try.ntmps48
      go_wp2_with fail
      exact bodyPost_ret (v := x.val) (by simp [results, Try.results48, go_sem]) rfl ⟨ret_of (by rw [Hv.out]), (Ext.refl _).alloc _⟩

set_option maxHeartbeats 400000 in
theorem refLast_any (A : Option Addr) (c : Nat) (l : List E) (w : World) (hl : Log w A l) (hn : l.length ≤ 100) :
    Calls Try.prog 50 #[.slice A l.length c] w fun e w' => e = .returned (.int .u64 (lastE l).link) ∧ Ext w w' := by
  rcases hl with rfl | ⟨b, off, rfl, hb, hc⟩
  · go_enter Try.func50, Try.ntmps50
    go_wp2_with fail
    go_ret
    exact ⟨rfl, Ext.refl _⟩
  · rcases List.eq_nil_or_concat l with rfl | ⟨l', x, rfl⟩
    · go_enter Try.func50, Try.ntmps50
      go_wp2_with fail
      go_ret
      exact ⟨rfl, Ext.refl _⟩
    · have Hv := Lib.hid (show lastE (l'.concat x) = x by simp [lastE])
      have hb' := Old.mk hb
      have hlen : (l'.concat x).length = l'.length + 1 := by simp
      obtain ⟨c0, c1, c2, c3, c4, c5, c6⟩ := hc l'.length x (by simp)
      clear hc
      rw [hlen] at hn ⊢
      generalize lastE (l'.concat x) = y at *
      clear hlen
      have hne : ((l'.length : Int) + 1 == 0) = false := by simp; omega
      go_enter Try.func50, Try.ntmps50
      go_wp2_with fail
      go_ret
      exact ⟨ret_of (by rw [Hv.out]; rfl), Ext.refl _⟩

theorem Log.grow {w w' : World} {A : Option Addr} {l : List E} (h : Log w A l) (hg : Ext w w') : Log w' A l := by
  rcases h with h | ⟨b, off, rfl, hb, hc⟩
  · exact .inl h
  · refine .inr ⟨b, off, rfl, Nat.lt_of_lt_of_le hb hg.size, fun k x hk => ?_⟩
    obtain ⟨c0, c1, c2, c3, c4, c5, c6⟩ := hc k x hk
    exact ⟨(hg.cell hb).trans c0, (hg.cell hb).trans c1, (hg.cell hb).trans c2, (hg.cell hb).trans c3, (hg.cell hb).trans c4, (hg.cell hb).trans c5, (hg.cell hb).trans c6⟩
theorem Log.take {w : World} {A : Option Addr} {l : List E} (h : Log w A l) (n : Nat) : Log w A (l.take n) := by
  rcases h with rfl | ⟨b, off, rfl, hb, hc⟩
  · exact .inl (by simp)
  · refine .inr ⟨b, off, rfl, hb, fun k x hk => hc k x ?_⟩
    rw [List.getElem?_take] at hk
    split at hk
    · exact hk
    · cases hk

def tipV (l : List E) : Value := if okB l then .tuple #[.int .u64 (lastE l).link, .int .i64 0] else .tuple #[.int .u64 0, .int .i64 110]
set_option maxRecDepth 100000 in
set_option maxHeartbeats 400000 in
theorem tip_any (A : Option Addr) (c : Nat) (l : List E) (w : World) (hl : Log w A l) (hn : l.length ≤ 100) :
    Calls Try.prog 22 #[.slice A l.length c] w fun e w' => e = .returned (tipV l) ∧ Ext w w' := by
  cases hg : okB l
  · have Hv := Lib.hid (show tipV l = .tuple #[.int .u64 0, .int .i64 110] by simp [tipV, hg])
    have hck : checkI l = 110 := by simp [checkI_eq, hg]
    go_enter Try.func22, Try.ntmps22
    go_wp2_with (go_at_call 30; refine Calls.ext (check_any A c l _ hl hn) fun z => ?_)
    go_ret2
    exact ⟨ret_of Hv.out.symm, (Ext.refl _).ext _⟩
  · have Hv := Lib.hid (show tipV l = .tuple #[.int .u64 (lastE l).link, .int .i64 0] by simp [tipV, hg])
    have hck : checkI l = 0 := by simp [checkI_eq, hg]
    go_enter Try.func22, Try.ntmps22
    go_wp2_with (first | (go_at_call 30; refine Calls.ext (check_any A c l _ hl hn) fun z => ?_))
    have hl2 := hl.grow (Ext.ext_self w z)
    refine Calls.ext (last_any A c l _ hl2 hn) fun z2 => ?_
    have hfl := field_link
    go_wp2_with fail
    go_ret2
    exact ⟨ret_of Hv.out.symm, ((Ext.refl _).ext _).ext _⟩
set_option maxHeartbeats 400000 in
theorem refTip_any (A : Option Addr) (c : Nat) (l : List E) (w : World) (hl : Log w A l) (hok : ∀ x ∈ l, x.ok) (hn : l.length ≤ 100) :
    Calls Try.prog 23 #[.slice A l.length c] w fun e w' => e = .returned (tipV l) ∧ Ext w w' := by
  have HOK := Lib.hid hok; clear hok
  cases hg : okB l
  · have Hv := Lib.hid (show tipV l = .tuple #[.int .u64 0, .int .i64 110] by simp [tipV, hg])
    go_enter Try.func23, Try.ntmps23
    go_wp2_with (go_at_call 49; refine Calls.ext (chained_any A c l _ hl HOK.out hn) fun z => ?_)
    go_ret2
    exact ⟨ret_of Hv.out.symm, (Ext.refl _).ext _⟩
  · have Hv := Lib.hid (show tipV l = .tuple #[.int .u64 (lastE l).link, .int .i64 0] by simp [tipV, hg])
    go_enter Try.func23, Try.ntmps23
    go_wp2_with (first | (go_at_call 49; refine Calls.ext (chained_any A c l _ hl HOK.out hn) fun z => ?_) | (go_at_call 50; refine Calls.ext (refLast_any A c l _ (hl.grow ((Ext.refl w).ext _)) hn) fun z => ?_))
    go_ret2
    exact ⟨ret_of Hv.out.symm, ((Ext.refl _).ext _).ext _⟩

def extV (l : List E) (n t : Int) : Value := if okB l then if fromB 0 l.length n then .tuple #[.bool ((lastE (l.take n.toNat)).link == t), .int .i64 0] else .tuple #[.bool false, .int .i64 2] else .tuple #[.bool false, .int .i64 110]
set_option maxRecDepth 100000 in
set_option maxHeartbeats 400000 in
theorem extends_any (A : Option Addr) (c : Nat) (l : List E) (n t : Int) (w : World) (hl : Log w A l) (hn : l.length ≤ 100) (hc : l.length ≤ c) :
    Calls Try.prog 24 #[.slice A l.length c, .int .i64 n, .int .u64 t] w fun e w' => e = .returned (extV l n t) ∧ Ext w w' := by
  cases hg : okB l
  · have Hv := Lib.hid (show extV l n t = .tuple #[.bool false, .int .i64 110] by simp [extV, hg])
    have hck : checkI l = 110 := by simp [checkI_eq, hg]
    go_enter Try.func24, Try.ntmps24
    go_wp2_with (go_at_call 30; refine Calls.ext (check_any A c l _ hl hn) fun z => ?_)
    go_ret2
    exact ⟨ret_of Hv.out.symm, (Ext.refl _).ext _⟩
  · have hck : checkI l = 0 := by simp [checkI_eq, hg]
    cases hf : fromB 0 l.length n
    · have Hv := Lib.hid (show extV l n t = .tuple #[.bool false, .int .i64 2] by simp [extV, hg, hf])
      go_enter Try.func24, Try.ntmps24
      go_wp2_with (first | (go_at_call 30; refine Calls.ext (check_any A c l _ hl hn) fun z => ?_) | (go_at_call 51; refine Calls.same (from_any _ _ _ _) ?_))
      go_ret2
      exact ⟨ret_of Hv.out.symm, (Ext.refl _).ext _⟩
    · obtain ⟨h0, h1⟩ : 0 ≤ n ∧ n ≤ l.length := by simpa [fromB] using hf
      obtain ⟨m, rfl⟩ := Int.eq_ofNat_of_zero_le h0
      have Hv := Lib.hid (show extV l m t = .tuple #[.bool ((lastE (l.take m)).link == t), .int .i64 0] by simp [extV, hg, hf])
      have hm : m ≤ l.length := by omega
      have hmt : (l.take m).length = m := by simp; omega
      go_enter Try.func24, Try.ntmps24
      go_wp2_with (first | (go_at_call 30; refine Calls.ext (check_any A c l _ hl hn) fun z => ?_) | (go_at_call 51; refine Calls.same (from_any _ _ _ _) ?_))
      have hl2 := (hl.take m).grow (Ext.ext_self w z)
      have hL := last_any A c (l.take m) (ext w z) hl2 (by omega)
      rw [hmt] at hL
      refine Calls.ext hL fun z2 => ?_
      clear hL hl2 hmt
      generalize lastE (l.take m) = y at *
      have hfl := field_link
      go_wp2_with fail
      go_ret2
      exact ⟨ret_of Hv.out.symm, ((Ext.refl _).ext _).ext _⟩

set_option maxRecDepth 100000 in
set_option maxHeartbeats 400000 in
theorem refExtends_any (A : Option Addr) (c : Nat) (l : List E) (n t : Int) (w : World) (hl : Log w A l) (hok : ∀ x ∈ l, x.ok) (hn : l.length ≤ 100) (hc : l.length ≤ c) :
    Calls Try.prog 25 #[.slice A l.length c, .int .i64 n, .int .u64 t] w fun e w' => e = .returned (extV l n t) ∧ Ext w w' := by
  have HOK := Lib.hid hok; clear hok
  cases hg : okB l
  · have Hv := Lib.hid (show extV l n t = .tuple #[.bool false, .int .i64 110] by simp [extV, hg])
    go_enter Try.func25, Try.ntmps25
    go_wp2_with (go_at_call 49; refine Calls.ext (chained_any A c l _ hl HOK.out hn) fun z => ?_)
    go_ret2
    exact ⟨ret_of Hv.out.symm, (Ext.refl _).ext _⟩
  · cases hf : fromB 0 l.length n
    · have Hv := Lib.hid (show extV l n t = .tuple #[.bool false, .int .i64 2] by simp [extV, hg, hf])
      go_enter Try.func25, Try.ntmps25
      go_wp2_with (first | (go_at_call 49; refine Calls.ext (chained_any A c l _ hl HOK.out hn) fun z => ?_) | (go_at_call 52; refine Calls.same (within_any _ _ _ _) ?_))
      go_ret2
      exact ⟨ret_of Hv.out.symm, (Ext.refl _).ext _⟩
    · obtain ⟨h0, h1⟩ : 0 ≤ n ∧ n ≤ l.length := by simpa [fromB] using hf
      obtain ⟨m, rfl⟩ := Int.eq_ofNat_of_zero_le h0
      have Hv := Lib.hid (show extV l m t = .tuple #[.bool ((lastE (l.take m)).link == t), .int .i64 0] by simp [extV, hg, hf])
      have hm : m ≤ l.length := by omega
      have hmt : (l.take m).length = m := by simp; omega
      go_enter Try.func25, Try.ntmps25
      go_wp2_with (first | (go_at_call 49; refine Calls.ext (chained_any A c l _ hl HOK.out hn) fun z => ?_) | (go_at_call 52; refine Calls.same (within_any _ _ _ _) ?_))
      have hl2 := (hl.take m).grow (Ext.ext_self w z)
      have hL := refLast_any A c (l.take m) (ext w z) hl2 (by omega)
      rw [hmt] at hL
      refine Calls.ext hL fun z2 => ?_
      clear hL hl2 hmt
      generalize lastE (l.take m) = y at *
      go_wp2_with fail
      go_ret2
      exact ⟨ret_of Hv.out.symm, ((Ext.refl _).ext _).ext _⟩
end Go.Proofs.Ytkhmjkhgmggjcaa
