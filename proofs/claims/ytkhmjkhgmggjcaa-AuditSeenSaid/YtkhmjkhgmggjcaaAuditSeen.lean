/- Proved: for every log l, index at, number field, and all times, kinds and seals, the call of whorllaw11.AuditSeen returns true and leaves its arguments as they were. No conditions. -/
import Derived.Test.YtkhmjkhgmggjcaaAgain
import Derived.Test.YtkhmjkhgmggjcaaAuditKept
namespace Go.Proofs.Ytkhmjkhgmggjcaa
open Go.Joins Go.ChangeShapes Go.WideShapes Go.RowKit Go.Deep Go.ChangeAt

theorem flat_setj (l : List E) (k : Nat) (x x' : E) (h : l[k]? = some x) (j : Nat) (hj : j < 7) (v : Value) (hx : x.cellsL.set j v = x'.cellsL) : (flat l).set (k * 7 + j) v = flat (l.set k x') := by
  induction l generalizing k with
  | nil => simp at h
  | cons y r ih =>
    have hy : y.cellsL.length = 7 := rfl
    cases k with
    | zero =>
      obtain rfl : y = x := by simpa using h
      rw [List.set_cons_zero, flat_cons, flat_cons, List.set_append_left _ _ (by rw [hy]; omega)]
      simp only [Nat.zero_mul, Nat.zero_add]
      rw [hx]
    | succ k =>
      have hk := ih k (by simpa using h)
      rw [List.set_cons_succ, flat_cons, flat_cons, ← hk, List.set_append_right _ _ (by rw [hy]; omega), hy]
      congr 2
      omega
theorem cells7 {W : World} {g k : Nat} {l : List E} {x : E} {n cap base : Nat} (hown : W.ownsRow base 54 7 (.slice (some ⟨g, 0, none⟩) n cap) n (flat l)) (hn : l.length = n) (hx : l[k]? = some x) :
    W.cell? ⟨g, k * 7, none⟩ = some (.int .i64 x.time) ∧ W.cell? ⟨g, k * 7 + 1, none⟩ = some (.int .i64 x.kind) ∧ W.cell? ⟨g, k * 7 + 2, none⟩ = some (.int .i64 x.person) ∧ W.cell? ⟨g, k * 7 + 3, none⟩ = some (.int .u64 x.detail) ∧ W.cell? ⟨g, k * 7 + 4, none⟩ = some (.int .u64 x.salt) ∧ W.cell? ⟨g, k * 7 + 5, none⟩ = some (.int .u64 x.seal_) ∧ W.cell? ⟨g, k * 7 + 6, none⟩ = some (.int .u64 x.link) := by
  have hk : k < n := by rw [← hn]; exact (List.getElem?_eq_some_iff.1 hx).1
  have hcell := fun (j : Nat) (hj : j < 7) => (hown.cellAt (k * 7 + j) (by omega)).trans (flat_at _ k _ hx j hj)
  have c0 := hcell 0 (by omega)
  have c1 := hcell 1 (by omega)
  have c2 := hcell 2 (by omega)
  have c3 := hcell 3 (by omega)
  have c4 := hcell 4 (by omega)
  have c5 := hcell 5 (by omega)
  have c6 := hcell 6 (by omega)
  simp only [E.cellsL, List.getElem?_cons_zero, List.getElem?_cons_succ, Nat.add_zero] at c0 c1 c2 c3 c4 c5 c6
  exact ⟨c0, c1, c2, c3, c4, c5, c6⟩
theorem flat_set2 (l : List E) (k : Nat) (x x' x'' : E) (h : l[k]? = some x) (j j' : Nat) (hj : j < 7) (hj' : j' < 7) (v v' : Value) (hx : x.cellsL.set j v = x'.cellsL) (hx' : x'.cellsL.set j' v' = x''.cellsL) : ((flat l).set (k * 7 + j) v).set (k * 7 + j') v' = flat (l.set k x'') := by
  have hk : k < l.length := (List.getElem?_eq_some_iff.1 h).1
  rw [flat_setj l k x x' h j hj v hx, flat_setj (l.set k x') k x' x'' (by simp [hk]) j' hj' v' hx', List.set_set]
theorem set_self (l : List E) (k : Nat) (x : E) (h : l[k]? = some x) : l.set k x = l := by
  apply List.ext_getElem?
  intro i
  rw [List.getElem?_set]
  split
  · rename_i e; subst e
    rw [if_pos (List.getElem?_eq_some_iff.1 h).1, h]
  · rfl
theorem set_at (l : List E) (i : Nat) (x : E) (h : i < l.length) : (l.set i x)[i]? = some x := by simp [h]


set_option maxRecDepth 100000 in
set_option maxHeartbeats 2000000 in
theorem seen_time_eq (A : Option Addr) (c : Nat) (l : List E) (i : Nat) (f t k s : Int) (w : World) (hl : Log w A l) (hn : l.length ≤ 60) (hcap : l.length ≤ c) (hi : i < l.length) (hg : okB l = true) (hok : ∀ x ∈ l, x.ok) (hs0 : inU s)
    (hf8 : 0 ≤ f ∧ f < 256) (hf0 : (f % 3 == 0) = true) (he : ⟨t, l[i].kind, l[i].person, l[i].detail, l[i].salt, l[i].seal_, l[i].link⟩ = l[i]) :
    Calls Try.prog 11 #[.slice A l.length c, .int .i64 i, .int .u8 f, .int .i64 t, .int .i64 k, .int .u64 s] w fun e w' => e = .returned (.bool true) ∧ Ext w w' := by
  have C0 := Lib.hid (fun A c w hl => (by simp [checkI_eq, hg] : checkI l = 0) ▸ check_any A c l w hl (by omega))
  have hset := set_at l i ⟨t, l[i].kind, l[i].person, l[i].detail, l[i].salt, l[i].seal_, l[i].link⟩ hi
  have hflat := flat_setj l i l[i] ⟨t, l[i].kind, l[i].person, l[i].detail, l[i].salt, l[i].seal_, l[i].link⟩ (List.getElem?_eq_getElem hi) 0 (by omega) (.int .i64 t) rfl
  rw [he, set_self l i l[i] (List.getElem?_eq_getElem hi)] at hset hflat
  have Hflat := Lib.hid hflat
  have Hset := Lib.hid hset
  clear he hset hflat
  have hgi : l[i]? = some l[i] := List.getElem?_eq_getElem hi
  have HG := Lib.hid hg
  have HL := Lib.hid hl
  have HS := Lib.hid hl.slc
  have HOK := Lib.hid hok
  have Hgi := Lib.hid hgi
  clear hg hl hok hgi
  rcases HL.out with h | ⟨b, off, rfl, hb, hc⟩
  · subst h; simp at hi
  obtain ⟨a0, a1, a2, a3, a4, a5, a6⟩ := hc i l[i] Hgi.out
  have hbo := Old.mk hb
  clear hc hb
  generalize l[i] = x at *
  have hle1 : decide ((60 : Int) < (l.length : Int)) = false := by simp; omega
  have hi1 : decide ((i : Int) < 0) = false := by simp
  have hi2 : decide ((l.length : Int) ≤ (i : Int)) = false := by simp; omega
  have hi3 : decide (l.length ≤ i) = false := by simp; omega
  have hlc : l.length ≤ 100 := by omega
  go_enter Try.func11, Try.ntmps11
  go_wp2_with (first | (go_at_call 26; refine Calls.same (salt_any _ _ _) ?_) | (go_at_call 40; refine Calls.ext (alive_any _) fun z1 => ?_) | (go_at_call 30; refine Calls.ext (C0.out _ c _ (HL.out.grow (Ext.ext_self w _))) fun z2 => ?_) | (at_builtin; refine wpList_append_new rfl infoE (.tmp 44) (.tmp 45) rfl w.heap.size (by have := ext_size w z1; have := ext_size (ext w z1) z2; simp; omega) _ rfl (own_empty 7 (by have := ext_size w z1; have := ext_size (ext w z1) z2; omega) (Blk.new (ext (ext w z1) z2) 54 #[])) _ l.length c (flat l) rfl (by exact HS.out.grow ((((Ext.refl w).ext z1).ext z2).alloc _)) (flat_one' l) (by omega) (by omega) ?_; intro A2 c2 z3 hown2; obtain ⟨g, cap, hv, hgw, hgl⟩ := hown2.form (by omega); obtain ⟨rfl, -, rfl⟩ : A2 = some ⟨g, 0, none⟩ ∧ l.length = l.length ∧ c2 = cap := (by simpa using hv); have HO2 := Lib.hid hown2; have HGW := Lib.hid hgw; clear hown2 hv hgw hgl; have HE2 := Lib.hid ((((Ext.refl w).ext z1).ext z2).alloc (.cells #[] 54) |>.ext z3); generalize ext ((ext (ext w z1) z2).alloc (.cells #[] 54)) z3 = W2 at *; obtain ⟨o0, o1, o2, o3, o4, o5, o6⟩ := cells7 HO2.out rfl Hgi.out; have hf := HO2.out.frozenAt))
  have HO3 := Lib.hid (by have := (HO2.out.stored (i * 7 + 0) (.int .i64 t)).1; rw [Hflat.out] at this; exact this)
  have HE3 := Lib.hid (HE2.out.setCell (p := ⟨g, i * 7 + 0, none⟩) HGW.out (.int .i64 t))
  have HW3 : Hid (W2.setCell ⟨g, i * 7 + 0, none⟩ (.int .i64 t) = W2.setCell ⟨g, i * 7, none⟩ (.int .i64 t)) := Lib.hid rfl
  rw [HW3.out] at HO3 HE3
  clear o0 o1 o2 o3 o4 o5 o6 hf HW3
  generalize hW3 : W2.setCell ⟨g, i * 7, none⟩ (.int .i64 t) = W3 at *
  clear hW3
  obtain ⟨o0, o1, o2, o3, o4, o5, o6⟩ := cells7 HO3.out rfl Hset.out
  have HLM := Lib.hid (Slc.log (l := l) (by  exact Slc.of_own HO3.out))
  have hgo := Old.mk (own_lt HO3.out g rfl)
  clear HO2 HE2
  obtain ⟨z4, rfl⟩ : ∃ z4, W3 = ext w z4 := ⟨W3, (ext_of HE3.out).symm⟩
  refine wp_region_ext (by kernel_rfl) (by kernel_rfl) ?_
  repeat (go_big_quiet_step (fail))
  refine wpQuiet_nil ?_
  rintro _ ⟨z5, rfl⟩
  go_wp2_with fail
  go_ret
  exact ⟨rfl, ((Ext.refl w).ext _).ext _⟩

set_option maxRecDepth 100000 in
set_option maxHeartbeats 2000000 in
theorem seen_time_ne (A : Option Addr) (c : Nat) (l : List E) (i : Nat) (f t k s : Int) (w : World) (hl : Log w A l) (hn : l.length ≤ 60) (hcap : l.length ≤ c) (hi : i < l.length) (hg : okB l = true) (hok : ∀ x ∈ l, x.ok) (hs0 : inU s)
    (hf8 : 0 ≤ f ∧ f < 256) (hf0 : (f % 3 == 0) = true) (hne : (t == l[i].time) = false) (hlk : ∀ a, inU a → linkI a ⟨t, l[i].kind, l[i].person, l[i].detail, l[i].salt, l[i].seal_, l[i].link⟩ ≠ linkI a l[i]) :
    Calls Try.prog 11 #[.slice A l.length c, .int .i64 i, .int .u8 f, .int .i64 t, .int .i64 k, .int .u64 s] w fun e w' => e = .returned (.bool true) ∧ Ext w w' := by
  have C0 := Lib.hid (fun A c w hl => (by simp [checkI_eq, hg] : checkI l = 0) ▸ check_any A c l w hl (by omega))
  have hxs : inU (⟨t, l[i].kind, l[i].person, l[i].detail, l[i].salt, l[i].seal_, l[i].link⟩ : E).seal_ := by have := hok l[i] (List.getElem_mem hi); exact ⟨this.2.2.2.2.1, this.2.2.2.2.2⟩
  have hbad := chk_change l i ⟨t, l[i].kind, l[i].person, l[i].detail, l[i].salt, l[i].seal_, l[i].link⟩ hi hg hok rfl hlk
  have hMs := seen_ext l i ⟨t, l[i].kind, l[i].person, l[i].detail, l[i].salt, l[i].seal_, l[i].link⟩ hi hg hok hxs hlk
  have hM1 : (l.set i ⟨t, l[i].kind, l[i].person, l[i].detail, l[i].salt, l[i].seal_, l[i].link⟩).length = l.length := by simp
  have hM2 : (againL 0 (l.set i ⟨t, l[i].kind, l[i].person, l[i].detail, l[i].salt, l[i].seal_, l[i].link⟩)).length = l.length := by simp [again_len]
  have hset := set_at l i ⟨t, l[i].kind, l[i].person, l[i].detail, l[i].salt, l[i].seal_, l[i].link⟩ hi
  have hflat := flat_setj l i l[i] ⟨t, l[i].kind, l[i].person, l[i].detail, l[i].salt, l[i].seal_, l[i].link⟩ (List.getElem?_eq_getElem hi) 0 (by omega) (.int .i64 t) rfl
  obtain ⟨M, hM⟩ : ∃ M, l.set i ⟨t, l[i].kind, l[i].person, l[i].detail, l[i].salt, l[i].seal_, l[i].link⟩ = M := ⟨_, rfl⟩
  rw [hM] at hMs hM1 hM2 hbad hset hflat
  clear hM
  have C1 : Hid (∀ (A : Option Addr) (c : Nat) (w : World), Log w A M → Calls Try.prog 30 #[.slice A l.length c] w fun e w' => e = .returned (.int .i64 110) ∧ Ext w w') := Lib.hid (fun A c w hl => by
    have h := check_any A c M w hl (by omega)
    rw [hM1, checkI_eq, hbad] at h; exact h)
  have C2 : Hid (∀ (A : Option Addr) (c : Nat) (w : World), Log w A M → Calls Try.prog 41 #[.slice A l.length c] w (RetS 54 7 l.length (flat (againL 0 M)) w)) := Lib.hid (fun A c w hl => by
    have h := again_any A c M w hl (by omega)
    rw [hM1] at h; exact h)
  obtain ⟨M2, hM2e⟩ : ∃ M2, againL 0 M = M2 := ⟨_, rfl⟩
  rw [hM2e] at hM2 hMs C2
  clear hM2e
  have C3 : Hid (∀ (A : Option Addr) (c : Nat) (w : World), Log w A M2 → Calls Try.prog 30 #[.slice A l.length c] w fun e w' => e = .returned (.int .i64 (if okB M2 then 0 else 110)) ∧ Ext w w') := Lib.hid (fun A c w hl => by
    have h := check_any A c M2 w hl (by omega)
    rw [hM2, checkI_eq] at h; exact h)
  have C4 : Hid (okB M2 = true → ∀ (n : Nat), n ≤ l.length → ∀ (A : Option Addr) (c : Nat) (w : World), Log w A M2 → l.length ≤ c → Calls Try.prog 24 #[.slice A l.length c, .int .i64 n, .int .u64 (lastE (l.take n)).link] w fun e w' => e = .returned (.tuple #[.bool (decide (n ≤ i)), .int .i64 0]) ∧ Ext w w') := Lib.hid (fun ho n hn A c w hl hc => by
    have h := extends_any A c M2 n (lastE (l.take n)).link w hl (by omega) (by omega)
    rw [hM2, hMs ho n hn] at h; exact h)
  have Hflat := Lib.hid hflat
  have Hset := Lib.hid hset
  have HM1 := Lib.hid hM1
  have HM2 := Lib.hid hM2
  clear hxs hbad hlk hMs hM1 hM2 hset hflat
  have hgi : l[i]? = some l[i] := List.getElem?_eq_getElem hi
  have HG := Lib.hid hg
  have HL := Lib.hid hl
  have HS := Lib.hid hl.slc
  have HOK := Lib.hid hok
  have Hgi := Lib.hid hgi
  clear hg hl hok hgi
  rcases HL.out with h | ⟨b, off, rfl, hb, hc⟩
  · subst h; simp at hi
  obtain ⟨a0, a1, a2, a3, a4, a5, a6⟩ := hc i l[i] Hgi.out
  have hbo := Old.mk hb
  clear hc hb
  generalize l[i] = x at *
  have hle1 : decide ((60 : Int) < (l.length : Int)) = false := by simp; omega
  have hi1 : decide ((i : Int) < 0) = false := by simp
  have hi2 : decide ((l.length : Int) ≤ (i : Int)) = false := by simp; omega
  have hi3 : decide (l.length ≤ i) = false := by simp; omega
  have hlc : l.length ≤ 100 := by omega
  go_enter Try.func11, Try.ntmps11
  go_wp2_with (first | (go_at_call 26; refine Calls.same (salt_any _ _ _) ?_) | (go_at_call 40; refine Calls.ext (alive_any _) fun z1 => ?_) | (go_at_call 30; refine Calls.ext (C0.out _ c _ (HL.out.grow (Ext.ext_self w _))) fun z2 => ?_) | (at_builtin; refine wpList_append_new rfl infoE (.tmp 44) (.tmp 45) rfl w.heap.size (by have := ext_size w z1; have := ext_size (ext w z1) z2; simp; omega) _ rfl (own_empty 7 (by have := ext_size w z1; have := ext_size (ext w z1) z2; omega) (Blk.new (ext (ext w z1) z2) 54 #[])) _ l.length c (flat l) rfl (by exact HS.out.grow ((((Ext.refl w).ext z1).ext z2).alloc _)) (flat_one' l) (by omega) (by omega) ?_; intro A2 c2 z3 hown2; obtain ⟨g, cap, hv, hgw, hgl⟩ := hown2.form (by omega); obtain ⟨rfl, -, rfl⟩ : A2 = some ⟨g, 0, none⟩ ∧ l.length = l.length ∧ c2 = cap := (by simpa using hv); have HO2 := Lib.hid hown2; have HGW := Lib.hid hgw; clear hown2 hv hgw hgl; have HE2 := Lib.hid ((((Ext.refl w).ext z1).ext z2).alloc (.cells #[] 54) |>.ext z3); generalize ext ((ext (ext w z1) z2).alloc (.cells #[] 54)) z3 = W2 at *; obtain ⟨o0, o1, o2, o3, o4, o5, o6⟩ := cells7 HO2.out rfl Hgi.out; have hf := HO2.out.frozenAt))
  have HO3 := Lib.hid (by have := (HO2.out.stored (i * 7 + 0) (.int .i64 t)).1; rw [Hflat.out] at this; exact this)
  have HE3 := Lib.hid (HE2.out.setCell (p := ⟨g, i * 7 + 0, none⟩) HGW.out (.int .i64 t))
  have HW3 : Hid (W2.setCell ⟨g, i * 7 + 0, none⟩ (.int .i64 t) = W2.setCell ⟨g, i * 7, none⟩ (.int .i64 t)) := Lib.hid rfl
  rw [HW3.out] at HO3 HE3
  clear o0 o1 o2 o3 o4 o5 o6 hf HW3
  generalize hW3 : W2.setCell ⟨g, i * 7, none⟩ (.int .i64 t) = W3 at *
  clear hW3
  obtain ⟨o0, o1, o2, o3, o4, o5, o6⟩ := cells7 HO3.out HM1.out Hset.out
  have HLM := Lib.hid (Slc.log (l := M) (by rw [HM1.out]; exact Slc.of_own HO3.out))
  have hgo := Old.mk (own_lt HO3.out g rfl)
  clear HO2 HE2
  obtain ⟨z4, rfl⟩ : ∃ z4, W3 = ext w z4 := ⟨W3, (ext_of HE3.out).symm⟩
  refine wp_region_ext (by kernel_rfl) (by kernel_rfl) ?_
  repeat (go_big_quiet_step (fail))
  refine wpQuiet_nil ?_
  rintro _ ⟨z5, rfl⟩
  go_wp2_with fail
  have HLM5 := Lib.hid (HLM.out.grow (Ext.ext_self _ z5))
  have HE5 := Lib.hid (HE3.out.ext z5)
  clear HLM HO3 HE3 o0 o1 o2 o3 o4 o5 o6 a0 a1 a2 a3 a4 a5 a6 hgo hne
  generalize ext (ext w z4) z5 = W5 at *
  refine Calls.ext (C1.out _ c2 _ HLM5.out) fun z6 => ?_
  go_wp2_with fail
  refine calls_slice (C2.out _ c2 _ (HLM5.out.grow (Ext.ext_self _ z6))) fun A3 c3 z7 hown3 => ?_
  have HM := Lib.hid (Slc.log (l := M2) (by rw [HM2.out]; exact Slc.of_own hown3))
  have hc3 := cap_own hown3
  have HE7 := Lib.hid ((HE5.out.ext z6).ext z7)
  clear hown3 HLM5 HE5 C1 C2
  generalize ext (ext W5 z6) z7 = W7 at *
  go_wp2_with fail
  cases hok2 : okB M2
  · have C3' := C3.out _ c3 _ HM.out
    rw [hok2] at C3'
    clear hok2
    refine Calls.ext C3' fun z8 => ?_
    clear C3'
    go_wp2_with fail
    go_ret
    exact ⟨rfl, HE7.out.ext _⟩
  · have C3' := C3.out _ c3 _ HM.out
    rw [hok2] at C3'
    have C4' := Lib.hid (C4.out hok2)
    clear hok2 C4
    refine Calls.ext C3' fun z8 => ?_
    clear C3' C3
    have HM8 := Lib.hid (HM.out.grow (Ext.ext_self _ z8))
    have HE8 := Lib.hid (HE7.out.ext z8)
    clear HM HE7
    generalize ext W7 z8 = W8 at *
    go_wp2_with fail
    go_loopw [107] (fun i wr => ∃ (j : Nat) (z : World), j ≤ l.length + 1 ∧ i = .int .i64 j ∧ wr = ext W8 z) (fun i _ => l.length + 1 - (intOf i).toNat)
    case atStart => exact ⟨0, W8, Nat.zero_le _, rfl, (ext_of (Ext.refl W8)).symm⟩
    case round =>
      obtain ⟨j, z, hj, rfl, rfl⟩ := hrel
      by_cases hlt : j < l.length + 1
      · have hjl : j ≤ l.length := by omega
        have hlen : (l.take j).length = j := by simp; omega
        have ht : tipV (l.take j) = .tuple #[.int .u64 (lastE (l.take j)).link, .int .i64 0] := by simp [tipV, ok_take HG.out]
        have C5 := Lib.hid (fun w hl => ht ▸ hlen ▸ tip_any (some ⟨b, off, none⟩) c (l.take j) w hl (by omega))
        have C6 := Lib.hid (C4'.out j hjl (A := A3) (c := c3))
        clear ht hlen
        generalize (lastE (l.take j)).link = tl at *
        go_wp2_with fail
        refine Calls.ext (C5.out _ ((HL.out.grow (HE8.out.ext z)).take j)) fun z9 => ?_
        go_wp2_with fail
        refine Calls.ext (C6.out _ (HM8.out.grow (((Ext.refl W8).ext z).ext z9)) hc3) fun z10 => ?_
        have hdd : (decide (j ≤ i) != decide (j ≤ i)) = false := by simp
        have hdd' : (decide (j ≤ i) != decide ((j : Int) ≤ (i : Int))) = false := by simp
        go_wp2_with fail
        go_roundw
        case rel => exact ⟨j + 1, _, by omega, by go_num, (ext_of ((((Ext.refl W8).ext z).ext z9).ext z10)).symm⟩
        case measure => simp [intOf]; omega
      · go_wp2_with fail
        go_ret
        exact ⟨rfl, HE8.out.ext z⟩

set_option maxRecDepth 100000 in
set_option maxHeartbeats 2000000 in
theorem seen_kind_eq (A : Option Addr) (c : Nat) (l : List E) (i : Nat) (f t k s : Int) (w : World) (hl : Log w A l) (hn : l.length ≤ 60) (hcap : l.length ≤ c) (hi : i < l.length) (hg : okB l = true) (hok : ∀ x ∈ l, x.ok) (hs0 : inU s)
    (hf8 : 0 ≤ f ∧ f < 256) (hf0 : (f % 3 == 0) = false) (hf1 : (f % 3 == 1) = true) (he : ⟨l[i].time, k, l[i].person, l[i].detail, l[i].salt, l[i].seal_, l[i].link⟩ = l[i]) :
    Calls Try.prog 11 #[.slice A l.length c, .int .i64 i, .int .u8 f, .int .i64 t, .int .i64 k, .int .u64 s] w fun e w' => e = .returned (.bool true) ∧ Ext w w' := by
  have C0 := Lib.hid (fun A c w hl => (by simp [checkI_eq, hg] : checkI l = 0) ▸ check_any A c l w hl (by omega))
  have hset := set_at l i ⟨l[i].time, k, l[i].person, l[i].detail, l[i].salt, l[i].seal_, l[i].link⟩ hi
  have hflat := flat_setj l i l[i] ⟨l[i].time, k, l[i].person, l[i].detail, l[i].salt, l[i].seal_, l[i].link⟩ (List.getElem?_eq_getElem hi) 1 (by omega) (.int .i64 k) rfl
  rw [he, set_self l i l[i] (List.getElem?_eq_getElem hi)] at hset hflat
  have Hflat := Lib.hid hflat
  have Hset := Lib.hid hset
  clear he hset hflat
  have hgi : l[i]? = some l[i] := List.getElem?_eq_getElem hi
  have HG := Lib.hid hg
  have HL := Lib.hid hl
  have HS := Lib.hid hl.slc
  have HOK := Lib.hid hok
  have Hgi := Lib.hid hgi
  clear hg hl hok hgi
  rcases HL.out with h | ⟨b, off, rfl, hb, hc⟩
  · subst h; simp at hi
  obtain ⟨a0, a1, a2, a3, a4, a5, a6⟩ := hc i l[i] Hgi.out
  have hbo := Old.mk hb
  clear hc hb
  generalize l[i] = x at *
  have hle1 : decide ((60 : Int) < (l.length : Int)) = false := by simp; omega
  have hi1 : decide ((i : Int) < 0) = false := by simp
  have hi2 : decide ((l.length : Int) ≤ (i : Int)) = false := by simp; omega
  have hi3 : decide (l.length ≤ i) = false := by simp; omega
  have hlc : l.length ≤ 100 := by omega
  go_enter Try.func11, Try.ntmps11
  go_wp2_with (first | (go_at_call 26; refine Calls.same (salt_any _ _ _) ?_) | (go_at_call 40; refine Calls.ext (alive_any _) fun z1 => ?_) | (go_at_call 30; refine Calls.ext (C0.out _ c _ (HL.out.grow (Ext.ext_self w _))) fun z2 => ?_) | (at_builtin; refine wpList_append_new rfl infoE (.tmp 44) (.tmp 45) rfl w.heap.size (by have := ext_size w z1; have := ext_size (ext w z1) z2; simp; omega) _ rfl (own_empty 7 (by have := ext_size w z1; have := ext_size (ext w z1) z2; omega) (Blk.new (ext (ext w z1) z2) 54 #[])) _ l.length c (flat l) rfl (by exact HS.out.grow ((((Ext.refl w).ext z1).ext z2).alloc _)) (flat_one' l) (by omega) (by omega) ?_; intro A2 c2 z3 hown2; obtain ⟨g, cap, hv, hgw, hgl⟩ := hown2.form (by omega); obtain ⟨rfl, -, rfl⟩ : A2 = some ⟨g, 0, none⟩ ∧ l.length = l.length ∧ c2 = cap := (by simpa using hv); have HO2 := Lib.hid hown2; have HGW := Lib.hid hgw; clear hown2 hv hgw hgl; have HE2 := Lib.hid ((((Ext.refl w).ext z1).ext z2).alloc (.cells #[] 54) |>.ext z3); generalize ext ((ext (ext w z1) z2).alloc (.cells #[] 54)) z3 = W2 at *; obtain ⟨o0, o1, o2, o3, o4, o5, o6⟩ := cells7 HO2.out rfl Hgi.out; have hf := HO2.out.frozenAt))
  have HO3 := Lib.hid (by have := (HO2.out.stored (i * 7 + 1) (.int .i64 k)).1; rw [Hflat.out] at this; exact this)
  have HE3 := Lib.hid (HE2.out.setCell (p := ⟨g, i * 7 + 1, none⟩) HGW.out (.int .i64 k))
  have HW3 : Hid (W2.setCell ⟨g, i * 7 + 1, none⟩ (.int .i64 k) = W2.setCell ⟨g, i * 7 + 1, none⟩ (.int .i64 k)) := Lib.hid rfl
  rw [HW3.out] at HO3 HE3
  clear o0 o1 o2 o3 o4 o5 o6 hf HW3
  generalize hW3 : W2.setCell ⟨g, i * 7 + 1, none⟩ (.int .i64 k) = W3 at *
  clear hW3
  obtain ⟨o0, o1, o2, o3, o4, o5, o6⟩ := cells7 HO3.out rfl Hset.out
  have HLM := Lib.hid (Slc.log (l := l) (by  exact Slc.of_own HO3.out))
  have hgo := Old.mk (own_lt HO3.out g rfl)
  clear HO2 HE2
  obtain ⟨z4, rfl⟩ : ∃ z4, W3 = ext w z4 := ⟨W3, (ext_of HE3.out).symm⟩
  refine wp_region_ext (by kernel_rfl) (by kernel_rfl) ?_
  repeat (go_big_quiet_step (fail))
  refine wpQuiet_nil ?_
  rintro _ ⟨z5, rfl⟩
  go_wp2_with fail
  go_ret
  exact ⟨rfl, ((Ext.refl w).ext _).ext _⟩

set_option maxRecDepth 100000 in
set_option maxHeartbeats 2000000 in
theorem seen_kind_ne (A : Option Addr) (c : Nat) (l : List E) (i : Nat) (f t k s : Int) (w : World) (hl : Log w A l) (hn : l.length ≤ 60) (hcap : l.length ≤ c) (hi : i < l.length) (hg : okB l = true) (hok : ∀ x ∈ l, x.ok) (hs0 : inU s)
    (hf8 : 0 ≤ f ∧ f < 256) (hf0 : (f % 3 == 0) = false) (hf1 : (f % 3 == 1) = true) (hne : (k == l[i].kind) = false) (hlk : ∀ a, inU a → linkI a ⟨l[i].time, k, l[i].person, l[i].detail, l[i].salt, l[i].seal_, l[i].link⟩ ≠ linkI a l[i]) :
    Calls Try.prog 11 #[.slice A l.length c, .int .i64 i, .int .u8 f, .int .i64 t, .int .i64 k, .int .u64 s] w fun e w' => e = .returned (.bool true) ∧ Ext w w' := by
  have C0 := Lib.hid (fun A c w hl => (by simp [checkI_eq, hg] : checkI l = 0) ▸ check_any A c l w hl (by omega))
  have hxs : inU (⟨l[i].time, k, l[i].person, l[i].detail, l[i].salt, l[i].seal_, l[i].link⟩ : E).seal_ := by have := hok l[i] (List.getElem_mem hi); exact ⟨this.2.2.2.2.1, this.2.2.2.2.2⟩
  have hbad := chk_change l i ⟨l[i].time, k, l[i].person, l[i].detail, l[i].salt, l[i].seal_, l[i].link⟩ hi hg hok rfl hlk
  have hMs := seen_ext l i ⟨l[i].time, k, l[i].person, l[i].detail, l[i].salt, l[i].seal_, l[i].link⟩ hi hg hok hxs hlk
  have hM1 : (l.set i ⟨l[i].time, k, l[i].person, l[i].detail, l[i].salt, l[i].seal_, l[i].link⟩).length = l.length := by simp
  have hM2 : (againL 0 (l.set i ⟨l[i].time, k, l[i].person, l[i].detail, l[i].salt, l[i].seal_, l[i].link⟩)).length = l.length := by simp [again_len]
  have hset := set_at l i ⟨l[i].time, k, l[i].person, l[i].detail, l[i].salt, l[i].seal_, l[i].link⟩ hi
  have hflat := flat_setj l i l[i] ⟨l[i].time, k, l[i].person, l[i].detail, l[i].salt, l[i].seal_, l[i].link⟩ (List.getElem?_eq_getElem hi) 1 (by omega) (.int .i64 k) rfl
  obtain ⟨M, hM⟩ : ∃ M, l.set i ⟨l[i].time, k, l[i].person, l[i].detail, l[i].salt, l[i].seal_, l[i].link⟩ = M := ⟨_, rfl⟩
  rw [hM] at hMs hM1 hM2 hbad hset hflat
  clear hM
  have C1 : Hid (∀ (A : Option Addr) (c : Nat) (w : World), Log w A M → Calls Try.prog 30 #[.slice A l.length c] w fun e w' => e = .returned (.int .i64 110) ∧ Ext w w') := Lib.hid (fun A c w hl => by
    have h := check_any A c M w hl (by omega)
    rw [hM1, checkI_eq, hbad] at h; exact h)
  have C2 : Hid (∀ (A : Option Addr) (c : Nat) (w : World), Log w A M → Calls Try.prog 41 #[.slice A l.length c] w (RetS 54 7 l.length (flat (againL 0 M)) w)) := Lib.hid (fun A c w hl => by
    have h := again_any A c M w hl (by omega)
    rw [hM1] at h; exact h)
  obtain ⟨M2, hM2e⟩ : ∃ M2, againL 0 M = M2 := ⟨_, rfl⟩
  rw [hM2e] at hM2 hMs C2
  clear hM2e
  have C3 : Hid (∀ (A : Option Addr) (c : Nat) (w : World), Log w A M2 → Calls Try.prog 30 #[.slice A l.length c] w fun e w' => e = .returned (.int .i64 (if okB M2 then 0 else 110)) ∧ Ext w w') := Lib.hid (fun A c w hl => by
    have h := check_any A c M2 w hl (by omega)
    rw [hM2, checkI_eq] at h; exact h)
  have C4 : Hid (okB M2 = true → ∀ (n : Nat), n ≤ l.length → ∀ (A : Option Addr) (c : Nat) (w : World), Log w A M2 → l.length ≤ c → Calls Try.prog 24 #[.slice A l.length c, .int .i64 n, .int .u64 (lastE (l.take n)).link] w fun e w' => e = .returned (.tuple #[.bool (decide (n ≤ i)), .int .i64 0]) ∧ Ext w w') := Lib.hid (fun ho n hn A c w hl hc => by
    have h := extends_any A c M2 n (lastE (l.take n)).link w hl (by omega) (by omega)
    rw [hM2, hMs ho n hn] at h; exact h)
  have Hflat := Lib.hid hflat
  have Hset := Lib.hid hset
  have HM1 := Lib.hid hM1
  have HM2 := Lib.hid hM2
  clear hxs hbad hlk hMs hM1 hM2 hset hflat
  have hgi : l[i]? = some l[i] := List.getElem?_eq_getElem hi
  have HG := Lib.hid hg
  have HL := Lib.hid hl
  have HS := Lib.hid hl.slc
  have HOK := Lib.hid hok
  have Hgi := Lib.hid hgi
  clear hg hl hok hgi
  rcases HL.out with h | ⟨b, off, rfl, hb, hc⟩
  · subst h; simp at hi
  obtain ⟨a0, a1, a2, a3, a4, a5, a6⟩ := hc i l[i] Hgi.out
  have hbo := Old.mk hb
  clear hc hb
  generalize l[i] = x at *
  have hle1 : decide ((60 : Int) < (l.length : Int)) = false := by simp; omega
  have hi1 : decide ((i : Int) < 0) = false := by simp
  have hi2 : decide ((l.length : Int) ≤ (i : Int)) = false := by simp; omega
  have hi3 : decide (l.length ≤ i) = false := by simp; omega
  have hlc : l.length ≤ 100 := by omega
  go_enter Try.func11, Try.ntmps11
  go_wp2_with (first | (go_at_call 26; refine Calls.same (salt_any _ _ _) ?_) | (go_at_call 40; refine Calls.ext (alive_any _) fun z1 => ?_) | (go_at_call 30; refine Calls.ext (C0.out _ c _ (HL.out.grow (Ext.ext_self w _))) fun z2 => ?_) | (at_builtin; refine wpList_append_new rfl infoE (.tmp 44) (.tmp 45) rfl w.heap.size (by have := ext_size w z1; have := ext_size (ext w z1) z2; simp; omega) _ rfl (own_empty 7 (by have := ext_size w z1; have := ext_size (ext w z1) z2; omega) (Blk.new (ext (ext w z1) z2) 54 #[])) _ l.length c (flat l) rfl (by exact HS.out.grow ((((Ext.refl w).ext z1).ext z2).alloc _)) (flat_one' l) (by omega) (by omega) ?_; intro A2 c2 z3 hown2; obtain ⟨g, cap, hv, hgw, hgl⟩ := hown2.form (by omega); obtain ⟨rfl, -, rfl⟩ : A2 = some ⟨g, 0, none⟩ ∧ l.length = l.length ∧ c2 = cap := (by simpa using hv); have HO2 := Lib.hid hown2; have HGW := Lib.hid hgw; clear hown2 hv hgw hgl; have HE2 := Lib.hid ((((Ext.refl w).ext z1).ext z2).alloc (.cells #[] 54) |>.ext z3); generalize ext ((ext (ext w z1) z2).alloc (.cells #[] 54)) z3 = W2 at *; obtain ⟨o0, o1, o2, o3, o4, o5, o6⟩ := cells7 HO2.out rfl Hgi.out; have hf := HO2.out.frozenAt))
  have HO3 := Lib.hid (by have := (HO2.out.stored (i * 7 + 1) (.int .i64 k)).1; rw [Hflat.out] at this; exact this)
  have HE3 := Lib.hid (HE2.out.setCell (p := ⟨g, i * 7 + 1, none⟩) HGW.out (.int .i64 k))
  have HW3 : Hid (W2.setCell ⟨g, i * 7 + 1, none⟩ (.int .i64 k) = W2.setCell ⟨g, i * 7 + 1, none⟩ (.int .i64 k)) := Lib.hid rfl
  rw [HW3.out] at HO3 HE3
  clear o0 o1 o2 o3 o4 o5 o6 hf HW3
  generalize hW3 : W2.setCell ⟨g, i * 7 + 1, none⟩ (.int .i64 k) = W3 at *
  clear hW3
  obtain ⟨o0, o1, o2, o3, o4, o5, o6⟩ := cells7 HO3.out HM1.out Hset.out
  have HLM := Lib.hid (Slc.log (l := M) (by rw [HM1.out]; exact Slc.of_own HO3.out))
  have hgo := Old.mk (own_lt HO3.out g rfl)
  clear HO2 HE2
  obtain ⟨z4, rfl⟩ : ∃ z4, W3 = ext w z4 := ⟨W3, (ext_of HE3.out).symm⟩
  refine wp_region_ext (by kernel_rfl) (by kernel_rfl) ?_
  repeat (go_big_quiet_step (fail))
  refine wpQuiet_nil ?_
  rintro _ ⟨z5, rfl⟩
  go_wp2_with fail
  have HLM5 := Lib.hid (HLM.out.grow (Ext.ext_self _ z5))
  have HE5 := Lib.hid (HE3.out.ext z5)
  clear HLM HO3 HE3 o0 o1 o2 o3 o4 o5 o6 a0 a1 a2 a3 a4 a5 a6 hgo hne
  generalize ext (ext w z4) z5 = W5 at *
  refine Calls.ext (C1.out _ c2 _ HLM5.out) fun z6 => ?_
  go_wp2_with fail
  refine calls_slice (C2.out _ c2 _ (HLM5.out.grow (Ext.ext_self _ z6))) fun A3 c3 z7 hown3 => ?_
  have HM := Lib.hid (Slc.log (l := M2) (by rw [HM2.out]; exact Slc.of_own hown3))
  have hc3 := cap_own hown3
  have HE7 := Lib.hid ((HE5.out.ext z6).ext z7)
  clear hown3 HLM5 HE5 C1 C2
  generalize ext (ext W5 z6) z7 = W7 at *
  go_wp2_with fail
  cases hok2 : okB M2
  · have C3' := C3.out _ c3 _ HM.out
    rw [hok2] at C3'
    clear hok2
    refine Calls.ext C3' fun z8 => ?_
    clear C3'
    go_wp2_with fail
    go_ret
    exact ⟨rfl, HE7.out.ext _⟩
  · have C3' := C3.out _ c3 _ HM.out
    rw [hok2] at C3'
    have C4' := Lib.hid (C4.out hok2)
    clear hok2 C4
    refine Calls.ext C3' fun z8 => ?_
    clear C3' C3
    have HM8 := Lib.hid (HM.out.grow (Ext.ext_self _ z8))
    have HE8 := Lib.hid (HE7.out.ext z8)
    clear HM HE7
    generalize ext W7 z8 = W8 at *
    go_wp2_with fail
    go_loopw [107] (fun i wr => ∃ (j : Nat) (z : World), j ≤ l.length + 1 ∧ i = .int .i64 j ∧ wr = ext W8 z) (fun i _ => l.length + 1 - (intOf i).toNat)
    case atStart => exact ⟨0, W8, Nat.zero_le _, rfl, (ext_of (Ext.refl W8)).symm⟩
    case round =>
      obtain ⟨j, z, hj, rfl, rfl⟩ := hrel
      by_cases hlt : j < l.length + 1
      · have hjl : j ≤ l.length := by omega
        have hlen : (l.take j).length = j := by simp; omega
        have ht : tipV (l.take j) = .tuple #[.int .u64 (lastE (l.take j)).link, .int .i64 0] := by simp [tipV, ok_take HG.out]
        have C5 := Lib.hid (fun w hl => ht ▸ hlen ▸ tip_any (some ⟨b, off, none⟩) c (l.take j) w hl (by omega))
        have C6 := Lib.hid (C4'.out j hjl (A := A3) (c := c3))
        clear ht hlen
        generalize (lastE (l.take j)).link = tl at *
        go_wp2_with fail
        refine Calls.ext (C5.out _ ((HL.out.grow (HE8.out.ext z)).take j)) fun z9 => ?_
        go_wp2_with fail
        refine Calls.ext (C6.out _ (HM8.out.grow (((Ext.refl W8).ext z).ext z9)) hc3) fun z10 => ?_
        have hdd : (decide (j ≤ i) != decide (j ≤ i)) = false := by simp
        have hdd' : (decide (j ≤ i) != decide ((j : Int) ≤ (i : Int))) = false := by simp
        go_wp2_with fail
        go_roundw
        case rel => exact ⟨j + 1, _, by omega, by go_num, (ext_of ((((Ext.refl W8).ext z).ext z9).ext z10)).symm⟩
        case measure => simp [intOf]; omega
      · go_wp2_with fail
        go_ret
        exact ⟨rfl, HE8.out.ext z⟩

set_option maxRecDepth 100000 in
set_option maxHeartbeats 2000000 in
theorem seen_seal1_eq (A : Option Addr) (c : Nat) (l : List E) (i : Nat) (f t k s : Int) (w : World) (hl : Log w A l) (hn : l.length ≤ 60) (hcap : l.length ≤ c) (hi : i < l.length) (hg : okB l = true) (hok : ∀ x ∈ l, x.ok) (hs0 : inU s)
    (hf8 : 0 ≤ f ∧ f < 256) (hf0 : (f % 3 == 0) = false) (hf1 : (f % 3 == 1) = false) (hper : (l[i].person != -1) = false) (he : ⟨l[i].time, l[i].kind, l[i].person, l[i].detail, l[i].salt, s, l[i].link⟩ = l[i]) :
    Calls Try.prog 11 #[.slice A l.length c, .int .i64 i, .int .u8 f, .int .i64 t, .int .i64 k, .int .u64 s] w fun e w' => e = .returned (.bool true) ∧ Ext w w' := by
  have C0 := Lib.hid (fun A c w hl => (by simp [checkI_eq, hg] : checkI l = 0) ▸ check_any A c l w hl (by omega))
  have hset := set_at l i ⟨l[i].time, l[i].kind, l[i].person, l[i].detail, l[i].salt, s, l[i].link⟩ hi
  have hflat := flat_setj l i l[i] ⟨l[i].time, l[i].kind, l[i].person, l[i].detail, l[i].salt, s, l[i].link⟩ (List.getElem?_eq_getElem hi) 5 (by omega) (.int .u64 s) rfl
  rw [he, set_self l i l[i] (List.getElem?_eq_getElem hi)] at hset hflat
  have Hflat := Lib.hid hflat
  have Hset := Lib.hid hset
  clear he hset hflat
  have hgi : l[i]? = some l[i] := List.getElem?_eq_getElem hi
  have HG := Lib.hid hg
  have HL := Lib.hid hl
  have HS := Lib.hid hl.slc
  have HOK := Lib.hid hok
  have Hgi := Lib.hid hgi
  clear hg hl hok hgi
  rcases HL.out with h | ⟨b, off, rfl, hb, hc⟩
  · subst h; simp at hi
  obtain ⟨a0, a1, a2, a3, a4, a5, a6⟩ := hc i l[i] Hgi.out
  have hbo := Old.mk hb
  clear hc hb
  generalize l[i] = x at *
  have hle1 : decide ((60 : Int) < (l.length : Int)) = false := by simp; omega
  have hi1 : decide ((i : Int) < 0) = false := by simp
  have hi2 : decide ((l.length : Int) ≤ (i : Int)) = false := by simp; omega
  have hi3 : decide (l.length ≤ i) = false := by simp; omega
  have hlc : l.length ≤ 100 := by omega
  go_enter Try.func11, Try.ntmps11
  go_wp2_with (first | (go_at_call 26; refine Calls.same (salt_any _ _ _) ?_) | (go_at_call 40; refine Calls.ext (alive_any _) fun z1 => ?_) | (go_at_call 30; refine Calls.ext (C0.out _ c _ (HL.out.grow (Ext.ext_self w _))) fun z2 => ?_) | (at_builtin; refine wpList_append_new rfl infoE (.tmp 44) (.tmp 45) rfl w.heap.size (by have := ext_size w z1; have := ext_size (ext w z1) z2; simp; omega) _ rfl (own_empty 7 (by have := ext_size w z1; have := ext_size (ext w z1) z2; omega) (Blk.new (ext (ext w z1) z2) 54 #[])) _ l.length c (flat l) rfl (by exact HS.out.grow ((((Ext.refl w).ext z1).ext z2).alloc _)) (flat_one' l) (by omega) (by omega) ?_; intro A2 c2 z3 hown2; obtain ⟨g, cap, hv, hgw, hgl⟩ := hown2.form (by omega); obtain ⟨rfl, -, rfl⟩ : A2 = some ⟨g, 0, none⟩ ∧ l.length = l.length ∧ c2 = cap := (by simpa using hv); have HO2 := Lib.hid hown2; have HGW := Lib.hid hgw; clear hown2 hv hgw hgl; have HE2 := Lib.hid ((((Ext.refl w).ext z1).ext z2).alloc (.cells #[] 54) |>.ext z3); generalize ext ((ext (ext w z1) z2).alloc (.cells #[] 54)) z3 = W2 at *; obtain ⟨o0, o1, o2, o3, o4, o5, o6⟩ := cells7 HO2.out rfl Hgi.out; have hf := HO2.out.frozenAt))
  have HO3 := Lib.hid (by have := (HO2.out.stored (i * 7 + 5) (.int .u64 s)).1; rw [Hflat.out] at this; exact this)
  have HE3 := Lib.hid (HE2.out.setCell (p := ⟨g, i * 7 + 5, none⟩) HGW.out (.int .u64 s))
  have HW3 : Hid (W2.setCell ⟨g, i * 7 + 5, none⟩ (.int .u64 s) = W2.setCell ⟨g, i * 7 + 5, none⟩ (.int .u64 s)) := Lib.hid rfl
  rw [HW3.out] at HO3 HE3
  clear o0 o1 o2 o3 o4 o5 o6 hf HW3
  generalize hW3 : W2.setCell ⟨g, i * 7 + 5, none⟩ (.int .u64 s) = W3 at *
  clear hW3
  obtain ⟨o0, o1, o2, o3, o4, o5, o6⟩ := cells7 HO3.out rfl Hset.out
  have HLM := Lib.hid (Slc.log (l := l) (by  exact Slc.of_own HO3.out))
  have hgo := Old.mk (own_lt HO3.out g rfl)
  clear HO2 HE2
  obtain ⟨z4, rfl⟩ : ∃ z4, W3 = ext w z4 := ⟨W3, (ext_of HE3.out).symm⟩
  refine wp_region_ext (by kernel_rfl) (by kernel_rfl) ?_
  repeat (go_big_quiet_step (fail))
  refine wpQuiet_nil ?_
  rintro _ ⟨z5, rfl⟩
  go_wp2_with fail
  go_ret
  exact ⟨rfl, ((Ext.refl w).ext _).ext _⟩

set_option maxRecDepth 100000 in
set_option maxHeartbeats 2000000 in
theorem seen_seal1_ne (A : Option Addr) (c : Nat) (l : List E) (i : Nat) (f t k s : Int) (w : World) (hl : Log w A l) (hn : l.length ≤ 60) (hcap : l.length ≤ c) (hi : i < l.length) (hg : okB l = true) (hok : ∀ x ∈ l, x.ok) (hs0 : inU s)
    (hf8 : 0 ≤ f ∧ f < 256) (hf0 : (f % 3 == 0) = false) (hf1 : (f % 3 == 1) = false) (hper : (l[i].person != -1) = false) (hne : (s == l[i].seal_) = false) (hlk : ∀ a, inU a → linkI a ⟨l[i].time, l[i].kind, l[i].person, l[i].detail, l[i].salt, s, l[i].link⟩ ≠ linkI a l[i]) :
    Calls Try.prog 11 #[.slice A l.length c, .int .i64 i, .int .u8 f, .int .i64 t, .int .i64 k, .int .u64 s] w fun e w' => e = .returned (.bool true) ∧ Ext w w' := by
  have C0 := Lib.hid (fun A c w hl => (by simp [checkI_eq, hg] : checkI l = 0) ▸ check_any A c l w hl (by omega))
  have hxs : inU (⟨l[i].time, l[i].kind, l[i].person, l[i].detail, l[i].salt, s, l[i].link⟩ : E).seal_ := by exact hs0
  have hbad := chk_change l i ⟨l[i].time, l[i].kind, l[i].person, l[i].detail, l[i].salt, s, l[i].link⟩ hi hg hok rfl hlk
  have hMs := seen_ext l i ⟨l[i].time, l[i].kind, l[i].person, l[i].detail, l[i].salt, s, l[i].link⟩ hi hg hok hxs hlk
  have hM1 : (l.set i ⟨l[i].time, l[i].kind, l[i].person, l[i].detail, l[i].salt, s, l[i].link⟩).length = l.length := by simp
  have hM2 : (againL 0 (l.set i ⟨l[i].time, l[i].kind, l[i].person, l[i].detail, l[i].salt, s, l[i].link⟩)).length = l.length := by simp [again_len]
  have hset := set_at l i ⟨l[i].time, l[i].kind, l[i].person, l[i].detail, l[i].salt, s, l[i].link⟩ hi
  have hflat := flat_setj l i l[i] ⟨l[i].time, l[i].kind, l[i].person, l[i].detail, l[i].salt, s, l[i].link⟩ (List.getElem?_eq_getElem hi) 5 (by omega) (.int .u64 s) rfl
  obtain ⟨M, hM⟩ : ∃ M, l.set i ⟨l[i].time, l[i].kind, l[i].person, l[i].detail, l[i].salt, s, l[i].link⟩ = M := ⟨_, rfl⟩
  rw [hM] at hMs hM1 hM2 hbad hset hflat
  clear hM
  have C1 : Hid (∀ (A : Option Addr) (c : Nat) (w : World), Log w A M → Calls Try.prog 30 #[.slice A l.length c] w fun e w' => e = .returned (.int .i64 110) ∧ Ext w w') := Lib.hid (fun A c w hl => by
    have h := check_any A c M w hl (by omega)
    rw [hM1, checkI_eq, hbad] at h; exact h)
  have C2 : Hid (∀ (A : Option Addr) (c : Nat) (w : World), Log w A M → Calls Try.prog 41 #[.slice A l.length c] w (RetS 54 7 l.length (flat (againL 0 M)) w)) := Lib.hid (fun A c w hl => by
    have h := again_any A c M w hl (by omega)
    rw [hM1] at h; exact h)
  obtain ⟨M2, hM2e⟩ : ∃ M2, againL 0 M = M2 := ⟨_, rfl⟩
  rw [hM2e] at hM2 hMs C2
  clear hM2e
  have C3 : Hid (∀ (A : Option Addr) (c : Nat) (w : World), Log w A M2 → Calls Try.prog 30 #[.slice A l.length c] w fun e w' => e = .returned (.int .i64 (if okB M2 then 0 else 110)) ∧ Ext w w') := Lib.hid (fun A c w hl => by
    have h := check_any A c M2 w hl (by omega)
    rw [hM2, checkI_eq] at h; exact h)
  have C4 : Hid (okB M2 = true → ∀ (n : Nat), n ≤ l.length → ∀ (A : Option Addr) (c : Nat) (w : World), Log w A M2 → l.length ≤ c → Calls Try.prog 24 #[.slice A l.length c, .int .i64 n, .int .u64 (lastE (l.take n)).link] w fun e w' => e = .returned (.tuple #[.bool (decide (n ≤ i)), .int .i64 0]) ∧ Ext w w') := Lib.hid (fun ho n hn A c w hl hc => by
    have h := extends_any A c M2 n (lastE (l.take n)).link w hl (by omega) (by omega)
    rw [hM2, hMs ho n hn] at h; exact h)
  have Hflat := Lib.hid hflat
  have Hset := Lib.hid hset
  have HM1 := Lib.hid hM1
  have HM2 := Lib.hid hM2
  clear hxs hbad hlk hMs hM1 hM2 hset hflat
  have hgi : l[i]? = some l[i] := List.getElem?_eq_getElem hi
  have HG := Lib.hid hg
  have HL := Lib.hid hl
  have HS := Lib.hid hl.slc
  have HOK := Lib.hid hok
  have Hgi := Lib.hid hgi
  clear hg hl hok hgi
  rcases HL.out with h | ⟨b, off, rfl, hb, hc⟩
  · subst h; simp at hi
  obtain ⟨a0, a1, a2, a3, a4, a5, a6⟩ := hc i l[i] Hgi.out
  have hbo := Old.mk hb
  clear hc hb
  generalize l[i] = x at *
  have hle1 : decide ((60 : Int) < (l.length : Int)) = false := by simp; omega
  have hi1 : decide ((i : Int) < 0) = false := by simp
  have hi2 : decide ((l.length : Int) ≤ (i : Int)) = false := by simp; omega
  have hi3 : decide (l.length ≤ i) = false := by simp; omega
  have hlc : l.length ≤ 100 := by omega
  go_enter Try.func11, Try.ntmps11
  go_wp2_with (first | (go_at_call 26; refine Calls.same (salt_any _ _ _) ?_) | (go_at_call 40; refine Calls.ext (alive_any _) fun z1 => ?_) | (go_at_call 30; refine Calls.ext (C0.out _ c _ (HL.out.grow (Ext.ext_self w _))) fun z2 => ?_) | (at_builtin; refine wpList_append_new rfl infoE (.tmp 44) (.tmp 45) rfl w.heap.size (by have := ext_size w z1; have := ext_size (ext w z1) z2; simp; omega) _ rfl (own_empty 7 (by have := ext_size w z1; have := ext_size (ext w z1) z2; omega) (Blk.new (ext (ext w z1) z2) 54 #[])) _ l.length c (flat l) rfl (by exact HS.out.grow ((((Ext.refl w).ext z1).ext z2).alloc _)) (flat_one' l) (by omega) (by omega) ?_; intro A2 c2 z3 hown2; obtain ⟨g, cap, hv, hgw, hgl⟩ := hown2.form (by omega); obtain ⟨rfl, -, rfl⟩ : A2 = some ⟨g, 0, none⟩ ∧ l.length = l.length ∧ c2 = cap := (by simpa using hv); have HO2 := Lib.hid hown2; have HGW := Lib.hid hgw; clear hown2 hv hgw hgl; have HE2 := Lib.hid ((((Ext.refl w).ext z1).ext z2).alloc (.cells #[] 54) |>.ext z3); generalize ext ((ext (ext w z1) z2).alloc (.cells #[] 54)) z3 = W2 at *; obtain ⟨o0, o1, o2, o3, o4, o5, o6⟩ := cells7 HO2.out rfl Hgi.out; have hf := HO2.out.frozenAt))
  have HO3 := Lib.hid (by have := (HO2.out.stored (i * 7 + 5) (.int .u64 s)).1; rw [Hflat.out] at this; exact this)
  have HE3 := Lib.hid (HE2.out.setCell (p := ⟨g, i * 7 + 5, none⟩) HGW.out (.int .u64 s))
  have HW3 : Hid (W2.setCell ⟨g, i * 7 + 5, none⟩ (.int .u64 s) = W2.setCell ⟨g, i * 7 + 5, none⟩ (.int .u64 s)) := Lib.hid rfl
  rw [HW3.out] at HO3 HE3
  clear o0 o1 o2 o3 o4 o5 o6 hf HW3
  generalize hW3 : W2.setCell ⟨g, i * 7 + 5, none⟩ (.int .u64 s) = W3 at *
  clear hW3
  obtain ⟨o0, o1, o2, o3, o4, o5, o6⟩ := cells7 HO3.out HM1.out Hset.out
  have HLM := Lib.hid (Slc.log (l := M) (by rw [HM1.out]; exact Slc.of_own HO3.out))
  have hgo := Old.mk (own_lt HO3.out g rfl)
  clear HO2 HE2
  obtain ⟨z4, rfl⟩ : ∃ z4, W3 = ext w z4 := ⟨W3, (ext_of HE3.out).symm⟩
  refine wp_region_ext (by kernel_rfl) (by kernel_rfl) ?_
  repeat (go_big_quiet_step (fail))
  refine wpQuiet_nil ?_
  rintro _ ⟨z5, rfl⟩
  go_wp2_with fail
  have HLM5 := Lib.hid (HLM.out.grow (Ext.ext_self _ z5))
  have HE5 := Lib.hid (HE3.out.ext z5)
  clear HLM HO3 HE3 o0 o1 o2 o3 o4 o5 o6 a0 a1 a2 a3 a4 a5 a6 hgo hne
  generalize ext (ext w z4) z5 = W5 at *
  refine Calls.ext (C1.out _ c2 _ HLM5.out) fun z6 => ?_
  go_wp2_with fail
  refine calls_slice (C2.out _ c2 _ (HLM5.out.grow (Ext.ext_self _ z6))) fun A3 c3 z7 hown3 => ?_
  have HM := Lib.hid (Slc.log (l := M2) (by rw [HM2.out]; exact Slc.of_own hown3))
  have hc3 := cap_own hown3
  have HE7 := Lib.hid ((HE5.out.ext z6).ext z7)
  clear hown3 HLM5 HE5 C1 C2
  generalize ext (ext W5 z6) z7 = W7 at *
  go_wp2_with fail
  cases hok2 : okB M2
  · have C3' := C3.out _ c3 _ HM.out
    rw [hok2] at C3'
    clear hok2
    refine Calls.ext C3' fun z8 => ?_
    clear C3'
    go_wp2_with fail
    go_ret
    exact ⟨rfl, HE7.out.ext _⟩
  · have C3' := C3.out _ c3 _ HM.out
    rw [hok2] at C3'
    have C4' := Lib.hid (C4.out hok2)
    clear hok2 C4
    refine Calls.ext C3' fun z8 => ?_
    clear C3' C3
    have HM8 := Lib.hid (HM.out.grow (Ext.ext_self _ z8))
    have HE8 := Lib.hid (HE7.out.ext z8)
    clear HM HE7
    generalize ext W7 z8 = W8 at *
    go_wp2_with fail
    go_loopw [107] (fun i wr => ∃ (j : Nat) (z : World), j ≤ l.length + 1 ∧ i = .int .i64 j ∧ wr = ext W8 z) (fun i _ => l.length + 1 - (intOf i).toNat)
    case atStart => exact ⟨0, W8, Nat.zero_le _, rfl, (ext_of (Ext.refl W8)).symm⟩
    case round =>
      obtain ⟨j, z, hj, rfl, rfl⟩ := hrel
      by_cases hlt : j < l.length + 1
      · have hjl : j ≤ l.length := by omega
        have hlen : (l.take j).length = j := by simp; omega
        have ht : tipV (l.take j) = .tuple #[.int .u64 (lastE (l.take j)).link, .int .i64 0] := by simp [tipV, ok_take HG.out]
        have C5 := Lib.hid (fun w hl => ht ▸ hlen ▸ tip_any (some ⟨b, off, none⟩) c (l.take j) w hl (by omega))
        have C6 := Lib.hid (C4'.out j hjl (A := A3) (c := c3))
        clear ht hlen
        generalize (lastE (l.take j)).link = tl at *
        go_wp2_with fail
        refine Calls.ext (C5.out _ ((HL.out.grow (HE8.out.ext z)).take j)) fun z9 => ?_
        go_wp2_with fail
        refine Calls.ext (C6.out _ (HM8.out.grow (((Ext.refl W8).ext z).ext z9)) hc3) fun z10 => ?_
        have hdd : (decide (j ≤ i) != decide (j ≤ i)) = false := by simp
        have hdd' : (decide (j ≤ i) != decide ((j : Int) ≤ (i : Int))) = false := by simp
        go_wp2_with fail
        go_roundw
        case rel => exact ⟨j + 1, _, by omega, by go_num, (ext_of ((((Ext.refl W8).ext z).ext z9).ext z10)).symm⟩
        case measure => simp [intOf]; omega
      · go_wp2_with fail
        go_ret
        exact ⟨rfl, HE8.out.ext z⟩

set_option maxRecDepth 100000 in
set_option maxHeartbeats 2000000 in
theorem seen_seal2_eq (A : Option Addr) (c : Nat) (l : List E) (i : Nat) (f t k s : Int) (w : World) (hl : Log w A l) (hn : l.length ≤ 60) (hcap : l.length ≤ c) (hi : i < l.length) (hg : okB l = true) (hok : ∀ x ∈ l, x.ok) (hs0 : inU s)
    (hf8 : 0 ≤ f ∧ f < 256) (hf0 : (f % 3 == 0) = false) (hf1 : (f % 3 == 1) = false) (hper : (l[i].person != -1) = true) (he : ⟨l[i].time, l[i].kind, l[i].person, l[i].detail, bits .xor .u64 s l[i].detail, s, l[i].link⟩ = l[i]) :
    Calls Try.prog 11 #[.slice A l.length c, .int .i64 i, .int .u8 f, .int .i64 t, .int .i64 k, .int .u64 s] w fun e w' => e = .returned (.bool true) ∧ Ext w w' := by
  have C0 := Lib.hid (fun A c w hl => (by simp [checkI_eq, hg] : checkI l = 0) ▸ check_any A c l w hl (by omega))
  have hset := set_at l i ⟨l[i].time, l[i].kind, l[i].person, l[i].detail, bits .xor .u64 s l[i].detail, s, l[i].link⟩ hi
  have hflat := flat_set2 l i l[i] ⟨l[i].time, l[i].kind, l[i].person, l[i].detail, l[i].salt, s, l[i].link⟩ ⟨l[i].time, l[i].kind, l[i].person, l[i].detail, bits .xor .u64 s l[i].detail, s, l[i].link⟩ (List.getElem?_eq_getElem hi) 5 4 (by omega) (by omega) (.int .u64 s) (.int .u64 (bits .xor .u64 s l[i].detail)) rfl rfl
  rw [he, set_self l i l[i] (List.getElem?_eq_getElem hi)] at hset hflat
  have Hflat := Lib.hid hflat
  have Hset := Lib.hid hset
  clear he hset hflat
  have hgi : l[i]? = some l[i] := List.getElem?_eq_getElem hi
  have HG := Lib.hid hg
  have HL := Lib.hid hl
  have HS := Lib.hid hl.slc
  have HOK := Lib.hid hok
  have Hgi := Lib.hid hgi
  clear hg hl hok hgi
  rcases HL.out with h | ⟨b, off, rfl, hb, hc⟩
  · subst h; simp at hi
  obtain ⟨a0, a1, a2, a3, a4, a5, a6⟩ := hc i l[i] Hgi.out
  have hbo := Old.mk hb
  clear hc hb
  generalize l[i] = x at *
  have hle1 : decide ((60 : Int) < (l.length : Int)) = false := by simp; omega
  have hi1 : decide ((i : Int) < 0) = false := by simp
  have hi2 : decide ((l.length : Int) ≤ (i : Int)) = false := by simp; omega
  have hi3 : decide (l.length ≤ i) = false := by simp; omega
  have hlc : l.length ≤ 100 := by omega
  go_enter Try.func11, Try.ntmps11
  go_wp2_with (first | (go_at_call 26; refine Calls.same (salt_any _ _ _) ?_) | (go_at_call 40; refine Calls.ext (alive_any _) fun z1 => ?_) | (go_at_call 30; refine Calls.ext (C0.out _ c _ (HL.out.grow (Ext.ext_self w _))) fun z2 => ?_) | (at_builtin; refine wpList_append_new rfl infoE (.tmp 44) (.tmp 45) rfl w.heap.size (by have := ext_size w z1; have := ext_size (ext w z1) z2; simp; omega) _ rfl (own_empty 7 (by have := ext_size w z1; have := ext_size (ext w z1) z2; omega) (Blk.new (ext (ext w z1) z2) 54 #[])) _ l.length c (flat l) rfl (by exact HS.out.grow ((((Ext.refl w).ext z1).ext z2).alloc _)) (flat_one' l) (by omega) (by omega) ?_; intro A2 c2 z3 hown2; obtain ⟨g, cap, hv, hgw, hgl⟩ := hown2.form (by omega); obtain ⟨rfl, -, rfl⟩ : A2 = some ⟨g, 0, none⟩ ∧ l.length = l.length ∧ c2 = cap := (by simpa using hv); have HO2 := Lib.hid hown2; have HGW := Lib.hid hgw; clear hown2 hv hgw hgl; have HE2 := Lib.hid ((((Ext.refl w).ext z1).ext z2).alloc (.cells #[] 54) |>.ext z3); generalize ext ((ext (ext w z1) z2).alloc (.cells #[] 54)) z3 = W2 at *; obtain ⟨o0, o1, o2, o3, o4, o5, o6⟩ := cells7 HO2.out rfl Hgi.out; have hf := HO2.out.frozenAt))
  have HO3 := Lib.hid (by have := ((HO2.out.stored (i * 7 + 5) (.int .u64 s)).1.stored (i * 7 + 4) (.int .u64 (bits .xor .u64 s x.detail))).1; rw [Hflat.out] at this; exact this)
  have HE3 := Lib.hid ((HE2.out.setCell (p := ⟨g, i * 7 + 5, none⟩) HGW.out (.int .u64 s)).setCell (p := ⟨g, i * 7 + 4, none⟩) HGW.out (.int .u64 (bits .xor .u64 s x.detail)))
  clear o0 o1 o2 o3 o4 o5 o6 hf
  generalize hW3 : (W2.setCell ⟨g, i * 7 + 5, none⟩ (.int .u64 s)).setCell ⟨g, i * 7 + 4, none⟩ (.int .u64 (bits .xor .u64 s x.detail)) = W3 at *
  clear hW3
  obtain ⟨o0, o1, o2, o3, o4, o5, o6⟩ := cells7 HO3.out rfl Hset.out
  have HLM := Lib.hid (Slc.log (l := l) (by  exact Slc.of_own HO3.out))
  have hgo := Old.mk (own_lt HO3.out g rfl)
  clear HO2 HE2
  obtain ⟨z4, rfl⟩ : ∃ z4, W3 = ext w z4 := ⟨W3, (ext_of HE3.out).symm⟩
  refine wp_region_ext (by kernel_rfl) (by kernel_rfl) ?_
  repeat (go_big_quiet_step (fail))
  refine wpQuiet_nil ?_
  rintro _ ⟨z5, rfl⟩
  go_wp2_with fail
  go_ret
  exact ⟨rfl, ((Ext.refl w).ext _).ext _⟩

set_option maxRecDepth 100000 in
set_option maxHeartbeats 2000000 in
theorem seen_seal2_ne (A : Option Addr) (c : Nat) (l : List E) (i : Nat) (f t k s : Int) (w : World) (hl : Log w A l) (hn : l.length ≤ 60) (hcap : l.length ≤ c) (hi : i < l.length) (hg : okB l = true) (hok : ∀ x ∈ l, x.ok) (hs0 : inU s)
    (hf8 : 0 ≤ f ∧ f < 256) (hf0 : (f % 3 == 0) = false) (hf1 : (f % 3 == 1) = false) (hper : (l[i].person != -1) = true) (hne : (s == l[i].seal_) = false) (hlk : ∀ a, inU a → linkI a ⟨l[i].time, l[i].kind, l[i].person, l[i].detail, bits .xor .u64 s l[i].detail, s, l[i].link⟩ ≠ linkI a l[i]) :
    Calls Try.prog 11 #[.slice A l.length c, .int .i64 i, .int .u8 f, .int .i64 t, .int .i64 k, .int .u64 s] w fun e w' => e = .returned (.bool true) ∧ Ext w w' := by
  have C0 := Lib.hid (fun A c w hl => (by simp [checkI_eq, hg] : checkI l = 0) ▸ check_any A c l w hl (by omega))
  have hxs : inU (⟨l[i].time, l[i].kind, l[i].person, l[i].detail, bits .xor .u64 s l[i].detail, s, l[i].link⟩ : E).seal_ := by exact hs0
  have hbad := chk_change l i ⟨l[i].time, l[i].kind, l[i].person, l[i].detail, bits .xor .u64 s l[i].detail, s, l[i].link⟩ hi hg hok rfl hlk
  have hMs := seen_ext l i ⟨l[i].time, l[i].kind, l[i].person, l[i].detail, bits .xor .u64 s l[i].detail, s, l[i].link⟩ hi hg hok hxs hlk
  have hM1 : (l.set i ⟨l[i].time, l[i].kind, l[i].person, l[i].detail, bits .xor .u64 s l[i].detail, s, l[i].link⟩).length = l.length := by simp
  have hM2 : (againL 0 (l.set i ⟨l[i].time, l[i].kind, l[i].person, l[i].detail, bits .xor .u64 s l[i].detail, s, l[i].link⟩)).length = l.length := by simp [again_len]
  have hset := set_at l i ⟨l[i].time, l[i].kind, l[i].person, l[i].detail, bits .xor .u64 s l[i].detail, s, l[i].link⟩ hi
  have hflat := flat_set2 l i l[i] ⟨l[i].time, l[i].kind, l[i].person, l[i].detail, l[i].salt, s, l[i].link⟩ ⟨l[i].time, l[i].kind, l[i].person, l[i].detail, bits .xor .u64 s l[i].detail, s, l[i].link⟩ (List.getElem?_eq_getElem hi) 5 4 (by omega) (by omega) (.int .u64 s) (.int .u64 (bits .xor .u64 s l[i].detail)) rfl rfl
  obtain ⟨M, hM⟩ : ∃ M, l.set i ⟨l[i].time, l[i].kind, l[i].person, l[i].detail, bits .xor .u64 s l[i].detail, s, l[i].link⟩ = M := ⟨_, rfl⟩
  rw [hM] at hMs hM1 hM2 hbad hset hflat
  clear hM
  have C1 : Hid (∀ (A : Option Addr) (c : Nat) (w : World), Log w A M → Calls Try.prog 30 #[.slice A l.length c] w fun e w' => e = .returned (.int .i64 110) ∧ Ext w w') := Lib.hid (fun A c w hl => by
    have h := check_any A c M w hl (by omega)
    rw [hM1, checkI_eq, hbad] at h; exact h)
  have C2 : Hid (∀ (A : Option Addr) (c : Nat) (w : World), Log w A M → Calls Try.prog 41 #[.slice A l.length c] w (RetS 54 7 l.length (flat (againL 0 M)) w)) := Lib.hid (fun A c w hl => by
    have h := again_any A c M w hl (by omega)
    rw [hM1] at h; exact h)
  obtain ⟨M2, hM2e⟩ : ∃ M2, againL 0 M = M2 := ⟨_, rfl⟩
  rw [hM2e] at hM2 hMs C2
  clear hM2e
  have C3 : Hid (∀ (A : Option Addr) (c : Nat) (w : World), Log w A M2 → Calls Try.prog 30 #[.slice A l.length c] w fun e w' => e = .returned (.int .i64 (if okB M2 then 0 else 110)) ∧ Ext w w') := Lib.hid (fun A c w hl => by
    have h := check_any A c M2 w hl (by omega)
    rw [hM2, checkI_eq] at h; exact h)
  have C4 : Hid (okB M2 = true → ∀ (n : Nat), n ≤ l.length → ∀ (A : Option Addr) (c : Nat) (w : World), Log w A M2 → l.length ≤ c → Calls Try.prog 24 #[.slice A l.length c, .int .i64 n, .int .u64 (lastE (l.take n)).link] w fun e w' => e = .returned (.tuple #[.bool (decide (n ≤ i)), .int .i64 0]) ∧ Ext w w') := Lib.hid (fun ho n hn A c w hl hc => by
    have h := extends_any A c M2 n (lastE (l.take n)).link w hl (by omega) (by omega)
    rw [hM2, hMs ho n hn] at h; exact h)
  have Hflat := Lib.hid hflat
  have Hset := Lib.hid hset
  have HM1 := Lib.hid hM1
  have HM2 := Lib.hid hM2
  clear hxs hbad hlk hMs hM1 hM2 hset hflat
  have hgi : l[i]? = some l[i] := List.getElem?_eq_getElem hi
  have HG := Lib.hid hg
  have HL := Lib.hid hl
  have HS := Lib.hid hl.slc
  have HOK := Lib.hid hok
  have Hgi := Lib.hid hgi
  clear hg hl hok hgi
  rcases HL.out with h | ⟨b, off, rfl, hb, hc⟩
  · subst h; simp at hi
  obtain ⟨a0, a1, a2, a3, a4, a5, a6⟩ := hc i l[i] Hgi.out
  have hbo := Old.mk hb
  clear hc hb
  generalize l[i] = x at *
  have hle1 : decide ((60 : Int) < (l.length : Int)) = false := by simp; omega
  have hi1 : decide ((i : Int) < 0) = false := by simp
  have hi2 : decide ((l.length : Int) ≤ (i : Int)) = false := by simp; omega
  have hi3 : decide (l.length ≤ i) = false := by simp; omega
  have hlc : l.length ≤ 100 := by omega
  go_enter Try.func11, Try.ntmps11
  go_wp2_with (first | (go_at_call 26; refine Calls.same (salt_any _ _ _) ?_) | (go_at_call 40; refine Calls.ext (alive_any _) fun z1 => ?_) | (go_at_call 30; refine Calls.ext (C0.out _ c _ (HL.out.grow (Ext.ext_self w _))) fun z2 => ?_) | (at_builtin; refine wpList_append_new rfl infoE (.tmp 44) (.tmp 45) rfl w.heap.size (by have := ext_size w z1; have := ext_size (ext w z1) z2; simp; omega) _ rfl (own_empty 7 (by have := ext_size w z1; have := ext_size (ext w z1) z2; omega) (Blk.new (ext (ext w z1) z2) 54 #[])) _ l.length c (flat l) rfl (by exact HS.out.grow ((((Ext.refl w).ext z1).ext z2).alloc _)) (flat_one' l) (by omega) (by omega) ?_; intro A2 c2 z3 hown2; obtain ⟨g, cap, hv, hgw, hgl⟩ := hown2.form (by omega); obtain ⟨rfl, -, rfl⟩ : A2 = some ⟨g, 0, none⟩ ∧ l.length = l.length ∧ c2 = cap := (by simpa using hv); have HO2 := Lib.hid hown2; have HGW := Lib.hid hgw; clear hown2 hv hgw hgl; have HE2 := Lib.hid ((((Ext.refl w).ext z1).ext z2).alloc (.cells #[] 54) |>.ext z3); generalize ext ((ext (ext w z1) z2).alloc (.cells #[] 54)) z3 = W2 at *; obtain ⟨o0, o1, o2, o3, o4, o5, o6⟩ := cells7 HO2.out rfl Hgi.out; have hf := HO2.out.frozenAt))
  have HO3 := Lib.hid (by have := ((HO2.out.stored (i * 7 + 5) (.int .u64 s)).1.stored (i * 7 + 4) (.int .u64 (bits .xor .u64 s x.detail))).1; rw [Hflat.out] at this; exact this)
  have HE3 := Lib.hid ((HE2.out.setCell (p := ⟨g, i * 7 + 5, none⟩) HGW.out (.int .u64 s)).setCell (p := ⟨g, i * 7 + 4, none⟩) HGW.out (.int .u64 (bits .xor .u64 s x.detail)))
  clear o0 o1 o2 o3 o4 o5 o6 hf
  generalize hW3 : (W2.setCell ⟨g, i * 7 + 5, none⟩ (.int .u64 s)).setCell ⟨g, i * 7 + 4, none⟩ (.int .u64 (bits .xor .u64 s x.detail)) = W3 at *
  clear hW3
  obtain ⟨o0, o1, o2, o3, o4, o5, o6⟩ := cells7 HO3.out HM1.out Hset.out
  have HLM := Lib.hid (Slc.log (l := M) (by rw [HM1.out]; exact Slc.of_own HO3.out))
  have hgo := Old.mk (own_lt HO3.out g rfl)
  clear HO2 HE2
  obtain ⟨z4, rfl⟩ : ∃ z4, W3 = ext w z4 := ⟨W3, (ext_of HE3.out).symm⟩
  refine wp_region_ext (by kernel_rfl) (by kernel_rfl) ?_
  repeat (go_big_quiet_step (fail))
  refine wpQuiet_nil ?_
  rintro _ ⟨z5, rfl⟩
  go_wp2_with fail
  have HLM5 := Lib.hid (HLM.out.grow (Ext.ext_self _ z5))
  have HE5 := Lib.hid (HE3.out.ext z5)
  clear HLM HO3 HE3 o0 o1 o2 o3 o4 o5 o6 a0 a1 a2 a3 a4 a5 a6 hgo hne
  generalize ext (ext w z4) z5 = W5 at *
  refine Calls.ext (C1.out _ c2 _ HLM5.out) fun z6 => ?_
  go_wp2_with fail
  refine calls_slice (C2.out _ c2 _ (HLM5.out.grow (Ext.ext_self _ z6))) fun A3 c3 z7 hown3 => ?_
  have HM := Lib.hid (Slc.log (l := M2) (by rw [HM2.out]; exact Slc.of_own hown3))
  have hc3 := cap_own hown3
  have HE7 := Lib.hid ((HE5.out.ext z6).ext z7)
  clear hown3 HLM5 HE5 C1 C2
  generalize ext (ext W5 z6) z7 = W7 at *
  go_wp2_with fail
  cases hok2 : okB M2
  · have C3' := C3.out _ c3 _ HM.out
    rw [hok2] at C3'
    clear hok2
    refine Calls.ext C3' fun z8 => ?_
    clear C3'
    go_wp2_with fail
    go_ret
    exact ⟨rfl, HE7.out.ext _⟩
  · have C3' := C3.out _ c3 _ HM.out
    rw [hok2] at C3'
    have C4' := Lib.hid (C4.out hok2)
    clear hok2 C4
    refine Calls.ext C3' fun z8 => ?_
    clear C3' C3
    have HM8 := Lib.hid (HM.out.grow (Ext.ext_self _ z8))
    have HE8 := Lib.hid (HE7.out.ext z8)
    clear HM HE7
    generalize ext W7 z8 = W8 at *
    go_wp2_with fail
    go_loopw [107] (fun i wr => ∃ (j : Nat) (z : World), j ≤ l.length + 1 ∧ i = .int .i64 j ∧ wr = ext W8 z) (fun i _ => l.length + 1 - (intOf i).toNat)
    case atStart => exact ⟨0, W8, Nat.zero_le _, rfl, (ext_of (Ext.refl W8)).symm⟩
    case round =>
      obtain ⟨j, z, hj, rfl, rfl⟩ := hrel
      by_cases hlt : j < l.length + 1
      · have hjl : j ≤ l.length := by omega
        have hlen : (l.take j).length = j := by simp; omega
        have ht : tipV (l.take j) = .tuple #[.int .u64 (lastE (l.take j)).link, .int .i64 0] := by simp [tipV, ok_take HG.out]
        have C5 := Lib.hid (fun w hl => ht ▸ hlen ▸ tip_any (some ⟨b, off, none⟩) c (l.take j) w hl (by omega))
        have C6 := Lib.hid (C4'.out j hjl (A := A3) (c := c3))
        clear ht hlen
        generalize (lastE (l.take j)).link = tl at *
        go_wp2_with fail
        refine Calls.ext (C5.out _ ((HL.out.grow (HE8.out.ext z)).take j)) fun z9 => ?_
        go_wp2_with fail
        refine Calls.ext (C6.out _ (HM8.out.grow (((Ext.refl W8).ext z).ext z9)) hc3) fun z10 => ?_
        have hdd : (decide (j ≤ i) != decide (j ≤ i)) = false := by simp
        have hdd' : (decide (j ≤ i) != decide ((j : Int) ≤ (i : Int))) = false := by simp
        go_wp2_with fail
        go_roundw
        case rel => exact ⟨j + 1, _, by omega, by go_num, (ext_of ((((Ext.refl W8).ext z).ext z9).ext z10)).symm⟩
        case measure => simp [intOf]; omega
      · go_wp2_with fail
        go_ret
        exact ⟨rfl, HE8.out.ext z⟩

theorem salt_of (x : E) (hx : x.ok) (h : fitsB x = true) (hp : (x.person != -1) = true) : bits .xor .u64 x.seal_ x.detail = x.salt := by
  simp only [fitsB, Bool.and_eq_true] at h
  obtain ⟨⟨⟨_, _⟩, h3⟩, h4⟩ := h
  have hp' : x.person ≠ -1 := by simpa using hp
  have h3' : -1 ≤ x.person := by simp [fromB] at h3; omega
  have hn : ¬ x.person < 0 := by omega
  obtain ⟨d0, d1, s0, s1, e0, e1⟩ := hx
  rw [if_neg hn] at h4
  have hab : x.seal_.toNat ^^^ x.detail.toNat < 18446744073709551616 := Nat.xor_lt_two_pow (n := 64) (by omega) (by omega)
  have hx1 : bits .xor .u64 x.seal_ x.detail = ((x.seal_.toNat ^^^ x.detail.toNat : Nat) : Int) := u64_xor _ _ e0 e1 d0 d1
  rw [hx1] at h4 ⊢
  rw [u64_xor _ _ (by omega) (by omega) s0 s1] at h4
  have h5 : (x.seal_.toNat ^^^ x.detail.toNat) ^^^ x.salt.toNat = 0 := by simpa using h4
  have h6 := congrArg (· ^^^ x.salt.toNat) h5
  have h7 : x.seal_.toNat ^^^ x.detail.toNat = x.salt.toNat := by simpa only [Nat.xor_assoc, Nat.xor_self, Nat.xor_zero, Nat.zero_xor] using h6
  omega

set_option maxRecDepth 100000 in
set_option maxHeartbeats 2000000 in
theorem auditSeen_walk (A : Option Addr) (c : Nat) (l : List E) (at_ f t k s : Int) (w : World) (hl : Log w A l) (hcap : l.length ≤ c) (hfit : ∀ x ∈ l, x.fit) (ht : -9223372036854775808 ≤ t ∧ t ≤ 9223372036854775807) (hk : -9223372036854775808 ≤ k ∧ k ≤ 9223372036854775807) (hs0 : inU s) (hf8 : 0 ≤ f ∧ f < 256) :
    Calls Try.prog 11 #[.slice A l.length c, .int .i64 at_, .int .u8 f, .int .i64 t, .int .i64 k, .int .u64 s] w fun e w' => e = .returned (.bool true) ∧ Ext w w' := by
  by_cases hn : l.length ≤ 60
  · have hle1 : decide ((60 : Int) < (l.length : Int)) = false := by simp; omega
    by_cases h0 : at_ < 0
    · have hi1 : decide (at_ < 0) = true := by simpa using h0
      clear hl hfit
      go_enter Try.func11, Try.ntmps11
      go_wp2_with (go_at_call 40; refine Calls.ext (alive_any _) fun z1 => ?_)
      go_ret
      exact ⟨rfl, (Ext.refl w).ext _⟩
    · have hi1 : decide (at_ < 0) = false := by simpa using h0
      by_cases h1 : (l.length : Int) ≤ at_
      · have hi2 : decide ((l.length : Int) ≤ at_) = true := by simpa using h1
        clear hl hfit
        go_enter Try.func11, Try.ntmps11
        go_wp2_with (go_at_call 40; refine Calls.ext (alive_any _) fun z1 => ?_)
        go_ret
        exact ⟨rfl, (Ext.refl w).ext _⟩
      · have hi2 : decide ((l.length : Int) ≤ at_) = false := by simpa using h1
        cases hg : okB l
        · have e5 : checkI l = 110 := by simp [checkI_eq, hg]
          have C3 := Lib.hid (fun A c w hl => e5 ▸ check_any A c l w hl (by omega))
          have HL := Lib.hid hl
          clear e5 hg hl hfit
          go_enter Try.func11, Try.ntmps11
          go_wp2_with (first | (go_at_call 40; refine Calls.ext (alive_any _) fun z1 => ?_) | (go_at_call 30; refine Calls.ext (C3.out A c _ (HL.out.grow (Ext.ext_self w _))) fun z2 => ?_))
          go_ret
          exact ⟨rfl, ((Ext.refl w).ext _).ext _⟩
        · obtain ⟨i, rfl⟩ := Int.eq_ofNat_of_zero_le (by omega : 0 ≤ at_)
          have hi : i < l.length := by omega
          clear hi1 hi2 hle1
          have hok : ∀ x ∈ l, x.ok := fun x hx => (hfit x hx).ok
          have hfi := hfit l[i] (List.getElem_mem hi)
          have hoi := hok l[i] (List.getElem_mem hi)
          have hsi : inU l[i].seal_ := ⟨hoi.2.2.2.2.1, hoi.2.2.2.2.2⟩
          have hti := wf_i64 hfi.time
          have hki := wf_i64 hfi.kind
          by_cases m0 : f % 3 = 0
          · have m0' : (f % 3 == 0) = true := by simpa using m0
            by_cases e : t = l[i].time
            · exact seen_time_eq A c l i f t k s w hl hn hcap hi hg hok hs0 hf8 m0' (by rw [e])
            · exact seen_time_ne A c l i f t k s w hl hn hcap hi hg hok hs0 hf8 m0' (by simpa using e) fun a ha h => e (wrap_inj ht hti (link_time (x' := ⟨t, l[i].kind, l[i].person, l[i].detail, l[i].salt, l[i].seal_, l[i].link⟩) ha hsi rfl rfl h))
          · have m0' : (f % 3 == 0) = false := by simpa using m0
            by_cases m1 : f % 3 = 1
            · have m1' : (f % 3 == 1) = true := by simpa using m1
              by_cases e : k = l[i].kind
              · exact seen_kind_eq A c l i f t k s w hl hn hcap hi hg hok hs0 hf8 m0' m1' (by rw [e])
              · exact seen_kind_ne A c l i f t k s w hl hn hcap hi hg hok hs0 hf8 m0' m1' (by simpa using e) fun a ha h => e (wrap_inj hk hki (link_kind (x' := ⟨l[i].time, k, l[i].person, l[i].detail, l[i].salt, l[i].seal_, l[i].link⟩) ha hsi rfl rfl h))
            · have m1' : (f % 3 == 1) = false := by simpa using m1
              cases hp : (l[i].person != -1)
              · by_cases e : s = l[i].seal_
                · exact seen_seal1_eq A c l i f t k s w hl hn hcap hi hg hok hs0 hf8 m0' m1' hp (by rw [e])
                · exact seen_seal1_ne A c l i f t k s w hl hn hcap hi hg hok hs0 hf8 m0' m1' hp (by simpa using e) fun a ha h => e (link_seal (x' := ⟨l[i].time, l[i].kind, l[i].person, l[i].detail, l[i].salt, s, l[i].link⟩) ha hsi hs0 rfl rfl h)
              · by_cases e : s = l[i].seal_
                · exact seen_seal2_eq A c l i f t k s w hl hn hcap hi hg hok hs0 hf8 m0' m1' hp (by rw [e, salt_of l[i] hoi (ok_fits hg l[i] (List.getElem_mem hi)) hp])
                · exact seen_seal2_ne A c l i f t k s w hl hn hcap hi hg hok hs0 hf8 m0' m1' hp (by simpa using e) fun a ha h => e (link_seal (x' := ⟨l[i].time, l[i].kind, l[i].person, l[i].detail, bits .xor .u64 s l[i].detail, s, l[i].link⟩) ha hsi hs0 rfl rfl h)
  · have hgt : (60 : Int) < (l.length : Int) := by omega
    have hgt' : decide ((60 : Int) < (l.length : Int)) = true := by simpa using hgt
    clear hl hfit
    go_enter Try.func11, Try.ntmps11
    go_wp2_with (go_at_call 40; refine Calls.ext (alive_any _) fun z1 => ?_)
    go_ret
    exact ⟨rfl, (Ext.refl w).ext _⟩


set_option maxRecDepth 100000 in
theorem auditSeen_lifted (os : Os) (started : os.Started) (H : Type) (enc : TypeId × Value → H) :
    ReturnsInHanded {} Try.checked os 11 .any (Rows.auditSeenSpec.pre6 enc Try.prog Try.f11 Rows.auditSeenRow.domain false) (Rows.auditSeenSpec.post enc Try.prog Try.f11 false true false false) := by
  refine returnsInHanded_of_change (C := Try.checked) own started (by kernel_rfl) Try.func11
    (ChangeSpec.witness6 (enc := enc) (C := Try.checked) false ⟨#[], #[.slice none 0 0, .int .i64 0, .int .u8 0, .int .i64 0, .int .i64 0, .int .u64 0], []⟩ 8 (by kernel_rfl) (by kernel_rfl) (by kernel_rfl) (by kernel_rfl)) ?_
  intro W base args ds gs before hval0 hW hcnd _
  have hval : ∀ (j : Nat) t v, Try.f11.params[j]? = some t → args[j]? = some v → Value.okWide Try.prog W .any base t v := hval0
  have hW' := hW
  obtain ⟨p, q, hA0, hV, rfl, hfz, hnd⟩ := hW
  have hA : DataW.TrodAll enc Try.prog W 0 (fun _ => true) true Try.f11.params.toList args.toList ds p := hA0
  rw [Try.params11] at hA hval
  obtain ⟨v0, vs0, d0, ds0, p0, q0, hargs, rfl, rfl, h0, r0⟩ := trodAll_cons hA
  obtain ⟨v1, vs1, d1, ds1, p1, q1, rfl, rfl, rfl, h1, r1⟩ := trodAll_cons r0
  obtain ⟨v2, vs2, d2, ds2, p2, q2, rfl, rfl, rfl, h2, r2⟩ := trodAll_cons r1
  obtain ⟨v3, vs3, d3, ds3, p3, q3, rfl, rfl, rfl, h3, r3⟩ := trodAll_cons r2
  obtain ⟨v4, vs4, d4, ds4, p4, q4, rfl, rfl, rfl, h4, r4⟩ := trodAll_cons r3
  obtain ⟨v5, vs5, d5, ds5, p5, q5, rfl, rfl, rfl, h5, r5⟩ := trodAll_cons r4
  obtain ⟨rfl, rfl, rfl⟩ := trodAll_nil r5
  obtain rfl : args = #[v0, v1, v2, v3, v4, v5] := by cases args; simp_all
  obtain ⟨rfl, rfl⟩ := trodVars_none hV
  have k0 := h0
  have lt0 : ∀ x ∈ p0, x.block < W.heap.size := by obtain ⟨m, hm⟩ := k0; exact DataW.trod_lt m _ _ _ hm
  obtain ⟨A0, rows0, cap0, rfl, hlc0, hcm0, hwf0, hrow0⟩ := open_rows (ks := [.i64, .i64, .i64, .u64, .u64, .u64, .u64]) Try.underlying39 Try.underlying54 (by kernel_rfl) (by kernel_rfl) (kindsOf_of (by kernel_rfl)) (by decide) (hval 0 39 v0 rfl rfl) h0
  have k1 := h1
  have lt1 : ∀ x ∈ p1, x.block < W.heap.size := by obtain ⟨m, hm⟩ := k1; exact DataW.trod_lt m _ _ _ hm
  obtain ⟨a1, rfl, _, _, w1⟩ := open_int Try.underlying3 (hval 1 3 v1 rfl rfl) h1
  have k2 := h2
  have lt2 : ∀ x ∈ p2, x.block < W.heap.size := by obtain ⟨m, hm⟩ := k2; exact DataW.trod_lt m _ _ _ hm
  obtain ⟨a2, rfl, _, _, w2⟩ := open_int Try.underlying5 (hval 2 5 v2 rfl rfl) h2
  have k3 := h3
  have lt3 : ∀ x ∈ p3, x.block < W.heap.size := by obtain ⟨m, hm⟩ := k3; exact DataW.trod_lt m _ _ _ hm
  obtain ⟨a3, rfl, _, _, w3⟩ := open_int Try.underlying3 (hval 3 3 v3 rfl rfl) h3
  have k4 := h4
  have lt4 : ∀ x ∈ p4, x.block < W.heap.size := by obtain ⟨m, hm⟩ := k4; exact DataW.trod_lt m _ _ _ hm
  obtain ⟨a4, rfl, _, _, w4⟩ := open_int Try.underlying3 (hval 4 3 v4 rfl rfl) h4
  have k5 := h5
  have lt5 : ∀ x ∈ p5, x.block < W.heap.size := by obtain ⟨m, hm⟩ := k5; exact DataW.trod_lt m _ _ _ hm
  obtain ⟨a5, rfl, _, _, w5⟩ := open_int Try.underlying24 (hval 5 24 v5 rfl rfl) h5
  clear hA0 hval0
  obtain ⟨l, hle, hlog, hfit, hcap⟩ := log_of_rows hwf0 hrow0 hlc0
  refine (hle ▸ auditSeen_walk A0 cap0 l a1 a2 a3 a4 a5 W hlog hcap hfit (wf_i64 w3) (wf_i64 w4) (wf_u64 w5) (wf_u8 w2)).mono fun e W' ⟨he, bel⟩ => ?_
  subst he
  exact ⟨_, rfl, _, _, _, [], _, [], hW', trodAll_mk1 (shut_bool Try.underlying4 _), (trodAll_cons_mk (Below.trod laidOut (by kernel_rfl) (of_decide_eq_true (by kernel_rfl)) k0 bel lt0) (trodAll_cons_mk (Below.trod laidOut (by kernel_rfl) (of_decide_eq_true (by kernel_rfl)) k1 bel lt1) (trodAll_cons_mk (Below.trod laidOut (by kernel_rfl) (of_decide_eq_true (by kernel_rfl)) k2 bel lt2) (trodAll_cons_mk (Below.trod laidOut (by kernel_rfl) (of_decide_eq_true (by kernel_rfl)) k3 bel lt3) (trodAll_cons_mk (Below.trod laidOut (by kernel_rfl) (of_decide_eq_true (by kernel_rfl)) k4 bel lt4) (trodAll_cons_mk (Below.trod laidOut (by kernel_rfl) (of_decide_eq_true (by kernel_rfl)) k5 bel lt5) trodAll_mk0)))))), rfl, Below.frame bel _, fun h => by cases h⟩

theorem auditSeen_holds : Rows.AuditSeenSaid :=
  OpenClaim.holds_of_wide 11 Try.f11 rfl rfl rfl rfl rfl rfl rfl ⟨rfl, rfl, rfl, rfl, rfl⟩ rfl rfl rfl rfl rfl (by kernel_rfl) Try.func11 (by kernel_rfl)
    (of_decide_eq_true (by kernel_rfl)) (by unfold Func.isWrapper; first | (rw [if_pos (by decide +kernel)]; kernel_rfl) | (rw [if_neg (by decide +kernel)]; exact ⟨rfl, rfl⟩))
    (fun os started H enc _ => auditSeen_lifted os started H enc)

end Go.Proofs.Ytkhmjkhgmggjcaa
