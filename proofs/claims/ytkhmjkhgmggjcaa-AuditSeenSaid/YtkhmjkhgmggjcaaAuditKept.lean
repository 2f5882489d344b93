/- Proved: for every log l and all numbers, the call of whorllaw11.AuditKept returns true and leaves its arguments as they were. No conditions. -/
import Derived.Test.YtkhmjkhgmggjcaaAlive
import Derived.Test.YtkhmjkhgmggjcaaPure2
import Derived.Test.YtkhmjkhgmggjcaaLogs
namespace Go.Proofs.Ytkhmjkhgmggjcaa
open Go.Joins Go.ChangeShapes Go.WideShapes Go.RowKit Go.Deep Go.ChangeAt

/-- what Extends returns -/
def extB (l : List E) (n t : Int) : Bool := okB l && fromB 0 l.length n && ((lastE (l.take n.toNat)).link == t)
def extI (l : List E) (n : Int) : Int := if okB l then if fromB 0 l.length n then 0 else 2 else 110
theorem extV_eq (l : List E) (n t : Int) : extV l n t = .tuple #[.bool (extB l n t), .int .i64 (extI l n)] := by
  unfold extV extB extI
  cases okB l <;> cases fromB 0 l.length n <;> simp
theorem cap_own {w : World} {base : Nat} {e : TypeId} {sz n c : Nat} {A : Option Addr} {xs : List Value} (h : w.ownsRow base e sz (.slice A n c) n xs) : n ≤ c := by
  rcases h.2 with ⟨h, h'⟩ | ⟨g', cap', cur, h, _, _, hle, _⟩
  · have : n = 0 := by simp at h; omega
    omega
  · have : c = cap' := by simp at h; exact h.2
    omega

/-- x keeps the links of l, if e is 0 -/
def Keeps (l x : List E) (e : Int) (d : Nat) : Prop :=
  x.length ≤ 61 ∧ (e = 0 → x.length = l.length + d ∧ ∀ n : Nat, n ≤ l.length → extB x n (lastE (l.take n)).link = true ∧ extI x n = 0)

theorem keeps_write (l : List E) (t k p d s : Int) (hg : okB l = true) (hn : l.length ≤ 60) (hd0 : 0 ≤ d) (hd1 : d < 18446744073709551616) (hs0 : 0 ≤ s) (hs1 : s < 18446744073709551616) : Keeps l (writeL l t k p d s) (writeI l t k p) 1 := by
  by_cases hgood : wargB l t k p = true ∧ l.length ≠ 60
  · have e1 : writeL l t k p d s = l ++ [newE l t k p d s] := by simp [writeL, hg, hgood]
    have hok := ok_write l t k p d s hg hgood.1 hgood.2 hd0 hd1 hs0 hs1
    rw [← e1] at hok
    refine ⟨by rw [e1]; simp; omega, fun _ => ⟨by rw [e1]; simp, fun n hle => ?_⟩⟩
    have hf : fromB 0 (writeL l t k p d s).length n = true := by rw [e1]; simp [fromB]; omega
    have ht : (writeL l t k p d s).take n = l.take n := by rw [e1, List.take_append_of_le_length hle]
    simp [extB, extI, hok, hf, ht]
  · refine ⟨?_, fun h0 => ?_⟩
    · have : (writeL l t k p d s).length ≤ l.length + 1 := by unfold writeL; split <;> simp
      omega
    · exfalso
      by_cases h1 : wargB l t k p = true <;> by_cases h2 : l.length = 60 <;> simp_all [writeI]
theorem keeps_erase (l : List E) (p : Int) (hg : okB l = true) (hn : l.length ≤ 60) : Keeps l (erasedL l p) (knownI l p) 0 := by
  refine ⟨?_, fun h0 => ?_⟩
  · have : (erasedL l p).length ≤ l.length := by unfold erasedL; split <;> simp [eraseL]
    omega
  · have e1 : erasedL l p = eraseL l p := by simp [erasedL, h0]
    have hok := ok_erase p hg
    rw [e1]
    refine ⟨by simp [eraseL], fun n hle => ?_⟩
    have hf : fromB 0 (eraseL l p).length n = true := by simp [fromB, eraseL]; omega
    simp [extB, extI, hok, hf, erase_take]

set_option maxRecDepth 100000 in
set_option maxHeartbeats 4000000 in
theorem kept_ok (A : Option Addr) (c : Nat) (l : List E) (t k p d s : Int) (w : World) (hl : Log w A l) (hn : l.length ≤ 60) (hcap : l.length ≤ c) (hg : okB l = true) (hd0 : 0 ≤ d) (hd1 : d < 18446744073709551616) (hs0 : 0 ≤ s) (hs1 : s < 18446744073709551616) :
    Calls Try.prog 12 #[.slice A l.length c, .int .i64 t, .int .i64 k, .int .i64 p, .int .u64 d, .int .u64 s] w fun e w' => e = .returned (.bool true) ∧ Ext w w' := by
  have kx := keeps_write l t k p d s hg hn hd0 hd1 hs0 hs1
  have ky := keeps_erase l p hg hn
  have C1 := Lib.hid (fun A c w hl => write_any A c l t k p d s w hl (by omega))
  have C2 := Lib.hid (fun A c w hl => erase_any A c l p w hl (by omega))
  have e5 : checkI l = 0 := by simp [checkI_eq, hg]
  have C3 := Lib.hid (fun A c w hl => e5 ▸ check_any A c l w hl (by omega))
  have HG := Lib.hid hg
  clear hg e5
  generalize writeL l t k p d s = X at *
  generalize writeI l t k p = e at *
  generalize erasedL l p = Y at *
  generalize erasedN l p = u at *
  generalize knownI l p = f at *
  have HKX := Lib.hid kx.2
  have HKY := Lib.hid ky.2
  have hx61 := kx.1
  have hy61 := ky.1
  clear kx ky
  have hle1 : decide ((60 : Int) < (l.length : Int)) = false := by simp; omega
  have HL := Lib.hid hl
  clear hl
  have he' : (e == 0) = true ∧ (e != 0) = false ∧ ((X.length : Int) == (l.length : Int) + 1) = true ∨ (e == 0) = false ∧ (e != 0) = true ∧ True := by
    by_cases h : e = 0
    · have := (HKX.out h).1
      exact .inl ⟨by simp [h], by simp [h], by simp; omega⟩
    · exact .inr ⟨by simpa using h, by simpa using h, trivial⟩
  have hf' : (f == 0) = true ∧ (f != 0) = false ∧ ((Y.length : Int) == (l.length : Int)) = true ∨ (f == 0) = false ∧ (f != 0) = true ∧ True := by
    by_cases h : f = 0
    · have := (HKY.out h).1
      exact .inl ⟨by simp [h], by simp [h], by simp; omega⟩
    · exact .inr ⟨by simpa using h, by simpa using h, trivial⟩
  rcases he' with ⟨he1, he2, hxl⟩ | ⟨he1, he2, -⟩ <;> rcases hf' with ⟨hf1, hf2, hyl⟩ | ⟨hf1, hf2, -⟩
  · go_enter Try.func12, Try.ntmps12
    go_wp2_with (first | (go_at_call 40; refine Calls.ext (alive_any _) fun z1 => ?_) | (go_at_call 30; refine Calls.ext (C3.out A c _ (HL.out.grow (Ext.ext_self w _))) fun z2 => ?_))
    refine calls_slice2 (C1.out A c _ (HL.out.grow (((Ext.refl w).ext _).ext _))) fun A1 c1 z3 hown1 => ?_
    have HX := Lib.hid (Slc.of_own hown1).log
    have hc1 := cap_own hown1
    clear hown1
    go_wp2_with fail
    refine calls_slice3 (C2.out A c _ (HL.out.grow ((((Ext.refl w).ext _).ext _).ext _))) fun A2 c2 z4 hown2 => ?_
    have HX' := Lib.hid (HX.out.grow (Ext.ext_self _ z4))
    have HY := Lib.hid (Slc.of_own hown2).log
    have hc2 := cap_own hown2
    have HE := Lib.hid (((((Ext.refl w).ext z1).ext z2).ext z3).ext z4)
    clear hown2 HX
    generalize ext (ext (ext (ext w z1) z2) z3) z4 = W at *
    go_wp2_with fail
    go_loopw [60] (fun i wr => ∃ (j : Nat) (z : World), j ≤ l.length + 1 ∧ i = .int .i64 j ∧ wr = ext W z) (fun i _ => l.length + 1 - (intOf i).toNat)
    case atStart => exact ⟨0, W, Nat.zero_le _, rfl, (ext_of (Ext.refl W)).symm⟩
    case round =>
      obtain ⟨j, z, hj, rfl, rfl⟩ := hrel
      by_cases hlt : j < l.length + 1
      · have hjl : j ≤ l.length := by omega
        have hlen : (l.take j).length = j := by simp; omega
        have ht : tipV (l.take j) = .tuple #[.int .u64 (lastE (l.take j)).link, .int .i64 0] := by simp [tipV, ok_take HG.out]
        have C4 := Lib.hid (fun w hl => ht ▸ hlen ▸ tip_any A c (l.take j) w hl (by omega))
        have hX := fun h => (HKX.out h).2 j hjl
        have hY := fun h => (HKY.out h).2 j hjl
        clear ht hlen
        generalize (lastE (l.take j)).link = tl at *
        have C5 := Lib.hid (fun w hl => (extV_eq X j tl) ▸ extends_any A1 c1 X j tl w hl (by omega) hc1)
        have C6 := Lib.hid (fun w hl => (extV_eq Y j tl) ▸ extends_any A2 c2 Y j tl w hl (by omega) hc2)
        have hx1 : (e == 0) = true → extB X j tl = true ∧ (extI X j != 0) = false := fun h => by
          have := hX (by simpa using h); simp [this]
        have hy1 : (f == 0) = true → extB Y j tl = true ∧ (extI Y j != 0) = false := fun h => by
          have := hY (by simpa using h); simp [this]
        obtain ⟨hx2, hx3⟩ := hx1 he1
        obtain ⟨hy2, hy3⟩ := hy1 hf1
        clear hx1 hy1
        clear hX hY
        generalize extB X j tl = b1 at *
        generalize extI X j = i1 at *
        generalize extB Y j tl = b2 at *
        generalize extI Y j = i2 at *
        go_wp2_with fail
        refine Calls.ext (C4.out _ ((HL.out.grow (HE.out.ext z)).take j)) fun z5 => ?_
        go_wp2_with fail
        refine Calls.ext (C5.out _ (HX'.out.grow (((Ext.refl W).ext z).ext z5))) fun z6 => ?_
        go_wp2_with fail
        refine Calls.ext (C6.out _ (HY.out.grow ((((Ext.refl W).ext z).ext z5).ext z6))) fun z7 => ?_
        go_wp2_with fail
        go_roundw
        case rel => exact ⟨j + 1, _, by omega, by go_num, (ext_of (((((Ext.refl W).ext z).ext z5).ext z6).ext z7)).symm⟩
        case measure => simp [intOf]; omega
      · go_wp2_with fail
        go_ret
        exact ⟨rfl, HE.out.ext z⟩
  · go_enter Try.func12, Try.ntmps12
    go_wp2_with (first | (go_at_call 40; refine Calls.ext (alive_any _) fun z1 => ?_) | (go_at_call 30; refine Calls.ext (C3.out A c _ (HL.out.grow (Ext.ext_self w _))) fun z2 => ?_))
    refine calls_slice2 (C1.out A c _ (HL.out.grow (((Ext.refl w).ext _).ext _))) fun A1 c1 z3 hown1 => ?_
    have HX := Lib.hid (Slc.of_own hown1).log
    have hc1 := cap_own hown1
    clear hown1
    go_wp2_with fail
    refine calls_slice3 (C2.out A c _ (HL.out.grow ((((Ext.refl w).ext _).ext _).ext _))) fun A2 c2 z4 hown2 => ?_
    have HX' := Lib.hid (HX.out.grow (Ext.ext_self _ z4))
    have HY := Lib.hid (Slc.of_own hown2).log
    have hc2 := cap_own hown2
    have HE := Lib.hid (((((Ext.refl w).ext z1).ext z2).ext z3).ext z4)
    clear hown2 HX
    generalize ext (ext (ext (ext w z1) z2) z3) z4 = W at *
    go_wp2_with fail
    go_loopw [60] (fun i wr => ∃ (j : Nat) (z : World), j ≤ l.length + 1 ∧ i = .int .i64 j ∧ wr = ext W z) (fun i _ => l.length + 1 - (intOf i).toNat)
    case atStart => exact ⟨0, W, Nat.zero_le _, rfl, (ext_of (Ext.refl W)).symm⟩
    case round =>
      obtain ⟨j, z, hj, rfl, rfl⟩ := hrel
      by_cases hlt : j < l.length + 1
      · have hjl : j ≤ l.length := by omega
        have hlen : (l.take j).length = j := by simp; omega
        have ht : tipV (l.take j) = .tuple #[.int .u64 (lastE (l.take j)).link, .int .i64 0] := by simp [tipV, ok_take HG.out]
        have C4 := Lib.hid (fun w hl => ht ▸ hlen ▸ tip_any A c (l.take j) w hl (by omega))
        have hX := fun h => (HKX.out h).2 j hjl
        have hY := fun h => (HKY.out h).2 j hjl
        clear ht hlen
        generalize (lastE (l.take j)).link = tl at *
        have C5 := Lib.hid (fun w hl => (extV_eq X j tl) ▸ extends_any A1 c1 X j tl w hl (by omega) hc1)
        have C6 := Lib.hid (fun w hl => (extV_eq Y j tl) ▸ extends_any A2 c2 Y j tl w hl (by omega) hc2)
        have hx1 : (e == 0) = true → extB X j tl = true ∧ (extI X j != 0) = false := fun h => by
          have := hX (by simpa using h); simp [this]
        have hy1 : (f == 0) = true → extB Y j tl = true ∧ (extI Y j != 0) = false := fun h => by
          have := hY (by simpa using h); simp [this]
        obtain ⟨hx2, hx3⟩ := hx1 he1
        skip
        clear hx1 hy1
        clear hX hY
        generalize extB X j tl = b1 at *
        generalize extI X j = i1 at *
        generalize extB Y j tl = b2 at *
        generalize extI Y j = i2 at *
        go_wp2_with fail
        refine Calls.ext (C4.out _ ((HL.out.grow (HE.out.ext z)).take j)) fun z5 => ?_
        go_wp2_with fail
        refine Calls.ext (C5.out _ (HX'.out.grow (((Ext.refl W).ext z).ext z5))) fun z6 => ?_
        go_wp2_with fail
        refine Calls.ext (C6.out _ (HY.out.grow ((((Ext.refl W).ext z).ext z5).ext z6))) fun z7 => ?_
        go_wp2_with fail
        go_roundw
        case rel => exact ⟨j + 1, _, by omega, by go_num, (ext_of (((((Ext.refl W).ext z).ext z5).ext z6).ext z7)).symm⟩
        case measure => simp [intOf]; omega
      · go_wp2_with fail
        go_ret
        exact ⟨rfl, HE.out.ext z⟩
  · go_enter Try.func12, Try.ntmps12
    go_wp2_with (first | (go_at_call 40; refine Calls.ext (alive_any _) fun z1 => ?_) | (go_at_call 30; refine Calls.ext (C3.out A c _ (HL.out.grow (Ext.ext_self w _))) fun z2 => ?_))
    refine calls_slice2 (C1.out A c _ (HL.out.grow (((Ext.refl w).ext _).ext _))) fun A1 c1 z3 hown1 => ?_
    have HX := Lib.hid (Slc.of_own hown1).log
    have hc1 := cap_own hown1
    clear hown1
    go_wp2_with fail
    refine calls_slice3 (C2.out A c _ (HL.out.grow ((((Ext.refl w).ext _).ext _).ext _))) fun A2 c2 z4 hown2 => ?_
    have HX' := Lib.hid (HX.out.grow (Ext.ext_self _ z4))
    have HY := Lib.hid (Slc.of_own hown2).log
    have hc2 := cap_own hown2
    have HE := Lib.hid (((((Ext.refl w).ext z1).ext z2).ext z3).ext z4)
    clear hown2 HX
    generalize ext (ext (ext (ext w z1) z2) z3) z4 = W at *
    go_wp2_with fail
    go_loopw [60] (fun i wr => ∃ (j : Nat) (z : World), j ≤ l.length + 1 ∧ i = .int .i64 j ∧ wr = ext W z) (fun i _ => l.length + 1 - (intOf i).toNat)
    case atStart => exact ⟨0, W, Nat.zero_le _, rfl, (ext_of (Ext.refl W)).symm⟩
    case round =>
      obtain ⟨j, z, hj, rfl, rfl⟩ := hrel
      by_cases hlt : j < l.length + 1
      · have hjl : j ≤ l.length := by omega
        have hlen : (l.take j).length = j := by simp; omega
        have ht : tipV (l.take j) = .tuple #[.int .u64 (lastE (l.take j)).link, .int .i64 0] := by simp [tipV, ok_take HG.out]
        have C4 := Lib.hid (fun w hl => ht ▸ hlen ▸ tip_any A c (l.take j) w hl (by omega))
        have hX := fun h => (HKX.out h).2 j hjl
        have hY := fun h => (HKY.out h).2 j hjl
        clear ht hlen
        generalize (lastE (l.take j)).link = tl at *
        have C5 := Lib.hid (fun w hl => (extV_eq X j tl) ▸ extends_any A1 c1 X j tl w hl (by omega) hc1)
        have C6 := Lib.hid (fun w hl => (extV_eq Y j tl) ▸ extends_any A2 c2 Y j tl w hl (by omega) hc2)
        have hx1 : (e == 0) = true → extB X j tl = true ∧ (extI X j != 0) = false := fun h => by
          have := hX (by simpa using h); simp [this]
        have hy1 : (f == 0) = true → extB Y j tl = true ∧ (extI Y j != 0) = false := fun h => by
          have := hY (by simpa using h); simp [this]
        skip
        obtain ⟨hy2, hy3⟩ := hy1 hf1
        clear hx1 hy1
        clear hX hY
        generalize extB X j tl = b1 at *
        generalize extI X j = i1 at *
        generalize extB Y j tl = b2 at *
        generalize extI Y j = i2 at *
        go_wp2_with fail
        refine Calls.ext (C4.out _ ((HL.out.grow (HE.out.ext z)).take j)) fun z5 => ?_
        go_wp2_with fail
        refine Calls.ext (C5.out _ (HX'.out.grow (((Ext.refl W).ext z).ext z5))) fun z6 => ?_
        go_wp2_with fail
        refine Calls.ext (C6.out _ (HY.out.grow ((((Ext.refl W).ext z).ext z5).ext z6))) fun z7 => ?_
        go_wp2_with fail
        go_roundw
        case rel => exact ⟨j + 1, _, by omega, by go_num, (ext_of (((((Ext.refl W).ext z).ext z5).ext z6).ext z7)).symm⟩
        case measure => simp [intOf]; omega
      · go_wp2_with fail
        go_ret
        exact ⟨rfl, HE.out.ext z⟩
  · go_enter Try.func12, Try.ntmps12
    go_wp2_with (first | (go_at_call 40; refine Calls.ext (alive_any _) fun z1 => ?_) | (go_at_call 30; refine Calls.ext (C3.out A c _ (HL.out.grow (Ext.ext_self w _))) fun z2 => ?_))
    refine calls_slice2 (C1.out A c _ (HL.out.grow (((Ext.refl w).ext _).ext _))) fun A1 c1 z3 hown1 => ?_
    have HX := Lib.hid (Slc.of_own hown1).log
    have hc1 := cap_own hown1
    clear hown1
    go_wp2_with fail
    refine calls_slice3 (C2.out A c _ (HL.out.grow ((((Ext.refl w).ext _).ext _).ext _))) fun A2 c2 z4 hown2 => ?_
    have HX' := Lib.hid (HX.out.grow (Ext.ext_self _ z4))
    have HY := Lib.hid (Slc.of_own hown2).log
    have hc2 := cap_own hown2
    have HE := Lib.hid (((((Ext.refl w).ext z1).ext z2).ext z3).ext z4)
    clear hown2 HX
    generalize ext (ext (ext (ext w z1) z2) z3) z4 = W at *
    go_wp2_with fail
    go_loopw [60] (fun i wr => ∃ (j : Nat) (z : World), j ≤ l.length + 1 ∧ i = .int .i64 j ∧ wr = ext W z) (fun i _ => l.length + 1 - (intOf i).toNat)
    case atStart => exact ⟨0, W, Nat.zero_le _, rfl, (ext_of (Ext.refl W)).symm⟩
    case round =>
      obtain ⟨j, z, hj, rfl, rfl⟩ := hrel
      by_cases hlt : j < l.length + 1
      · have hjl : j ≤ l.length := by omega
        have hlen : (l.take j).length = j := by simp; omega
        have ht : tipV (l.take j) = .tuple #[.int .u64 (lastE (l.take j)).link, .int .i64 0] := by simp [tipV, ok_take HG.out]
        have C4 := Lib.hid (fun w hl => ht ▸ hlen ▸ tip_any A c (l.take j) w hl (by omega))
        have hX := fun h => (HKX.out h).2 j hjl
        have hY := fun h => (HKY.out h).2 j hjl
        clear ht hlen
        generalize (lastE (l.take j)).link = tl at *
        have C5 := Lib.hid (fun w hl => (extV_eq X j tl) ▸ extends_any A1 c1 X j tl w hl (by omega) hc1)
        have C6 := Lib.hid (fun w hl => (extV_eq Y j tl) ▸ extends_any A2 c2 Y j tl w hl (by omega) hc2)
        have hx1 : (e == 0) = true → extB X j tl = true ∧ (extI X j != 0) = false := fun h => by
          have := hX (by simpa using h); simp [this]
        have hy1 : (f == 0) = true → extB Y j tl = true ∧ (extI Y j != 0) = false := fun h => by
          have := hY (by simpa using h); simp [this]
        skip
        skip
        clear hx1 hy1
        clear hX hY
        generalize extB X j tl = b1 at *
        generalize extI X j = i1 at *
        generalize extB Y j tl = b2 at *
        generalize extI Y j = i2 at *
        go_wp2_with fail
        refine Calls.ext (C4.out _ ((HL.out.grow (HE.out.ext z)).take j)) fun z5 => ?_
        go_wp2_with fail
        refine Calls.ext (C5.out _ (HX'.out.grow (((Ext.refl W).ext z).ext z5))) fun z6 => ?_
        go_wp2_with fail
        refine Calls.ext (C6.out _ (HY.out.grow ((((Ext.refl W).ext z).ext z5).ext z6))) fun z7 => ?_
        go_wp2_with fail
        go_roundw
        case rel => exact ⟨j + 1, _, by omega, by go_num, (ext_of (((((Ext.refl W).ext z).ext z5).ext z6).ext z7)).symm⟩
        case measure => simp [intOf]; omega
      · go_wp2_with fail
        go_ret
        exact ⟨rfl, HE.out.ext z⟩

set_option maxRecDepth 100000 in
set_option maxHeartbeats 4000000 in
theorem auditKept_walk (A : Option Addr) (c : Nat) (l : List E) (t k p d s : Int) (w : World) (hl : Log w A l) (hcap : l.length ≤ c) (hd0 : 0 ≤ d) (hd1 : d < 18446744073709551616) (hs0 : 0 ≤ s) (hs1 : s < 18446744073709551616) :
    Calls Try.prog 12 #[.slice A l.length c, .int .i64 t, .int .i64 k, .int .i64 p, .int .u64 d, .int .u64 s] w fun e w' => e = .returned (.bool true) ∧ Ext w w' := by
  by_cases hn : l.length ≤ 60
  · cases hg : okB l
    · have e5 : checkI l = 110 := by simp [checkI_eq, hg]
      have C3 := Lib.hid (fun A c w hl => e5 ▸ check_any A c l w hl (by omega))
      have HL := Lib.hid hl
      clear e5 hg hl
      have hle1 : decide ((60 : Int) < (l.length : Int)) = false := by simp; omega
      go_enter Try.func12, Try.ntmps12
      go_wp2_with (first | (go_at_call 40; refine Calls.ext (alive_any _) fun z1 => ?_) | (go_at_call 30; refine Calls.ext (C3.out A c _ (HL.out.grow (Ext.ext_self w _))) fun z2 => ?_))
      go_ret
      exact ⟨rfl, ((Ext.refl w).ext _).ext _⟩
    · exact kept_ok A c l t k p d s w hl hn hcap hg hd0 hd1 hs0 hs1
  · have hgt : (60 : Int) < (l.length : Int) := by omega
    have hgt' : decide ((60 : Int) < (l.length : Int)) = true := by simpa using hgt
    go_enter Try.func12, Try.ntmps12
    go_wp2_with (go_at_call 40; refine Calls.ext (alive_any _) fun z1 => ?_)
    go_ret
    exact ⟨rfl, (Ext.refl w).ext _⟩

set_option maxRecDepth 100000 in
theorem auditKept_lifted (os : Os) (started : os.Started) (H : Type) (enc : TypeId × Value → H) :
    ReturnsInHanded {} Try.checked os 12 .any (Rows.auditKeptSpec.pre6 enc Try.prog Try.f12 Rows.auditKeptRow.domain false) (Rows.auditKeptSpec.post enc Try.prog Try.f12 false true false false) := by
  refine returnsInHanded_of_change (C := Try.checked) own started (by kernel_rfl) Try.func12
    (ChangeSpec.witness6 (enc := enc) (C := Try.checked) false ⟨#[], #[.slice none 0 0, .int .i64 0, .int .i64 0, .int .i64 0, .int .u64 0, .int .u64 0], []⟩ 8 (by kernel_rfl) (by kernel_rfl) (by kernel_rfl) (by kernel_rfl)) ?_
  intro W base args ds gs before hval0 hW hcnd _
  have hval : ∀ (j : Nat) t v, Try.f12.params[j]? = some t → args[j]? = some v → Value.okWide Try.prog W .any base t v := hval0
  have hW' := hW
  obtain ⟨p, q, hA0, hV, rfl, hfz, hnd⟩ := hW
  have hA : DataW.TrodAll enc Try.prog W 0 (fun _ => true) true Try.f12.params.toList args.toList ds p := hA0
  rw [Try.params12] at hA hval
  obtain ⟨v0, vs0, d0, ds0, p0, q0, hargs, rfl, rfl, h0, r0⟩ := trodAll_cons hA
  obtain ⟨v1, vs1, d1, ds1, p1, q1, rfl, rfl, rfl, h1, r1⟩ := trodAll_cons r0
  obtain ⟨v2, vs2, d2, ds2, p2, q2, rfl, rfl, rfl, h2, r2⟩ := trodAll_cons r1
  obtain ⟨v3, vs3, d3, ds3, p3, q3, rfl, rfl, rfl, h3, r3⟩ := trodAll_cons r2
  obtain ⟨v4, vs4, d4, ds4, p4, q4, rfl, rfl, rfl, h4, r4⟩ := trodAll_cons r3
  obtain ⟨v5, vs5, d5, ds5, p5, q5, rfl, rfl, rfl, h5, r5⟩ := trodAll_cons r4
  obtain ⟨rfl, rfl, rfl⟩ := trodAll_nil r5
  obtain rfl : args = #[v0, v1, v2, v3, v4, v5] := by cases args; simp_all
  obtain ⟨rfl, rfl⟩ := trodVars_none hV
  have k0 := h0
  have lt0 : ∀ x ∈ p0, x.block < W.heap.size := by obtain ⟨m, hm⟩ := k0; exact DataW.trod_lt m _ _ _ hm
  obtain ⟨A0, rows0, cap0, rfl, hlc0, hcm0, hwf0, hrow0⟩ := open_rows (ks := [.i64, .i64, .i64, .u64, .u64, .u64, .u64]) Try.underlying39 Try.underlying54 (by kernel_rfl) (by kernel_rfl) (kindsOf_of (by kernel_rfl)) (by decide) (hval 0 39 v0 rfl rfl) h0
  have k1 := h1
  have lt1 : ∀ x ∈ p1, x.block < W.heap.size := by obtain ⟨m, hm⟩ := k1; exact DataW.trod_lt m _ _ _ hm
  obtain ⟨a1, rfl, _, _, w1⟩ := open_int Try.underlying3 (hval 1 3 v1 rfl rfl) h1
  have k2 := h2
  have lt2 : ∀ x ∈ p2, x.block < W.heap.size := by obtain ⟨m, hm⟩ := k2; exact DataW.trod_lt m _ _ _ hm
  obtain ⟨a2, rfl, _, _, w2⟩ := open_int Try.underlying3 (hval 2 3 v2 rfl rfl) h2
  have k3 := h3
  have lt3 : ∀ x ∈ p3, x.block < W.heap.size := by obtain ⟨m, hm⟩ := k3; exact DataW.trod_lt m _ _ _ hm
  obtain ⟨a3, rfl, _, _, w3⟩ := open_int Try.underlying3 (hval 3 3 v3 rfl rfl) h3
  have k4 := h4
  have lt4 : ∀ x ∈ p4, x.block < W.heap.size := by obtain ⟨m, hm⟩ := k4; exact DataW.trod_lt m _ _ _ hm
  obtain ⟨a4, rfl, _, _, w4⟩ := open_int Try.underlying24 (hval 4 24 v4 rfl rfl) h4
  have k5 := h5
  have lt5 : ∀ x ∈ p5, x.block < W.heap.size := by obtain ⟨m, hm⟩ := k5; exact DataW.trod_lt m _ _ _ hm
  obtain ⟨a5, rfl, _, _, w5⟩ := open_int Try.underlying24 (hval 5 24 v5 rfl rfl) h5
  clear hA0 hval0
  obtain ⟨l, hle, hlog, hfit, hcap⟩ := log_of_rows hwf0 hrow0 hlc0
  have x4 := wf_u64 w4
  have x5 := wf_u64 w5
  refine (hle ▸ auditKept_walk A0 cap0 l a1 a2 a3 a4 a5 W hlog hcap x4.1 x4.2 x5.1 x5.2).mono fun e W' ⟨he, bel⟩ => ?_
  subst he
  exact ⟨_, rfl, _, _, _, [], _, [], hW', trodAll_mk1 (shut_bool Try.underlying4 _), (trodAll_cons_mk (Below.trod laidOut (by kernel_rfl) (of_decide_eq_true (by kernel_rfl)) k0 bel lt0) (trodAll_cons_mk (Below.trod laidOut (by kernel_rfl) (of_decide_eq_true (by kernel_rfl)) k1 bel lt1) (trodAll_cons_mk (Below.trod laidOut (by kernel_rfl) (of_decide_eq_true (by kernel_rfl)) k2 bel lt2) (trodAll_cons_mk (Below.trod laidOut (by kernel_rfl) (of_decide_eq_true (by kernel_rfl)) k3 bel lt3) (trodAll_cons_mk (Below.trod laidOut (by kernel_rfl) (of_decide_eq_true (by kernel_rfl)) k4 bel lt4) (trodAll_cons_mk (Below.trod laidOut (by kernel_rfl) (of_decide_eq_true (by kernel_rfl)) k5 bel lt5) trodAll_mk0)))))), rfl, Below.frame bel _, fun h => by cases h⟩

theorem auditKept_holds : Rows.AuditKeptSaid :=
  OpenClaim.holds_of_wide 12 Try.f12 rfl rfl rfl rfl rfl rfl rfl ⟨rfl, rfl, rfl, rfl, rfl⟩ rfl rfl rfl rfl rfl (by kernel_rfl) Try.func12 (by kernel_rfl)
    (of_decide_eq_true (by kernel_rfl)) (by unfold Func.isWrapper; first | (rw [if_pos (by decide +kernel)]; kernel_rfl) | (rw [if_neg (by decide +kernel)]; exact ⟨rfl, rfl⟩))
    (fun os started H enc _ => auditKept_lifted os started H enc)
end Go.Proofs.Ytkhmjkhgmggjcaa
