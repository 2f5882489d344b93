/- The exported functions on keys. -/
import Derived.Test.YtfdcapblgdlkaaaComposed
import Derived.Test.YtfdcapblgdlkaaaViews
namespace Go.Proofs.Ytfdcapblgdlkaaa
open Go.RowKit

theorem results_cell_tmp {P : Program} {fn : Func} {p q : Tmp} {ty : TypeId} (h : fn.results = #[.cell p ty, .tmp q]) (tmps : Array Value) (w : World) (g : Nat) (t : TypeId) (cs : Array Value) (fr : Nat × Nat) (d : TypeDesc)
    (hp : tmps.getD p undef = .pointer (some ⟨g, 0, none⟩)) (hg : w.heap[g]? = some (.cells cs t fr))
    (hu : P.underlying ty = some d) (hd : (match d with | .struct _ | .array _ _ => true | _ => false) = true) (hi : (P.info? ty).map (·.size) = some cs.size) :
    (results fn tmps).run P w = .ok (.tuple #[.agg cs, tmps.getD q undef]) w := by
  have hp' : tmps[p]?.getD undef = .pointer (some ⟨g, 0, none⟩) := by simpa using hp
  simp [results, h, hp', asAddr, run_loadVar_row w g t ty cs fr d hg hu hd hi]
theorem ok_split {k : K} (h : okK k = true) : ∃ (n p : Nat) (pad : BitVec 16), k = ⟨n, p, pad⟩ ∧ (1 ≤ n ∧ n ≤ 15) ∧ p < factN n ∧ fitB n pad = true := by
  obtain ⟨bits, perm, pad⟩ := k
  obtain ⟨h1, h2, h3⟩ := ok_parts h
  simp only at h1 h2 h3
  obtain ⟨n, rfl⟩ := Int.eq_ofNat_of_zero_le (show 0 ≤ bits by omega)
  obtain ⟨p, rfl⟩ := Int.eq_ofNat_of_zero_le (show 0 ≤ perm by omega)
  simp only [Int.toNat_natCast] at *
  exact ⟨n, p, pad, rfl, by omega, by omega, by simpa [fitB] using h3⟩
def K.n (k : K) : Nat := k.bits.toNat
def K.p (k : K) : Nat := k.perm.toNat
def askV (k : K) (x : BitVec 16) : Int := if okK k then (if fitB k.n x then 0 else 2) else 60
def bothV (a b : K) : Int := if okK a && okK b then (if a.bits = b.bits then 0 else 2) else 60
def zeroK : K := ⟨0, 0, 0#16⟩
def hideX (k : K) (x : BitVec 16) : BitVec 16 := if askV k x = 0 then hidW k.n k.p k.pad x else 0#16
def showX (k : K) (x : BitVec 16) : BitVec 16 := if askV k x = 0 then perW (inv (ordN k.n k.p)) (x ^^^ k.pad) else 0#16
def compX (a b : K) : K := if bothV a b = 0 then comK a.n a.p a.pad b.p b.pad else zeroK
def invX (a : K) : K := if okK a then invK a.n a.p a.pad else zeroK
def renX (a b : K) : K := if bothV a b = 0 then comK a.n (num (inv (ordN a.n a.p))) (perW (inv (ordN a.n a.p)) a.pad) b.p b.pad else zeroK
theorem chk_false {k : K} (h : okK k = false) : chkK k = 60 := by unfold chkK; rw [h]; rfl
theorem chk_true {k : K} (h : okK k = true) : chkK k = 0 := by unfold chkK; rw [h]; rfl
theorem ask_false {k : K} {x : BitVec 16} (h : okK k = false) : askV k x = 60 := by unfold askV; rw [h]; rfl
theorem ask_nofit {k : K} {x : BitVec 16} (h : okK k = true) (hf : fitB k.n x = false) : askV k x = 2 := by unfold askV; rw [h, hf]; rfl
theorem ask_fit {k : K} {x : BitVec 16} (h : okK k = true) (hf : fitB k.n x = true) : askV k x = 0 := by unfold askV; rw [h, hf]; rfl
theorem both_a {a b : K} (h : okK a = false) : bothV a b = 60 := by unfold bothV; rw [h]; rfl
theorem both_b {a b : K} (h : okK b = false) : bothV a b = 60 := by unfold bothV; rw [h, Bool.and_false]; rfl
theorem both_ne {a b : K} (ha : okK a = true) (hb : okK b = true) (h : a.bits ≠ b.bits) : bothV a b = 2 := by unfold bothV; rw [ha, hb]; simp [h]
theorem both_ok {a b : K} (ha : okK a = true) (hb : okK b = true) (h : a.bits = b.bits) : bothV a b = 0 := by unfold bothV; rw [ha, hb]; simp [h]
theorem both_split {a b : K} (h : bothV a b = 0) : okK a = true ∧ okK b = true ∧ a.bits = b.bits := by
  cases ha : okK a
  · rw [both_a ha] at h; cases h
  · cases hb : okK b
    · rw [both_b hb] at h; cases h
    · by_cases he : a.bits = b.bits
      · exact ⟨rfl, rfl, he⟩
      · rw [both_ne ha hb he] at h; cases h
theorem ok_inv {n p : Nat} {pad : BitVec 16} (hn : 1 ≤ n ∧ n ≤ 15) (hp : p < factN n) : okK (invK n p pad) = true := by
  have hip := inv_perm (ordN_len n p) (ordN_perm hp)
  have h1 := num_lt' hip
  have h2 := fit_perW (inv (ordN n p)) pad
  rw [inv_len, ordN_len] at h2
  unfold okK invK
  simp only [Int.toNat_natCast, h2, Bool.and_true, inB, Bool.and_eq_true, decide_eq_true_eq]
  omega
theorem ok_com {n p p' : Nat} {pad pad' : BitVec 16} (hn : 1 ≤ n ∧ n ≤ 15) (hp : p < factN n) (hp' : p' < factN n) (hf : fitB n pad' = true) : okK (comK n p pad p' pad') = true := by
  have hip := compL_perm (ordN_perm hp) (ordN_perm hp')
  have h1 := num_lt' hip
  have h2 := fit_hidW (n := n) (p := p') (x := pad) hf
  unfold okK comK
  simp only [Int.toNat_natCast, h2, Bool.and_true, inB, Bool.and_eq_true, decide_eq_true_eq]
  omega
set_option maxRecDepth 100000 in
set_option maxHeartbeats 2000000 in
theorem chk2_any (k : K) (x : BitVec 16) (w : World) : Calls Try.prog 71 #[k.val, .int .u16 (uv x)] w fun e w' => e = .returned (.int .i64 (askV k x)) ∧ Ext w w' := by
  cases hk : okK k
  · have HV := Lib.hid (ask_false (x := x) hk)
    have C1 := Lib.hid (fun w => chk_false hk ▸ check_any k w)
    go_enter Try.func71, Try.ntmps71
    go_wp2_with (first | (go_at_call 30; refine Calls.ext (C1.out _) fun z => ?_))
    go_ret
    refine ⟨ret_of (by rw [HV.out]; rfl), ?_⟩
    repeat' (first | with_reducible exact Ext.refl _ | with_reducible refine Ext.alloc ?_ _ | with_reducible refine Ext.ext ?_ _ | with_reducible refine Ext.drew ?_)
  · obtain ⟨n, p, pad, rfl, hn, hp, hf⟩ := ok_split hk
    have hn2 : (n : Int) ≤ 15 := by omega
    have hn64 : (n : Int) < 64 := by omega
    have hn0 : (0 : Int) ≤ (n : Int) := by omega
    have hx2 := uv_lt x
    have C1 := Lib.hid (fun w => chk_true hk ▸ check_any ⟨n, p, pad⟩ w)
    have hs := shl_i64 n hn.2
    cases hx : fitB n x
    · have HV := Lib.hid (ask_nofit hk (show fitB (K.mk n p pad).n x = false from hx))
      have fx := fit_ge hx
      generalize 2 ^ n = N at *
      have bx : decide ((N : Int) ≤ uv x) = true := by simp; omega
      clear hk
      go_enter Try.func71, Try.ntmps71
      go_wp2_with (first | (go_at_call 30; refine Calls.ext (C1.out _) fun z => ?_))
      go_ret
      refine ⟨ret_of (by rw [HV.out]; rfl), ?_⟩
      repeat' (first | with_reducible exact Ext.refl _ | with_reducible refine Ext.alloc ?_ _ | with_reducible refine Ext.ext ?_ _ | with_reducible refine Ext.drew ?_)
    · have HV := Lib.hid (ask_fit hk (show fitB (K.mk n p pad).n x = true from hx))
      have fx := fit_lt hx
      generalize 2 ^ n = N at *
      have bx : decide ((N : Int) ≤ uv x) = false := by simp; omega
      clear hk
      go_enter Try.func71, Try.ntmps71
      go_wp2_with (first | (go_at_call 30; refine Calls.ext (C1.out _) fun z => ?_))
      go_ret
      refine ⟨ret_of (by rw [HV.out]; rfl), ?_⟩
      repeat' (first | with_reducible exact Ext.refl _ | with_reducible refine Ext.alloc ?_ _ | with_reducible refine Ext.ext ?_ _ | with_reducible refine Ext.drew ?_)
set_option maxRecDepth 100000 in
set_option maxHeartbeats 2000000 in
theorem asked_any (k : K) (x : BitVec 16) (w : World) : Calls Try.prog 72 #[k.val, .int .u16 (uv x)] w fun e w' => e = .returned (.int .i64 (askV k x)) ∧ Ext w w' := by
  cases hk : okK k
  · have HV := Lib.hid (ask_false (x := x) hk)
    have C1 := Lib.hid (fun w => hk ▸ refValid_any k w)
    go_enter Try.func72, Try.ntmps72
    go_wp2_with (first | (go_at_call 46; refine Calls.ext (C1.out _) fun z => ?_))
    go_ret
    refine ⟨ret_of (by rw [HV.out]; rfl), ?_⟩
    repeat' (first | with_reducible exact Ext.refl _ | with_reducible refine Ext.alloc ?_ _ | with_reducible refine Ext.ext ?_ _ | with_reducible refine Ext.drew ?_)
  · obtain ⟨n, p, pad, rfl, hn, hp, hf⟩ := ok_split hk
    have hn2 : (n : Int) ≤ 15 := by omega
    have hn64 : (n : Int) < 64 := by omega
    have hn0 : (0 : Int) ≤ (n : Int) := by omega
    have hx2 := uv_lt x
    have C1 := Lib.hid (fun w => hk ▸ refValid_any ⟨n, p, pad⟩ w)
    cases hx : fitB n x
    · have HV := Lib.hid (ask_nofit hk (show fitB (K.mk n p pad).n x = false from hx))
      have C2 := Lib.hid (fun w => hx ▸ fits_any n hn.2 x w)
      clear hk
      go_enter Try.func72, Try.ntmps72
      go_wp2_with (first | (go_at_call 46; refine Calls.ext (C1.out _) fun z => ?_) | (go_at_call 44; refine Calls.same (C2.out _) ?_))
      go_ret
      refine ⟨ret_of (by rw [HV.out]; rfl), ?_⟩
      repeat' (first | with_reducible exact Ext.refl _ | with_reducible refine Ext.alloc ?_ _ | with_reducible refine Ext.ext ?_ _ | with_reducible refine Ext.drew ?_)
    · have HV := Lib.hid (ask_fit hk (show fitB (K.mk n p pad).n x = true from hx))
      have C2 := Lib.hid (fun w => hx ▸ fits_any n hn.2 x w)
      clear hk
      go_enter Try.func72, Try.ntmps72
      go_wp2_with (first | (go_at_call 46; refine Calls.ext (C1.out _) fun z => ?_) | (go_at_call 44; refine Calls.same (C2.out _) ?_))
      go_ret
      refine ⟨ret_of (by rw [HV.out]; rfl), ?_⟩
      repeat' (first | with_reducible exact Ext.refl _ | with_reducible refine Ext.alloc ?_ _ | with_reducible refine Ext.ext ?_ _ | with_reducible refine Ext.drew ?_)
set_option maxRecDepth 100000 in
set_option maxHeartbeats 2000000 in
theorem both_any (a b : K) (w : World) : Calls Try.prog 75 #[a.val, b.val] w fun e w' => e = .returned (.int .i64 (bothV a b)) ∧ Ext w w' := by
  cases ha : okK a
  · have HV := Lib.hid (both_a (b := b) ha)
    have C1 := Lib.hid (fun w => chk_false ha ▸ check_any a w)
    clear ha
    go_enter Try.func75, Try.ntmps75
    go_wp2_with (first | (go_at_call 30; refine Calls.ext (C1.out _) fun z => ?_))
    go_ret
    refine ⟨ret_of (by rw [HV.out]; rfl), ?_⟩
    repeat' (first | with_reducible exact Ext.refl _ | with_reducible refine Ext.alloc ?_ _ | with_reducible refine Ext.ext ?_ _ | with_reducible refine Ext.drew ?_)
  · have C1 := Lib.hid (fun w => chk_true ha ▸ check_any a w)
    cases hb : okK b
    · have HV := Lib.hid (both_b (a := a) hb)
      have C2 := Lib.hid (fun w => chk_false hb ▸ check_any b w)
      clear ha hb
      go_enter Try.func75, Try.ntmps75
      go_wp2_with fail
      refine Calls.ext (C1.out _) fun z => ?_
      go_wp2_with fail
      refine Calls.ext (C2.out _) fun z2 => ?_
      go_wp2_with fail
      go_ret
      refine ⟨ret_of (by rw [HV.out]; rfl), ?_⟩
      repeat' (first | with_reducible exact Ext.refl _ | with_reducible refine Ext.alloc ?_ _ | with_reducible refine Ext.ext ?_ _ | with_reducible refine Ext.drew ?_)
    · have C2 := Lib.hid (fun w => chk_true hb ▸ check_any b w)
      by_cases he : a.bits = b.bits
      · have HV := Lib.hid (both_ok ha hb he)
        have he2 : (a.bits == b.bits) = true := by simpa using he
        clear ha hb he
        go_enter Try.func75, Try.ntmps75
        go_wp2_with fail
        refine Calls.ext (C1.out _) fun z => ?_
        go_wp2_with fail
        refine Calls.ext (C2.out _) fun z2 => ?_
        go_wp2_with fail
        go_ret
        refine ⟨ret_of (by rw [HV.out]; rfl), ?_⟩
        repeat' (first | with_reducible exact Ext.refl _ | with_reducible refine Ext.alloc ?_ _ | with_reducible refine Ext.ext ?_ _ | with_reducible refine Ext.drew ?_)
      · have HV := Lib.hid (both_ne ha hb he)
        have he2 : (a.bits == b.bits) = false := by simpa using he
        clear ha hb he
        go_enter Try.func75, Try.ntmps75
        go_wp2_with fail
        refine Calls.ext (C1.out _) fun z => ?_
        go_wp2_with fail
        refine Calls.ext (C2.out _) fun z2 => ?_
        go_wp2_with fail
        go_ret
        refine ⟨ret_of (by rw [HV.out]; rfl), ?_⟩
        repeat' (first | with_reducible exact Ext.refl _ | with_reducible refine Ext.alloc ?_ _ | with_reducible refine Ext.ext ?_ _ | with_reducible refine Ext.drew ?_)
set_option maxRecDepth 100000 in
set_option maxHeartbeats 2000000 in
theorem refBoth_any (a b : K) (w : World) : Calls Try.prog 77 #[a.val, b.val] w fun e w' => e = .returned (.int .i64 (bothV a b)) ∧ Ext w w' := by
  cases ha : okK a
  · have HV := Lib.hid (both_a (b := b) ha)
    have C1 := Lib.hid (fun w => ha ▸ refValid_any a w)
    clear ha
    go_enter Try.func77, Try.ntmps77
    go_wp2_with (first | (go_at_call 46; refine Calls.ext (C1.out _) fun z => ?_))
    go_ret
    refine ⟨ret_of (by rw [HV.out]; rfl), ?_⟩
    repeat' (first | with_reducible exact Ext.refl _ | with_reducible refine Ext.alloc ?_ _ | with_reducible refine Ext.ext ?_ _ | with_reducible refine Ext.drew ?_)
  · have C1 := Lib.hid (fun w => ha ▸ refValid_any a w)
    cases hb : okK b
    · have HV := Lib.hid (both_b (a := a) hb)
      have C2 := Lib.hid (fun w => hb ▸ refValid_any b w)
      clear ha hb
      go_enter Try.func77, Try.ntmps77
      go_wp2_with fail
      refine Calls.ext (C1.out _) fun z => ?_
      go_wp2_with fail
      refine Calls.ext (C2.out _) fun z2 => ?_
      go_wp2_with fail
      go_ret
      refine ⟨ret_of (by rw [HV.out]; rfl), ?_⟩
      repeat' (first | with_reducible exact Ext.refl _ | with_reducible refine Ext.alloc ?_ _ | with_reducible refine Ext.ext ?_ _ | with_reducible refine Ext.drew ?_)
    · have C2 := Lib.hid (fun w => hb ▸ refValid_any b w)
      by_cases he : a.bits = b.bits
      · have HV := Lib.hid (both_ok ha hb he)
        have he2 : (a.bits == b.bits) = true := by simpa using he
        clear ha hb he
        go_enter Try.func77, Try.ntmps77
        go_wp2_with fail
        refine Calls.ext (C1.out _) fun z => ?_
        go_wp2_with fail
        refine Calls.ext (C2.out _) fun z2 => ?_
        go_wp2_with fail
        go_ret
        refine ⟨ret_of (by rw [HV.out]; rfl), ?_⟩
        repeat' (first | with_reducible exact Ext.refl _ | with_reducible refine Ext.alloc ?_ _ | with_reducible refine Ext.ext ?_ _ | with_reducible refine Ext.drew ?_)
      · have HV := Lib.hid (both_ne ha hb he)
        have he2 : (a.bits == b.bits) = false := by simpa using he
        clear ha hb he
        go_enter Try.func77, Try.ntmps77
        go_wp2_with fail
        refine Calls.ext (C1.out _) fun z => ?_
        go_wp2_with fail
        refine Calls.ext (C2.out _) fun z2 => ?_
        go_wp2_with fail
        go_ret
        refine ⟨ret_of (by rw [HV.out]; rfl), ?_⟩
        repeat' (first | with_reducible exact Ext.refl _ | with_reducible refine Ext.alloc ?_ _ | with_reducible refine Ext.ext ?_ _ | with_reducible refine Ext.drew ?_)
set_option maxRecDepth 100000 in
set_option maxHeartbeats 2000000 in
theorem Hide_any (k : K) (x : BitVec 16) (w : World) : Calls Try.prog 32 #[k.val, .int .u16 (uv x)] w fun e w' => e = .returned (.tuple #[.int .u16 (uv (hideX k x)), .int .i64 (askV k x)]) ∧ Ext w w' := by
  by_cases h0 : askV k x = 0
  · have hk : okK k = true := by
      cases hk : okK k
      · rw [ask_false hk] at h0; cases h0
      · rfl
    have c1 := chk2_any k x
    rw [h0] at c1
    have C1 := Lib.hid c1
    clear c1
    obtain ⟨n, p, pad, rfl, hn, hp, hf⟩ := ok_split hk
    have HV := Lib.hid (show hideX ⟨n, p, pad⟩ x = hidW n p pad x by unfold hideX; rw [if_pos h0]; rfl)
    have HV2 := Lib.hid h0
    have D0 := Lib.hid (hide_any n p pad x hn hp)
    clear h0 hk hf
    go_enter Try.func32, Try.ntmps32
    go_wp2_with (first | (go_at_call 71; refine Calls.ext (C1.out _) fun z => ?_) | (go_at_call 55; refine Calls.ext (D0.out _) fun z => ?_))
    go_ret2
    refine ⟨ret_of (by rw [HV.out, HV2.out]; rfl), ?_⟩
    repeat' (first | with_reducible exact Ext.refl _ | with_reducible refine Ext.alloc ?_ _ | with_reducible refine Ext.ext ?_ _ | with_reducible refine Ext.drew ?_)
  · have C1 := Lib.hid (chk2_any k x)
    have HV := Lib.hid (show hideX k x = 0#16 by unfold hideX; rw [if_neg h0])
    have hz := uv_zero
    have h2 : (askV k x == 0) = false := by simpa using h0
    generalize askV k x = v at *
    clear h0
    go_enter Try.func32, Try.ntmps32
    go_wp2_with (first | (go_at_call 71; refine Calls.ext (C1.out _) fun z => ?_))
    go_ret2
    refine ⟨ret_of (by rw [HV.out]; rfl), ?_⟩
    repeat' (first | with_reducible exact Ext.refl _ | with_reducible refine Ext.alloc ?_ _ | with_reducible refine Ext.ext ?_ _ | with_reducible refine Ext.drew ?_)
set_option maxRecDepth 100000 in
set_option maxHeartbeats 2000000 in
theorem refHide_any (k : K) (x : BitVec 16) (w : World) : Calls Try.prog 33 #[k.val, .int .u16 (uv x)] w fun e w' => e = .returned (.tuple #[.int .u16 (uv (hideX k x)), .int .i64 (askV k x)]) ∧ Ext w w' := by
  by_cases h0 : askV k x = 0
  · have hk : okK k = true := by
      cases hk : okK k
      · rw [ask_false hk] at h0; cases h0
      · rfl
    have c1 := asked_any k x
    rw [h0] at c1
    have C1 := Lib.hid c1
    clear c1
    obtain ⟨n, p, pad, rfl, hn, hp, hf⟩ := ok_split hk
    have HV := Lib.hid (show hideX ⟨n, p, pad⟩ x = hidW n p pad x by unfold hideX; rw [if_pos h0]; rfl)
    have HV2 := Lib.hid h0
    have D0 := Lib.hid (hidden_any n p pad x hn hp)
    clear h0 hk hf
    go_enter Try.func33, Try.ntmps33
    go_wp2_with (first | (go_at_call 72; refine Calls.ext (C1.out _) fun z => ?_) | (go_at_call 57; refine Calls.ext (D0.out _) fun z => ?_))
    go_ret2
    refine ⟨ret_of (by rw [HV.out, HV2.out]; rfl), ?_⟩
    repeat' (first | with_reducible exact Ext.refl _ | with_reducible refine Ext.alloc ?_ _ | with_reducible refine Ext.ext ?_ _ | with_reducible refine Ext.drew ?_)
  · have C1 := Lib.hid (asked_any k x)
    have HV := Lib.hid (show hideX k x = 0#16 by unfold hideX; rw [if_neg h0])
    have hz := uv_zero
    have h2 : (askV k x == 0) = false := by simpa using h0
    generalize askV k x = v at *
    clear h0
    go_enter Try.func33, Try.ntmps33
    go_wp2_with (first | (go_at_call 72; refine Calls.ext (C1.out _) fun z => ?_))
    go_ret2
    refine ⟨ret_of (by rw [HV.out]; rfl), ?_⟩
    repeat' (first | with_reducible exact Ext.refl _ | with_reducible refine Ext.alloc ?_ _ | with_reducible refine Ext.ext ?_ _ | with_reducible refine Ext.drew ?_)
theorem perW_xor (l : List Nat) (x y : BitVec 16) : perW l (x ^^^ y) = perW l x ^^^ perW l y := by
  apply BitVec.eq_of_getLsbD_eq
  intro i hi
  rw [perW_at _ _ _ hi, BitVec.getLsbD_xor, BitVec.getLsbD_xor, perW_at _ _ _ hi, perW_at _ _ _ hi]
  cases decide (i < l.length) <;> simp
theorem hid_inv {n p : Nat} (hp : p < factN n) (pad x : BitVec 16) : hidW n (num (inv (ordN n p))) (perW (inv (ordN n p)) pad) x = perW (inv (ordN n p)) (x ^^^ pad) := by
  rw [hidW, ord_num (inv_perm (ordN_len n p) (ordN_perm hp)), perW_xor]
set_option maxRecDepth 100000 in
set_option maxHeartbeats 2000000 in
theorem Show_any (k : K) (x : BitVec 16) (w : World) : Calls Try.prog 34 #[k.val, .int .u16 (uv x)] w fun e w' => e = .returned (.tuple #[.int .u16 (uv (showX k x)), .int .i64 (askV k x)]) ∧ Ext w w' := by
  by_cases h0 : askV k x = 0
  · have hk : okK k = true := by
      cases hk : okK k
      · rw [ask_false hk] at h0; cases h0
      · rfl
    have c1 := chk2_any k x
    rw [h0] at c1
    have C1 := Lib.hid c1
    clear c1
    obtain ⟨n, p, pad, rfl, hn, hp, hf⟩ := ok_split hk
    have HV := Lib.hid (show showX ⟨n, p, pad⟩ x = hidW n (num (inv (ordN n p))) (perW (inv (ordN n p)) pad) x by unfold showX; rw [if_pos h0]; exact (hid_inv hp pad x).symm)
    have HV2 := Lib.hid h0
    have D0 := Lib.hid (invert_any n p pad hn hp)
    have D1 := Lib.hid (hide_any n (num (inv (ordN n p))) (perW (inv (ordN n p)) pad) x hn (num_lt' (inv_perm (ordN_len n p) (ordN_perm hp))))
    clear h0 hk hf
    go_enter Try.func34, Try.ntmps34
    go_wp2_with (first | (go_at_call 71; refine Calls.ext (C1.out _) fun z => ?_) | (go_at_call 73; refine Calls.ext (D0.out _) fun z => ?_) | (go_at_call 55; refine Calls.ext (D1.out _) fun z => ?_))
    go_ret2
    refine ⟨ret_of (by rw [HV.out, HV2.out]; rfl), ?_⟩
    repeat' (first | with_reducible exact Ext.refl _ | with_reducible refine Ext.alloc ?_ _ | with_reducible refine Ext.ext ?_ _ | with_reducible refine Ext.drew ?_)
  · have C1 := Lib.hid (chk2_any k x)
    have HV := Lib.hid (show showX k x = 0#16 by unfold showX; rw [if_neg h0])
    have hz := uv_zero
    have h2 : (askV k x == 0) = false := by simpa using h0
    generalize askV k x = v at *
    clear h0
    go_enter Try.func34, Try.ntmps34
    go_wp2_with (first | (go_at_call 71; refine Calls.ext (C1.out _) fun z => ?_))
    go_ret2
    refine ⟨ret_of (by rw [HV.out]; rfl), ?_⟩
    repeat' (first | with_reducible exact Ext.refl _ | with_reducible refine Ext.alloc ?_ _ | with_reducible refine Ext.ext ?_ _ | with_reducible refine Ext.drew ?_)
set_option maxRecDepth 100000 in
set_option maxHeartbeats 2000000 in
theorem refShow_any (k : K) (x : BitVec 16) (w : World) : Calls Try.prog 35 #[k.val, .int .u16 (uv x)] w fun e w' => e = .returned (.tuple #[.int .u16 (uv (showX k x)), .int .i64 (askV k x)]) ∧ Ext w w' := by
  by_cases h0 : askV k x = 0
  · have hk : okK k = true := by
      cases hk : okK k
      · rw [ask_false hk] at h0; cases h0
      · rfl
    have c1 := asked_any k x
    rw [h0] at c1
    have C1 := Lib.hid c1
    clear c1
    obtain ⟨n, p, pad, rfl, hn, hp, hf⟩ := ok_split hk
    have HV := Lib.hid (show showX ⟨n, p, pad⟩ x = perW (inv (ordN n p)) (x ^^^ pad) by unfold showX; rw [if_pos h0]; rfl)
    have HV2 := Lib.hid h0
    have D0 := Lib.hid (shown_any n p pad x hn hp)
    clear h0 hk hf
    go_enter Try.func35, Try.ntmps35
    go_wp2_with (first | (go_at_call 72; refine Calls.ext (C1.out _) fun z => ?_) | (go_at_call 74; refine Calls.ext (D0.out _) fun z => ?_))
    go_ret2
    refine ⟨ret_of (by rw [HV.out, HV2.out]; rfl), ?_⟩
    repeat' (first | with_reducible exact Ext.refl _ | with_reducible refine Ext.alloc ?_ _ | with_reducible refine Ext.ext ?_ _ | with_reducible refine Ext.drew ?_)
  · have C1 := Lib.hid (asked_any k x)
    have HV := Lib.hid (show showX k x = 0#16 by unfold showX; rw [if_neg h0])
    have hz := uv_zero
    have h2 : (askV k x == 0) = false := by simpa using h0
    generalize askV k x = v at *
    clear h0
    go_enter Try.func35, Try.ntmps35
    go_wp2_with (first | (go_at_call 72; refine Calls.ext (C1.out _) fun z => ?_))
    go_ret2
    refine ⟨ret_of (by rw [HV.out]; rfl), ?_⟩
    repeat' (first | with_reducible exact Ext.refl _ | with_reducible refine Ext.alloc ?_ _ | with_reducible refine Ext.ext ?_ _ | with_reducible refine Ext.drew ?_)
set_option maxRecDepth 100000 in
set_option maxHeartbeats 2000000 in
theorem Compose_any (a b : K) (w : World) : Calls Try.prog 36 #[a.val, b.val] w fun e w' => e = .returned (.tuple #[(compX a b).val, .int .i64 (bothV a b)]) ∧ Ext w w' := by
  have hr1 : w.heap.size ≤ w.heap.size + 1 + 1 := by omega
  by_cases h0 : bothV a b = 0
  · obtain ⟨ha, hb, he⟩ := both_split h0
    obtain ⟨n, p, pad, rfl, hn, hp, hf⟩ := ok_split ha
    obtain ⟨n', p', pad', rfl, hn', hp', hf'⟩ := ok_split hb
    obtain rfl : n = n' := by simp only at he; omega
    have c1 := both_any ⟨n, p, pad⟩ ⟨n, p', pad'⟩
    rw [h0] at c1
    have C1 := Lib.hid c1
    clear c1
    have HV := Lib.hid (show compX ⟨n, p, pad⟩ ⟨n, p', pad'⟩ = comK n p pad p' pad' by unfold compX; rw [if_pos h0]; rfl)
    have HV2 := Lib.hid h0
    have D0 := Lib.hid (compose_any n p pad p' pad' hn hp hp')
    generalize comK n p pad p' pad' = kk at *
    have HR := Lib.hid (Blk.new' ((w.alloc (.cells #[.int .i64 (n : Int), .int .i64 (p : Int), .int .u16 (uv pad)] 55)).alloc (.cells #[.int .i64 (n : Int), .int .i64 (p' : Int), .int .u16 (uv pad')] 55)) 55 #[.int .i64 0, .int .i64 0, .int .u16 0] (w.heap.size + 1 + 1) (by simp))
    clear h0 ha hf hb hf' he
    go_enter Try.func36, Try.ntmps36
    go_wp2_with fail
    refine Calls.ext (C1.out _) fun z => ?_
    go_wp2_with fail
    refine Calls.ext (D0.out _) fun z0 => ?_
    go_wp2_with fail
    refine bodyPost_ret (results_cell_tmp rfl _ _ (w.heap.size + 1 + 1) 55 #[.int .i64 kk.bits, .int .i64 kk.perm, .int .u16 (uv kk.pad)] (0, 0) _ rfl (blk3 ((HR.out.ext z).ext z0)) Try.underlying55 rfl (by kernel_rfl)) rfl ⟨ret_of (by rw [HV.out, HV2.out]; rfl), ?_⟩
    repeat' (first | with_reducible exact Ext.refl _ | with_reducible refine Ext.setCell ?_ hr1 _ | with_reducible refine Ext.alloc ?_ _ | with_reducible refine Ext.ext ?_ _ | with_reducible refine Ext.drew ?_)
  · have C1 := Lib.hid (both_any a b)
    have HV := Lib.hid (show compX a b = zeroK by unfold compX; rw [if_neg h0])
    have h2 : (bothV a b == 0) = false := by simpa using h0
    generalize bothV a b = v at *
    have HR := Lib.hid (Blk.new' ((w.alloc (.cells #[.int .i64 a.bits, .int .i64 a.perm, .int .u16 (uv a.pad)] 55)).alloc (.cells #[.int .i64 b.bits, .int .i64 b.perm, .int .u16 (uv b.pad)] 55)) 55 #[.int .i64 0, .int .i64 0, .int .u16 0] (w.heap.size + 1 + 1) (by simp))
    clear h0
    go_enter Try.func36, Try.ntmps36
    go_wp2_with fail
    refine Calls.ext (C1.out _) fun z => ?_
    go_wp2_with fail
    refine bodyPost_ret (results_cell_tmp rfl _ _ (w.heap.size + 1 + 1) 55 #[.int .i64 0, .int .i64 0, .int .u16 0] (0, 0) _ rfl (blk3 (HR.out.ext z)) Try.underlying55 rfl (by kernel_rfl)) rfl ⟨ret_of (by rw [HV.out]; rfl), ?_⟩
    repeat' (first | with_reducible exact Ext.refl _ | with_reducible refine Ext.setCell ?_ hr1 _ | with_reducible refine Ext.alloc ?_ _ | with_reducible refine Ext.ext ?_ _ | with_reducible refine Ext.drew ?_)
set_option maxRecDepth 100000 in
set_option maxHeartbeats 2000000 in
theorem refCompose_any (a b : K) (w : World) : Calls Try.prog 37 #[a.val, b.val] w fun e w' => e = .returned (.tuple #[(compX a b).val, .int .i64 (bothV a b)]) ∧ Ext w w' := by
  have hr1 : w.heap.size ≤ w.heap.size + 1 + 1 := by omega
  by_cases h0 : bothV a b = 0
  · obtain ⟨ha, hb, he⟩ := both_split h0
    obtain ⟨n, p, pad, rfl, hn, hp, hf⟩ := ok_split ha
    obtain ⟨n', p', pad', rfl, hn', hp', hf'⟩ := ok_split hb
    obtain rfl : n = n' := by simp only at he; omega
    have c1 := refBoth_any ⟨n, p, pad⟩ ⟨n, p', pad'⟩
    rw [h0] at c1
    have C1 := Lib.hid c1
    clear c1
    have HV := Lib.hid (show compX ⟨n, p, pad⟩ ⟨n, p', pad'⟩ = comK n p pad p' pad' by unfold compX; rw [if_pos h0]; rfl)
    have HV2 := Lib.hid h0
    have D0 := Lib.hid (composed_any n p pad p' pad' hn hp hp')
    generalize comK n p pad p' pad' = kk at *
    have HR := Lib.hid (Blk.new' ((w.alloc (.cells #[.int .i64 (n : Int), .int .i64 (p : Int), .int .u16 (uv pad)] 55)).alloc (.cells #[.int .i64 (n : Int), .int .i64 (p' : Int), .int .u16 (uv pad')] 55)) 55 #[.int .i64 0, .int .i64 0, .int .u16 0] (w.heap.size + 1 + 1) (by simp))
    clear h0 ha hf hb hf' he
    go_enter Try.func37, Try.ntmps37
    go_wp2_with fail
    refine Calls.ext (C1.out _) fun z => ?_
    go_wp2_with fail
    refine Calls.ext (D0.out _) fun z0 => ?_
    go_wp2_with fail
    refine bodyPost_ret (results_cell_tmp rfl _ _ (w.heap.size + 1 + 1) 55 #[.int .i64 kk.bits, .int .i64 kk.perm, .int .u16 (uv kk.pad)] (0, 0) _ rfl (blk3 ((HR.out.ext z).ext z0)) Try.underlying55 rfl (by kernel_rfl)) rfl ⟨ret_of (by rw [HV.out, HV2.out]; rfl), ?_⟩
    repeat' (first | with_reducible exact Ext.refl _ | with_reducible refine Ext.setCell ?_ hr1 _ | with_reducible refine Ext.alloc ?_ _ | with_reducible refine Ext.ext ?_ _ | with_reducible refine Ext.drew ?_)
  · have C1 := Lib.hid (refBoth_any a b)
    have HV := Lib.hid (show compX a b = zeroK by unfold compX; rw [if_neg h0])
    have h2 : (bothV a b == 0) = false := by simpa using h0
    generalize bothV a b = v at *
    have HR := Lib.hid (Blk.new' ((w.alloc (.cells #[.int .i64 a.bits, .int .i64 a.perm, .int .u16 (uv a.pad)] 55)).alloc (.cells #[.int .i64 b.bits, .int .i64 b.perm, .int .u16 (uv b.pad)] 55)) 55 #[.int .i64 0, .int .i64 0, .int .u16 0] (w.heap.size + 1 + 1) (by simp))
    clear h0
    go_enter Try.func37, Try.ntmps37
    go_wp2_with fail
    refine Calls.ext (C1.out _) fun z => ?_
    go_wp2_with fail
    refine bodyPost_ret (results_cell_tmp rfl _ _ (w.heap.size + 1 + 1) 55 #[.int .i64 0, .int .i64 0, .int .u16 0] (0, 0) _ rfl (blk3 (HR.out.ext z)) Try.underlying55 rfl (by kernel_rfl)) rfl ⟨ret_of (by rw [HV.out]; rfl), ?_⟩
    repeat' (first | with_reducible exact Ext.refl _ | with_reducible refine Ext.setCell ?_ hr1 _ | with_reducible refine Ext.alloc ?_ _ | with_reducible refine Ext.ext ?_ _ | with_reducible refine Ext.drew ?_)
set_option maxRecDepth 100000 in
set_option maxHeartbeats 2000000 in
theorem Invert_any (a : K) (w : World) : Calls Try.prog 38 #[a.val] w fun e w' => e = .returned (.tuple #[(invX a).val, .int .i64 (chkK a)]) ∧ Ext w w' := by
  have hr1 : w.heap.size ≤ w.heap.size + 1 := by omega
  by_cases h0 : chkK a = 0
  · have ha : okK a = true := by
      cases hk : okK a
      · rw [chk_false hk] at h0; cases h0
      · rfl
    obtain ⟨n, p, pad, rfl, hn, hp, hf⟩ := ok_split ha
    have c1 := check_any ⟨n, p, pad⟩
    rw [h0] at c1
    have C1 := Lib.hid c1
    clear c1
    have HV := Lib.hid (show invX ⟨n, p, pad⟩ = invK n p pad by unfold invX; rw [if_pos ha]; rfl)
    have HV2 := Lib.hid h0
    have D0 := Lib.hid (invert_any n p pad hn hp)
    generalize invK n p pad = kk at *
    have HR := Lib.hid (Blk.new' (w.alloc (.cells #[.int .i64 (n : Int), .int .i64 (p : Int), .int .u16 (uv pad)] 55)) 55 #[.int .i64 0, .int .i64 0, .int .u16 0] (w.heap.size + 1) (by simp))
    clear h0 ha hf
    go_enter Try.func38, Try.ntmps38
    go_wp2_with fail
    refine Calls.ext (C1.out _) fun z => ?_
    go_wp2_with fail
    refine Calls.ext (D0.out _) fun z0 => ?_
    go_wp2_with fail
    refine bodyPost_ret (results_cell_tmp rfl _ _ (w.heap.size + 1) 55 #[.int .i64 kk.bits, .int .i64 kk.perm, .int .u16 (uv kk.pad)] (0, 0) _ rfl (blk3 ((HR.out.ext z).ext z0)) Try.underlying55 rfl (by kernel_rfl)) rfl ⟨ret_of (by rw [HV.out, HV2.out]; rfl), ?_⟩
    repeat' (first | with_reducible exact Ext.refl _ | with_reducible refine Ext.setCell ?_ hr1 _ | with_reducible refine Ext.alloc ?_ _ | with_reducible refine Ext.ext ?_ _ | with_reducible refine Ext.drew ?_)
  · have C1 := Lib.hid (check_any a)
    have HV := Lib.hid (show invX a = zeroK by unfold invX; rw [if_neg (fun h => h0 (chk_true h))])
    have h2 : (chkK a == 0) = false := by simpa using h0
    generalize chkK a = v at *
    have HR := Lib.hid (Blk.new' (w.alloc (.cells #[.int .i64 a.bits, .int .i64 a.perm, .int .u16 (uv a.pad)] 55)) 55 #[.int .i64 0, .int .i64 0, .int .u16 0] (w.heap.size + 1) (by simp))
    clear h0
    go_enter Try.func38, Try.ntmps38
    go_wp2_with fail
    refine Calls.ext (C1.out _) fun z => ?_
    go_wp2_with fail
    refine bodyPost_ret (results_cell_tmp rfl _ _ (w.heap.size + 1) 55 #[.int .i64 0, .int .i64 0, .int .u16 0] (0, 0) _ rfl (blk3 (HR.out.ext z)) Try.underlying55 rfl (by kernel_rfl)) rfl ⟨ret_of (by rw [HV.out]; rfl), ?_⟩
    repeat' (first | with_reducible exact Ext.refl _ | with_reducible refine Ext.setCell ?_ hr1 _ | with_reducible refine Ext.alloc ?_ _ | with_reducible refine Ext.ext ?_ _ | with_reducible refine Ext.drew ?_)
set_option maxRecDepth 100000 in
set_option maxHeartbeats 2000000 in
theorem refInvert_any (a : K) (w : World) : Calls Try.prog 39 #[a.val] w fun e w' => e = .returned (.tuple #[(invX a).val, .int .i64 (chkK a)]) ∧ Ext w w' := by
  have hr1 : w.heap.size ≤ w.heap.size + 1 := by omega
  by_cases h0 : chkK a = 0
  · have ha : okK a = true := by
      cases hk : okK a
      · rw [chk_false hk] at h0; cases h0
      · rfl
    obtain ⟨n, p, pad, rfl, hn, hp, hf⟩ := ok_split ha
    have C1 := Lib.hid (fun w => ha ▸ refValid_any ⟨n, p, pad⟩ w)
    have HV := Lib.hid (show invX ⟨n, p, pad⟩ = invK n p pad by unfold invX; rw [if_pos ha]; rfl)
    have HV2 := Lib.hid h0
    have D0 := Lib.hid (inverted_any n p pad hn hp)
    generalize invK n p pad = kk at *
    have HR := Lib.hid (Blk.new' (w.alloc (.cells #[.int .i64 (n : Int), .int .i64 (p : Int), .int .u16 (uv pad)] 55)) 55 #[.int .i64 0, .int .i64 0, .int .u16 0] (w.heap.size + 1) (by simp))
    clear h0 ha hf
    go_enter Try.func39, Try.ntmps39
    go_wp2_with fail
    refine Calls.ext (C1.out _) fun z => ?_
    go_wp2_with fail
    refine Calls.ext (D0.out _) fun z0 => ?_
    go_wp2_with fail
    refine bodyPost_ret (results_cell_tmp rfl _ _ (w.heap.size + 1) 55 #[.int .i64 kk.bits, .int .i64 kk.perm, .int .u16 (uv kk.pad)] (0, 0) _ rfl (blk3 ((HR.out.ext z).ext z0)) Try.underlying55 rfl (by kernel_rfl)) rfl ⟨ret_of (by rw [HV.out, HV2.out]; rfl), ?_⟩
    repeat' (first | with_reducible exact Ext.refl _ | with_reducible refine Ext.setCell ?_ hr1 _ | with_reducible refine Ext.alloc ?_ _ | with_reducible refine Ext.ext ?_ _ | with_reducible refine Ext.drew ?_)
  · have ha : okK a = false := by
      cases hk : okK a
      · rfl
      · exact absurd (chk_true hk) h0
    have C1 := Lib.hid (fun w => ha ▸ refValid_any a w)
    have HV := Lib.hid (show invX a = zeroK by unfold invX; rw [if_neg (by rw [ha]; simp)])
    have HV2 := Lib.hid (chk_false ha)
    clear ha
    have HR := Lib.hid (Blk.new' (w.alloc (.cells #[.int .i64 a.bits, .int .i64 a.perm, .int .u16 (uv a.pad)] 55)) 55 #[.int .i64 0, .int .i64 0, .int .u16 0] (w.heap.size + 1) (by simp))
    clear h0
    go_enter Try.func39, Try.ntmps39
    go_wp2_with fail
    refine Calls.ext (C1.out _) fun z => ?_
    go_wp2_with fail
    refine bodyPost_ret (results_cell_tmp rfl _ _ (w.heap.size + 1) 55 #[.int .i64 0, .int .i64 0, .int .u16 0] (0, 0) _ rfl (blk3 (HR.out.ext z)) Try.underlying55 rfl (by kernel_rfl)) rfl ⟨ret_of (by rw [HV.out, HV2.out]; rfl), ?_⟩
    repeat' (first | with_reducible exact Ext.refl _ | with_reducible refine Ext.setCell ?_ hr1 _ | with_reducible refine Ext.alloc ?_ _ | with_reducible refine Ext.ext ?_ _ | with_reducible refine Ext.drew ?_)
set_option maxRecDepth 100000 in
set_option maxHeartbeats 2000000 in
theorem Renew_any (a b : K) (w : World) : Calls Try.prog 40 #[a.val, b.val] w fun e w' => e = .returned (.tuple #[(renX a b).val, .int .i64 (bothV a b)]) ∧ Ext w w' := by
  have hr1 : w.heap.size ≤ w.heap.size + 1 + 1 := by omega
  by_cases h0 : bothV a b = 0
  · obtain ⟨ha, hb, he⟩ := both_split h0
    obtain ⟨n, p, pad, rfl, hn, hp, hf⟩ := ok_split ha
    obtain ⟨n', p', pad', rfl, hn', hp', hf'⟩ := ok_split hb
    obtain rfl : n = n' := by simp only at he; omega
    have c1 := both_any ⟨n, p, pad⟩ ⟨n, p', pad'⟩
    rw [h0] at c1
    have C1 := Lib.hid c1
    clear c1
    have hv : renX ⟨n, p, pad⟩ ⟨n, p', pad'⟩ = comK n (num (inv (ordN n p))) (perW (inv (ordN n p)) pad) p' pad' := by unfold renX; rw [if_pos h0]; rfl
    have HV2 := Lib.hid h0
    have hm := num_lt' (inv_perm (ordN_len n p) (ordN_perm hp))
    have d0 := invert_any n p pad hn hp
    unfold invK at d0
    generalize num (inv (ordN n p)) = m at *
    generalize perW (inv (ordN n p)) pad = q at *
    have d1 := compose_any n m q p' pad' hn hm hp'
    generalize comK n m q p' pad' = kk at *
    have HV := Lib.hid hv
    have D0 := Lib.hid d0
    have D1 := Lib.hid d1
    clear hv d0 d1 h0 ha hf hb hf' he
    go_enter Try.func40, Try.ntmps40
    go_wp2_with fail
    refine Calls.ext (C1.out _) fun z => ?_
    go_wp2_with fail
    have HB := Lib.hid ((((Blk.new w 55 #[.int .i64 (n : Int), .int .i64 (p : Int), .int .u16 (uv pad)]).alloc (.cells #[.int .i64 (n : Int), .int .i64 (p' : Int), .int .u16 (uv pad')] 55)).alloc (.cells #[.int .i64 0, .int .i64 0, .int .u16 0] 55)).ext z)
    have HC := Lib.hid (((Blk.new' (w.alloc (.cells #[.int .i64 (n : Int), .int .i64 (p : Int), .int .u16 (uv pad)] 55)) 55 #[.int .i64 (n : Int), .int .i64 (p' : Int), .int .u16 (uv pad')] (w.heap.size + 1) (by simp)).alloc (.cells #[.int .i64 0, .int .i64 0, .int .u16 0] 55)).ext z)
    have HR := Lib.hid ((Blk.new' ((w.alloc (.cells #[.int .i64 (n : Int), .int .i64 (p : Int), .int .u16 (uv pad)] 55)).alloc (.cells #[.int .i64 (n : Int), .int .i64 (p' : Int), .int .u16 (uv pad')] 55)) 55 #[.int .i64 0, .int .i64 0, .int .u16 0] (w.heap.size + 1 + 1) (by simp)).ext z)
    have HE := Lib.hid (((((Ext.refl w).alloc (.cells #[.int .i64 (n : Int), .int .i64 (p : Int), .int .u16 (uv pad)] 55)).alloc (.cells #[.int .i64 (n : Int), .int .i64 (p' : Int), .int .u16 (uv pad')] 55)).alloc (.cells #[.int .i64 0, .int .i64 0, .int .u16 0] 55)).ext z)
    generalize ext (((w.alloc (.cells #[.int .i64 (n : Int), .int .i64 (p : Int), .int .u16 (uv pad)] 55)).alloc (.cells #[.int .i64 (n : Int), .int .i64 (p' : Int), .int .u16 (uv pad')] 55)).alloc (.cells #[.int .i64 0, .int .i64 0, .int .u16 0] 55)) z = V at *
    have b0 : V.cell? ⟨w.heap.size, 0, none⟩ = some (.int .i64 (n : Int)) := HB.out.cell 0
    have b1 : V.cell? ⟨w.heap.size, 1, none⟩ = some (.int .i64 (p : Int)) := HB.out.cell 1
    have b2 : V.cell? ⟨w.heap.size, 2, none⟩ = some (.int .u16 (uv pad)) := HB.out.cell 2
    have ob := Old.mk HB.out.lt
    have c0 : V.cell? ⟨w.heap.size + 1, 0, none⟩ = some (.int .i64 (n : Int)) := HC.out.cell 0
    have c1 : V.cell? ⟨w.heap.size + 1, 1, none⟩ = some (.int .i64 (p' : Int)) := HC.out.cell 1
    have c2 : V.cell? ⟨w.heap.size + 1, 2, none⟩ = some (.int .u16 (uv pad')) := HC.out.cell 2
    have oc := Old.mk HC.out.lt
    have r0 : V.cell? ⟨w.heap.size + 1 + 1, 0, none⟩ = some (.int .i64 0) := HR.out.cell 0
    have r1 : V.cell? ⟨w.heap.size + 1 + 1, 1, none⟩ = some (.int .i64 0) := HR.out.cell 1
    have r2 : V.cell? ⟨w.heap.size + 1 + 1, 2, none⟩ = some (.int .u16 0) := HR.out.cell 2
    have or := Old.mk HR.out.lt
    have hfr := HR.out.frozen
    go_region_law (first
      | (refine step_call_ext rfl 73 [.tmp 14] #[55] rfl (by kernel_rfl) [(K.mk n p pad).val] rfl (D0.out _) ?_; intro z1)
      | (refine step_call_ext rfl 76 [.tmp 15, .tmp 16] #[55, 55] rfl (by kernel_rfl) [(K.mk n m q).val, (K.mk n p' pad').val] rfl (D1.out _) ?_; intro z2))
    all_goals
      go_wp2_with fail
      refine bodyPost_ret (results_cell_tmp rfl _ _ (w.heap.size + 1 + 1) 55 #[.int .i64 kk.bits, .int .i64 kk.perm, .int .u16 (uv kk.pad)] (0, 0) _ rfl (blk3 (a := .int .i64 0) (b := .int .i64 0) (c := .int .u16 0) ?_) Try.underlying55 rfl (by kernel_rfl)) rfl ⟨ret_of (by rw [HV.out, HV2.out]; rfl), ?_⟩
      · repeat' (first | with_reducible exact HR.out | with_reducible refine Blk.ext ?_ _ | with_reducible refine Blk.drew ?_)
      · repeat' (first | with_reducible exact HE.out | with_reducible refine Ext.setCell ?_ hr1 _ | with_reducible refine Ext.ext ?_ _ | with_reducible refine Ext.drew ?_)
  · have C1 := Lib.hid (both_any a b)
    have HV := Lib.hid (show renX a b = zeroK by unfold renX; rw [if_neg h0])
    have h2 : (bothV a b == 0) = false := by simpa using h0
    generalize bothV a b = v at *
    have HR := Lib.hid (Blk.new' ((w.alloc (.cells #[.int .i64 a.bits, .int .i64 a.perm, .int .u16 (uv a.pad)] 55)).alloc (.cells #[.int .i64 b.bits, .int .i64 b.perm, .int .u16 (uv b.pad)] 55)) 55 #[.int .i64 0, .int .i64 0, .int .u16 0] (w.heap.size + 1 + 1) (by simp))
    clear h0
    go_enter Try.func40, Try.ntmps40
    go_wp2_with fail
    refine Calls.ext (C1.out _) fun z => ?_
    go_wp2_with fail
    refine bodyPost_ret (results_cell_tmp rfl _ _ (w.heap.size + 1 + 1) 55 #[.int .i64 0, .int .i64 0, .int .u16 0] (0, 0) _ rfl (blk3 (HR.out.ext z)) Try.underlying55 rfl (by kernel_rfl)) rfl ⟨ret_of (by rw [HV.out]; rfl), ?_⟩
    repeat' (first | with_reducible exact Ext.refl _ | with_reducible refine Ext.setCell ?_ hr1 _ | with_reducible refine Ext.alloc ?_ _ | with_reducible refine Ext.ext ?_ _ | with_reducible refine Ext.drew ?_)
set_option maxRecDepth 100000 in
set_option maxHeartbeats 2000000 in
theorem refRenew_any (a b : K) (w : World) : Calls Try.prog 41 #[a.val, b.val] w fun e w' => e = .returned (.tuple #[(renX a b).val, .int .i64 (bothV a b)]) ∧ Ext w w' := by
  have hr1 : w.heap.size ≤ w.heap.size + 1 + 1 := by omega
  by_cases h0 : bothV a b = 0
  · obtain ⟨ha, hb, he⟩ := both_split h0
    obtain ⟨n, p, pad, rfl, hn, hp, hf⟩ := ok_split ha
    obtain ⟨n', p', pad', rfl, hn', hp', hf'⟩ := ok_split hb
    obtain rfl : n = n' := by simp only at he; omega
    have c1 := refBoth_any ⟨n, p, pad⟩ ⟨n, p', pad'⟩
    rw [h0] at c1
    have C1 := Lib.hid c1
    clear c1
    have hv : renX ⟨n, p, pad⟩ ⟨n, p', pad'⟩ = comK n (num (inv (ordN n p))) (perW (inv (ordN n p)) pad) p' pad' := by unfold renX; rw [if_pos h0]; rfl
    have HV2 := Lib.hid h0
    have hm := num_lt' (inv_perm (ordN_len n p) (ordN_perm hp))
    have d0 := inverted_any n p pad hn hp
    unfold invK at d0
    generalize num (inv (ordN n p)) = m at *
    generalize perW (inv (ordN n p)) pad = q at *
    have d1 := composed_any n m q p' pad' hn hm hp'
    generalize comK n m q p' pad' = kk at *
    have HV := Lib.hid hv
    have D0 := Lib.hid d0
    have D1 := Lib.hid d1
    clear hv d0 d1 h0 ha hf hb hf' he
    go_enter Try.func41, Try.ntmps41
    go_wp2_with fail
    refine Calls.ext (C1.out _) fun z => ?_
    go_wp2_with fail
    have HB := Lib.hid ((((Blk.new w 55 #[.int .i64 (n : Int), .int .i64 (p : Int), .int .u16 (uv pad)]).alloc (.cells #[.int .i64 (n : Int), .int .i64 (p' : Int), .int .u16 (uv pad')] 55)).alloc (.cells #[.int .i64 0, .int .i64 0, .int .u16 0] 55)).ext z)
    have HC := Lib.hid (((Blk.new' (w.alloc (.cells #[.int .i64 (n : Int), .int .i64 (p : Int), .int .u16 (uv pad)] 55)) 55 #[.int .i64 (n : Int), .int .i64 (p' : Int), .int .u16 (uv pad')] (w.heap.size + 1) (by simp)).alloc (.cells #[.int .i64 0, .int .i64 0, .int .u16 0] 55)).ext z)
    have HR := Lib.hid ((Blk.new' ((w.alloc (.cells #[.int .i64 (n : Int), .int .i64 (p : Int), .int .u16 (uv pad)] 55)).alloc (.cells #[.int .i64 (n : Int), .int .i64 (p' : Int), .int .u16 (uv pad')] 55)) 55 #[.int .i64 0, .int .i64 0, .int .u16 0] (w.heap.size + 1 + 1) (by simp)).ext z)
    have HE := Lib.hid (((((Ext.refl w).alloc (.cells #[.int .i64 (n : Int), .int .i64 (p : Int), .int .u16 (uv pad)] 55)).alloc (.cells #[.int .i64 (n : Int), .int .i64 (p' : Int), .int .u16 (uv pad')] 55)).alloc (.cells #[.int .i64 0, .int .i64 0, .int .u16 0] 55)).ext z)
    generalize ext (((w.alloc (.cells #[.int .i64 (n : Int), .int .i64 (p : Int), .int .u16 (uv pad)] 55)).alloc (.cells #[.int .i64 (n : Int), .int .i64 (p' : Int), .int .u16 (uv pad')] 55)).alloc (.cells #[.int .i64 0, .int .i64 0, .int .u16 0] 55)) z = V at *
    have b0 : V.cell? ⟨w.heap.size, 0, none⟩ = some (.int .i64 (n : Int)) := HB.out.cell 0
    have b1 : V.cell? ⟨w.heap.size, 1, none⟩ = some (.int .i64 (p : Int)) := HB.out.cell 1
    have b2 : V.cell? ⟨w.heap.size, 2, none⟩ = some (.int .u16 (uv pad)) := HB.out.cell 2
    have ob := Old.mk HB.out.lt
    have c0 : V.cell? ⟨w.heap.size + 1, 0, none⟩ = some (.int .i64 (n : Int)) := HC.out.cell 0
    have c1 : V.cell? ⟨w.heap.size + 1, 1, none⟩ = some (.int .i64 (p' : Int)) := HC.out.cell 1
    have c2 : V.cell? ⟨w.heap.size + 1, 2, none⟩ = some (.int .u16 (uv pad')) := HC.out.cell 2
    have oc := Old.mk HC.out.lt
    have r0 : V.cell? ⟨w.heap.size + 1 + 1, 0, none⟩ = some (.int .i64 0) := HR.out.cell 0
    have r1 : V.cell? ⟨w.heap.size + 1 + 1, 1, none⟩ = some (.int .i64 0) := HR.out.cell 1
    have r2 : V.cell? ⟨w.heap.size + 1 + 1, 2, none⟩ = some (.int .u16 0) := HR.out.cell 2
    have or := Old.mk HR.out.lt
    have hfr := HR.out.frozen
    go_region_law (first
      | (refine step_call_ext rfl 79 [.tmp 14] #[55] rfl (by kernel_rfl) [(K.mk n p pad).val] rfl (D0.out _) ?_; intro z1)
      | (refine step_call_ext rfl 78 [.tmp 15, .tmp 16] #[55, 55] rfl (by kernel_rfl) [(K.mk n m q).val, (K.mk n p' pad').val] rfl (D1.out _) ?_; intro z2))
    all_goals
      go_wp2_with fail
      refine bodyPost_ret (results_cell_tmp rfl _ _ (w.heap.size + 1 + 1) 55 #[.int .i64 kk.bits, .int .i64 kk.perm, .int .u16 (uv kk.pad)] (0, 0) _ rfl (blk3 (a := .int .i64 0) (b := .int .i64 0) (c := .int .u16 0) ?_) Try.underlying55 rfl (by kernel_rfl)) rfl ⟨ret_of (by rw [HV.out, HV2.out]; rfl), ?_⟩
      · repeat' (first | with_reducible exact HR.out | with_reducible refine Blk.ext ?_ _ | with_reducible refine Blk.drew ?_)
      · repeat' (first | with_reducible exact HE.out | with_reducible refine Ext.setCell ?_ hr1 _ | with_reducible refine Ext.ext ?_ _ | with_reducible refine Ext.drew ?_)
  · have C1 := Lib.hid (refBoth_any a b)
    have HV := Lib.hid (show renX a b = zeroK by unfold renX; rw [if_neg h0])
    have h2 : (bothV a b == 0) = false := by simpa using h0
    generalize bothV a b = v at *
    have HR := Lib.hid (Blk.new' ((w.alloc (.cells #[.int .i64 a.bits, .int .i64 a.perm, .int .u16 (uv a.pad)] 55)).alloc (.cells #[.int .i64 b.bits, .int .i64 b.perm, .int .u16 (uv b.pad)] 55)) 55 #[.int .i64 0, .int .i64 0, .int .u16 0] (w.heap.size + 1 + 1) (by simp))
    clear h0
    go_enter Try.func41, Try.ntmps41
    go_wp2_with fail
    refine Calls.ext (C1.out _) fun z => ?_
    go_wp2_with fail
    refine bodyPost_ret (results_cell_tmp rfl _ _ (w.heap.size + 1 + 1) 55 #[.int .i64 0, .int .i64 0, .int .u16 0] (0, 0) _ rfl (blk3 (HR.out.ext z)) Try.underlying55 rfl (by kernel_rfl)) rfl ⟨ret_of (by rw [HV.out]; rfl), ?_⟩
    repeat' (first | with_reducible exact Ext.refl _ | with_reducible refine Ext.setCell ?_ hr1 _ | with_reducible refine Ext.alloc ?_ _ | with_reducible refine Ext.ext ?_ _ | with_reducible refine Ext.drew ?_)
set_option maxRecDepth 100000 in
set_option maxHeartbeats 2000000 in
theorem Order_bad (k : K) (hk : okK k = false) (w : World) : Calls Try.prog 27 #[k.val] w fun e w' => e = .returned (.tuple #[.slice none 0 0, .int .i64 60]) ∧ Ext w w' := by
  have C1 := Lib.hid (fun w => chk_false hk ▸ check_any k w)
  go_enter Try.func27, Try.ntmps27
  go_wp2_with (go_at_call 30; refine Calls.ext (C1.out _) fun z => ?_)
  go_ret2
  exact ⟨rfl, ((Ext.refl w).alloc _).ext z⟩
set_option maxRecDepth 100000 in
set_option maxHeartbeats 2000000 in
theorem refOrder_bad (k : K) (hk : okK k = false) (w : World) : Calls Try.prog 28 #[k.val] w fun e w' => e = .returned (.tuple #[.slice none 0 0, .int .i64 60]) ∧ Ext w w' := by
  have C1 := Lib.hid (fun w => hk ▸ refValid_any k w)
  go_enter Try.func28, Try.ntmps28
  go_wp2_with (go_at_call 46; refine Calls.ext (C1.out _) fun z => ?_)
  go_ret2
  exact ⟨rfl, ((Ext.refl w).alloc _).ext z⟩
set_option maxRecDepth 100000 in
set_option maxHeartbeats 2000000 in
theorem Order_ok (n p : Nat) (pad : BitVec 16) (hn : 1 ≤ n ∧ n ≤ 15) (hp : p < factN n) (hk : okK ⟨n, p, pad⟩ = true) (w : World) : Calls Try.prog 27 #[(K.mk n p pad).val] w fun e w' => ∃ g c, e = .returned (.tuple #[.slice (some ⟨g, 0, none⟩) n c, .int .i64 0]) ∧ Lst 3 w' g c (intsV (ordN n p)) ∧ Ext w w' := by
  have C1 := Lib.hid (fun w => chk_true hk ▸ check_any ⟨n, p, pad⟩ w)
  clear hk
  go_enter Try.func27, Try.ntmps27
  go_wp2_with (first | (go_at_call 30; refine Calls.ext (C1.out _) fun z => ?_) | (go_at_call 69; refine calls_lst (order_lst n p pad hn hp _) fun g c z2 hL => ?_))
  go_ret2
  exact ⟨g, c, rfl, hL, (((Ext.refl w).alloc _).ext z).ext z2⟩
set_option maxRecDepth 100000 in
set_option maxHeartbeats 2000000 in
theorem refOrder_ok (n p : Nat) (pad : BitVec 16) (hn : 1 ≤ n ∧ n ≤ 15) (hp : p < factN n) (hk : okK ⟨n, p, pad⟩ = true) (w : World) : Calls Try.prog 28 #[(K.mk n p pad).val] w fun e w' => ∃ g c, e = .returned (.tuple #[.slice (some ⟨g, 0, none⟩) n c, .int .i64 0]) ∧ Lst 3 w' g c (intsV (ordN n p)) ∧ Ext w w' := by
  have C1 := Lib.hid (fun w => hk ▸ refValid_any ⟨n, p, pad⟩ w)
  clear hk
  go_enter Try.func28, Try.ntmps28
  go_wp2_with (first | (go_at_call 46; refine Calls.ext (C1.out _) fun z => ?_) | (go_at_call 70; refine calls_lst (ordered_lst n p hn hp _) fun g c z2 hL => ?_))
  go_ret2
  exact ⟨g, c, rfl, hL, (((Ext.refl w).alloc _).ext z).ext z2⟩
end Go.Proofs.Ytfdcapblgdlkaaa
