/- Numbers in ranges, absolute values, quotients rounded down. -/
import Derived.Test.YtchplmenkdghcaaCommon
import Derived.RegionTactic
import Derived.Test.YtchplmenkdghcaaChecked
import Derived.Test.YtchplmenkdghcaaSlices
namespace Go.Proofs.Ytchplmenkdghcaa
open Go.RowKit
def inB (n lo hi : Int) : Bool := decide (lo ≤ n) && decide (n ≤ hi)
theorem inB_iff {n lo hi : Int} : inB n lo hi = true ↔ lo ≤ n ∧ n ≤ hi := by simp [inB]
theorem inB_no {n lo hi : Int} : inB n lo hi = false ↔ n < lo ∨ hi < n := by
  rw [Bool.eq_false_iff, Ne, inB_iff]; omega
theorem within_any (n lo hi : Int) (w : World) : Calls Try.prog 12 #[.int .i64 n, .int .i64 lo, .int .i64 hi] w fun e w' => e = .returned (.bool (inB n lo hi)) ∧ w = w' := by
  have HV := Lib.hid (show inB n lo hi = (decide (lo ≤ n) && decide (n ≤ hi)) from rfl)
  generalize inB n lo hi = v at *
  go_enter Try.func12, Try.ntmps12
  cases h : decide (lo ≤ n)
  · rw [h] at HV
    go_wp2_with fail
    go_ret
    exact ⟨ret_of (by rw [HV.out]; simp), rfl⟩
  · rw [h] at HV
    go_wp2_with fail
    go_ret
    exact ⟨ret_of (by rw [HV.out]; simp), rfl⟩
/-- all of n numbers lie in a range -/
def allB (lo hi : Int) (n : Nat) (f : Nat → Int) : Bool := (List.range n).all fun j => inB (f j) lo hi
theorem all_yes {lo hi : Int} {n : Nat} {f : Nat → Int} (h : ∀ j, j < n → inB (f j) lo hi = true) : allB lo hi n f = true := by
  unfold allB; rw [List.all_eq_true]; intro j hj; exact h j (List.mem_range.1 hj)
theorem all_no {lo hi : Int} {n : Nat} {f : Nat → Int} (k : Nat) (hk : k < n) (h : inB (f k) lo hi = false) : allB lo hi n f = false := by
  cases hb : allB lo hi n f
  · rfl
  · have := List.all_eq_true.1 hb k (List.mem_range.2 hk)
    rw [h] at this; cases this
set_option maxRecDepth 100000 in
set_option maxHeartbeats 1000000 in
theorem withinAll_any (lo hi : Int) (n : Nat) (hn : n ≤ 100) (f : Nat → Int) (b off c : Nat) (w : World) (hc : ∀ j, j < n → w.cell? ⟨b, off + j, none⟩ = some (.int .i64 (f j))) :
    Calls Try.prog 18 #[.int .i64 lo, .int .i64 hi, .slice (some ⟨b, off, none⟩) n c] w fun e w' => e = .returned (.bool (allB lo hi n f)) ∧ w = w' := by
  have HC := Lib.hid hc
  clear hc
  go_enter Try.func18, Try.ntmps18
  go_wp2_with fail
  go_loopw [8, 11] (fun _ i wr => ∃ k : Nat, k ≤ n ∧ i = .int .i64 k ∧ wr = w ∧ ∀ j, j < k → inB (f j) lo hi = true) (fun _ i _ => n - (intOf i).toNat)
  case atStart => exact ⟨0, by omega, rfl, rfl, fun j h => absurd h (by omega)⟩
  case round =>
    obtain ⟨k, hk, rfl, rfl, hall⟩ := hrel
    have HA := Lib.hid hall
    clear hall
    by_cases hkn : k < n
    · have hk2 : (k : Int) < n := by omega
      have c1 := HC.out k hkn
      cases hb : inB (f k) lo hi
      · have HF := Lib.hid (all_no (n := n) k hkn hb)
        rw [inB_no] at hb
        generalize f k = v at *
        by_cases h1 : v < lo
        · have b1 : decide (v < lo) = true := by simpa using h1
          clear hb
          go_wp2_with fail
          go_ret
          exact ⟨ret_of (by rw [HF.out]; rfl), rfl⟩
        · have b1 : decide (v < lo) = false := by simpa using h1
          have b2 : decide (hi < v) = true := by simp; omega
          clear hb
          go_wp2_with fail
          go_ret
          exact ⟨ret_of (by rw [HF.out]; rfl), rfl⟩
      · have HS := Lib.hid (show ∀ j, j < k + 1 → inB (f j) lo hi = true from fun j hj => by
          rcases Nat.lt_or_ge j k with h | h
          · exact HA.out j h
          · obtain rfl : j = k := by omega
            exact hb)
        rw [inB_iff] at hb
        generalize f k = v at *
        have b1 : decide (v < lo) = false := by simp; omega
        have b2 : decide (hi < v) = false := by simp; omega
        clear hb
        go_wp2_with fail
        refine ⟨⟨k + 1, by omega, by go_num, trivial, HS.out⟩, by simp [intOf]; omega⟩
    · obtain rfl : k = n := by omega
      have HF := Lib.hid (all_yes HA.out)
      go_wp2_with fail
      go_ret
      exact ⟨ret_of (by rw [HF.out]; rfl), rfl⟩
end Go.Proofs.Ytchplmenkdghcaa
namespace Go.Proofs.Ytchplmenkdghcaa
open Go.RowKit
/-- a minutia -/
structure Mi where
  x : Int
  y : Int
  kind : Int
  dir : Int
abbrev Mi.val (m : Mi) : Value := .agg #[.int .i64 m.x, .int .i64 m.y, .int .u8 m.kind, .int .u8 m.dir]
/-- a slice that holds points -/
def Pts (w : World) (A : Option Addr) (l : List Mi) : Prop :=
  l = [] ∨ ∃ b off, A = some ⟨b, off, none⟩ ∧ b < w.heap.size ∧ ∀ (k : Nat) (m : Mi), l[k]? = some m →
    w.cell? ⟨b, off + k * 4, none⟩ = some (.int .i64 m.x) ∧ w.cell? ⟨b, off + k * 4 + 1, none⟩ = some (.int .i64 m.y) ∧ w.cell? ⟨b, off + k * 4 + 2, none⟩ = some (.int .u8 m.kind) ∧ w.cell? ⟨b, off + k * 4 + 3, none⟩ = some (.int .u8 m.dir)
theorem Pts.grow {w w' : World} {A : Option Addr} {l : List Mi} (h : Pts w A l) (hg : Ext w w') : Pts w' A l := by
  rcases h with rfl | ⟨b, off, rfl, hb, hc⟩
  · exact .inl rfl
  · refine .inr ⟨b, off, rfl, Nat.lt_of_lt_of_le hb hg.size, fun k m hm => ?_⟩
    obtain ⟨h1, h2, h3, h4⟩ := hc k m hm
    refine ⟨?_, ?_, ?_, ?_⟩ <;> rw [hg.cell (by exact hb)] <;> assumption
def okM (m : Mi) : Bool := inB m.x 0 63 && inB m.y 0 63 && (m.kind == 1 || m.kind == 2) && decide (m.dir ≤ 7)
/-- the points that are left, after one at the place 'last' -/
def chP : Int → List Mi → Bool
  | _, [] => true
  | last, m :: r => okM m && decide (last < m.y * 64 + m.x) && chP (m.y * 64 + m.x) r
def okP (l : List Mi) : Bool := decide (l.length ≤ 12) && chP (-1) l
def chkI (l : List Mi) : Int := if okP l then 0 else 20
theorem okM_parts {m : Mi} (h : okM m = true) : (0 ≤ m.x ∧ m.x ≤ 63) ∧ (0 ≤ m.y ∧ m.y ≤ 63) ∧ (m.kind = 1 ∨ m.kind = 2) ∧ m.dir ≤ 7 := by
  simp [okM, inB] at h; omega
theorem two_any (lo hi x y : Int) (b c : Nat) (w : World) (h0 : w.cell? ⟨b, 0, none⟩ = some (.int .i64 x)) (h1 : w.cell? ⟨b, 1, none⟩ = some (.int .i64 y)) :
    Calls Try.prog 18 #[.int .i64 lo, .int .i64 hi, .slice (some ⟨b, 0, none⟩) 2 c] w fun e w' => e = .returned (.bool (inB x lo hi && inB y lo hi)) ∧ w = w' := by
  have h := withinAll_any lo hi 2 (by omega) (fun j => if j = 0 then x else y) b 0 c w (fun j hj => by
    match j, hj with
    | 0, _ => exact h0
    | 1, _ => exact h1)
  have e : allB lo hi 2 (fun j => if j = 0 then x else y) = (inB x lo hi && inB y lo hi) := by
    simp [allB, List.range_succ]
  rw [e] at h
  exact h
theorem one_any (lo hi x : Int) (b c : Nat) (w : World) (h0 : w.cell? ⟨b, 0, none⟩ = some (.int .i64 x)) :
    Calls Try.prog 18 #[.int .i64 lo, .int .i64 hi, .slice (some ⟨b, 0, none⟩) 1 c] w fun e w' => e = .returned (.bool (inB x lo hi)) ∧ w = w' := by
  have h := withinAll_any lo hi 1 (by omega) (fun _ => x) b 0 c w (fun j hj => by
    match j, hj with
    | 0, _ => exact h0)
  have e : allB lo hi 1 (fun _ => x) = inB x lo hi := by
    simp [allB, List.range_succ]
  rw [e] at h
  exact h
set_option maxRecDepth 100000 in
set_option maxHeartbeats 2000000 in
theorem check_any (A : Option Addr) (c : Nat) (l : List Mi) (w : World) (hl : Pts w A l) (hn : l.length ≤ 100) :
    Calls Try.prog 39 #[.slice A l.length c] w fun e w' => e = .returned (.int .i64 (chkI l)) ∧ Ext w w' := by
  by_cases h12 : l.length ≤ 12
  · have HV := Lib.hid (show ∀ b, chP (-1) l = b → chkI l = if b then 0 else 20 from fun b hb => by unfold chkI okP; rw [hb]; simp [h12])
    have HL := Lib.hid hl
    clear hl
    go_enter Try.func39, Try.ntmps39
    go_wp2_with fail
    go_loopw [3, 5, 6, 12] (fun t _ _ i wr => ∃ (k : Nat) (la : Int) (z : World), k ≤ l.length ∧ i = .int .i64 k ∧ t = .int .i64 la ∧ wr = ext w z ∧ (-1 ≤ la ∧ la ≤ 5000) ∧ chP (-1) l = chP la (l.drop k))
      (fun _ _ _ i _ => l.length - (intOf i).toNat)
    case atStart => exact ⟨0, -1, w, Nat.zero_le _, rfl, rfl, (ext_of (Ext.refl w)).symm, by omega, rfl⟩
    case round =>
      obtain ⟨k, la, z, hk, rfl, rfl, rfl, hla, hp⟩ := hrel
      have HP := Lib.hid hp; clear hp
      by_cases hlt : k < l.length
      · rcases HL.out with rfl | ⟨b, off, rfl, hb, hc⟩
        · simp at hlt
        · have hb' := Old.mk hb
          obtain ⟨c0, c1, c2, c3⟩ := hc k l[k] (List.getElem?_eq_getElem hlt)
          have hd : l.drop k = l[k] :: l.drop (k + 1) := List.drop_eq_getElem_cons hlt
          generalize hx : l[k] = m at *
          clear hx hc
          have HD := Lib.hid (HP.out.trans (by rw [hd])); clear hd HP
          have hki : (k : Int) < l.length := by omega
          have HR := Lib.hid (fun lo hi => two_any lo hi m.x m.y)
          cases hr : inB m.x 0 63 && inB m.y 0 63
          · have HF := Lib.hid (HD.out.trans (show chP la (m :: l.drop (k + 1)) = false by simp only [chP, okM, hr]; simp))
            have HE := HV.out _ HF.out
            have HEV := Lib.hid HE
            clear HE
            have HR2 := Lib.hid (hr ▸ HR.out 0 63)
            go_wp2_with fail
            refine Calls.same (HR2.out _ _ _ (by simp [go_sem]) (by simp [go_sem])) ?_
            go_wp2_with fail
            go_ret
            exact ⟨ret_of (by rw [HEV.out]; rfl), (((Ext.refl w).ext z).alloc _).alloc _⟩
          · have HR2 := Lib.hid (hr ▸ HR.out 0 63)
            have HIN := Lib.hid hr
            simp only [Bool.and_eq_true, inB_iff] at hr
            obtain ⟨hx, hy⟩ := hr
            have HB := Lib.hid (show ¬((m.kind = 1 ∨ m.kind = 2) ∧ m.dir ≤ 7 ∧ la < m.y * 64 + m.x) → chkI l = 20 from fun h => by
              refine HV.out false (HD.out.trans ?_)
              cases hq : chP la (m :: l.drop (k + 1))
              · rfl
              · exfalso
                simp only [chP, Bool.and_eq_true, decide_eq_true_eq] at hq
                have := okM_parts hq.1.1
                exact h ⟨this.2.2.1, this.2.2.2, hq.1.2⟩)
            have HG := Lib.hid (show (m.kind = 1 ∨ m.kind = 2) → m.dir ≤ 7 → la < m.y * 64 + m.x → chP (-1) l = chP (m.y * 64 + m.x) (l.drop (k + 1)) from fun h1 h2 h3 => by
              rw [HD.out, chP]
              have e1 : (m.kind == 1 || m.kind == 2) = true := by simpa using h1
              have e2 : decide (m.dir ≤ 7) = true := by simpa using h2
              have e3 : decide (la < m.y * 64 + m.x) = true := by simpa using h3
              unfold okM
              rw [HIN.out, e1, e2, e3]; rfl)
            go_wp2_with fail
            refine Calls.same (HR2.out _ _ _ (by simp [go_sem]) (by simp [go_sem])) ?_
            go_wp2_with fail
            all_goals try simp only [bne_iff_ne, ne_eq, beq_iff_eq, bne_eq_false_iff_eq, decide_eq_true_eq, decide_eq_false_iff_not] at *
            all_goals first
              | (go_ret; exact ⟨ret_of (by rw [HB.out (by omega)]; rfl), (((Ext.refl w).ext z).alloc _).alloc _⟩)
              | exact ⟨⟨k + 1, _, _, by omega, by go_num, rfl, (ext_of ((((Ext.refl w).ext z).alloc _).alloc _)).symm, by omega, HG.out (by omega) (by omega) (by omega)⟩, by simp [intOf]; omega⟩
      · obtain rfl : k = l.length := by omega
        have HE := Lib.hid (HV.out _ (HP.out.trans (by rw [List.drop_length, chP])))
        go_wp2_with fail
        go_ret
        exact ⟨ret_of (by rw [HE.out]; rfl), (Ext.refl w).ext z⟩
  · have HV := Lib.hid (show chkI l = 20 by unfold chkI okP; simp [h12])
    have h12' : (12 : Int) < l.length := by omega
    go_enter Try.func39, Try.ntmps39
    go_wp2_with fail
    go_ret
    exact ⟨ret_of (by rw [HV.out]; rfl), Ext.refl w⟩
end Go.Proofs.Ytchplmenkdghcaa
namespace Go.Proofs.Ytchplmenkdghcaa
open Go.RowKit
structure Cl where
  turns : Int
  shift : Int
  elastic : Int
  reach : Int
  spread : Int
abbrev Cl.val (c : Cl) : Value := .agg #[.int .i64 c.turns, .int .i64 c.shift, .int .i64 c.elastic, .int .i64 c.reach, .int .i64 c.spread]
structure Cl.ok (c : Cl) : Prop where
  turns : 0 ≤ c.turns ∧ c.turns ≤ 3
  shift : 0 ≤ c.shift ∧ c.shift ≤ 4
  elastic : 0 ≤ c.elastic ∧ c.elastic ≤ 1
  reach : 0 ≤ c.reach ∧ c.reach ≤ 4
  spread : 0 ≤ c.spread ∧ c.spread ≤ 4
structure Mv where
  turn : Int
  dx : Int
  dy : Int
abbrev Mv.val (v : Mv) : Value := .agg #[.int .i64 v.turn, .int .i64 v.dx, .int .i64 v.dy]
abbrev bendV (b : Nat → Int) : Value := .agg #[.int .i64 (b 0), .int .i64 (b 1), .int .i64 (b 2), .int .i64 (b 3)]
def isMove (c : Cl) (v : Mv) : Bool := inB v.turn (-c.turns) c.turns && inB v.dx (-c.shift) c.shift && inB v.dy (-c.shift) c.shift
set_option maxRecDepth 100000 in
set_option maxHeartbeats 1000000 in
theorem move_any (c : Cl) (v : Mv) (h : c.ok) (w : World) : Calls Try.prog 25 #[c.val, v.val] w fun e w' => e = .returned (.bool (isMove c v)) ∧ Ext w w' := by
  have h1 := h.turns
  have h2 := h.shift
  have HV := Lib.hid (show isMove c v = (inB v.turn (-c.turns) c.turns && inB v.dx (-c.shift) c.shift && inB v.dy (-c.shift) c.shift) from rfl)
  have HX := Lib.hid (fun b q w h0 => one_any (-c.turns) c.turns v.turn b q w h0)
  have HY := Lib.hid (fun b q w h0 h1 => two_any (-c.shift) c.shift v.dx v.dy b q w h0 h1)
  cases hx : inB v.turn (-c.turns) c.turns
  · rw [hx] at HX HV
    go_enter Try.func25, Try.ntmps25
    go_wp2_with fail
    refine Calls.same (HX.out _ _ _ (by simp [go_sem])) ?_
    go_wp2_with fail
    go_ret
    exact ⟨ret_of (by rw [HV.out]; rfl), (((Ext.refl w).alloc _).alloc _).alloc _⟩
  · rw [hx] at HX HV
    go_enter Try.func25, Try.ntmps25
    go_wp2_with fail
    refine Calls.same (HX.out _ _ _ (by simp [go_sem])) ?_
    go_wp2_with fail
    refine Calls.same (HY.out _ _ _ (by simp [go_sem]) (by simp [go_sem])) ?_
    go_wp2_with fail
    go_ret
    exact ⟨ret_of (by rw [HV.out]; rfl), ((((Ext.refl w).alloc _).alloc _).alloc _).alloc _⟩
end Go.Proofs.Ytchplmenkdghcaa

