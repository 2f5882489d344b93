/- The program's bends (87, 88): the closures, as an iterator. -/
import Derived.Test.YtchplmenkdghcaaSearch
import Derived.Test.YtchplmenkdghcaaYield
import Derived.Test.YtchplmenkdghcaaBend
namespace Go.Proofs.Ytchplmenkdghcaa
open Go.RowKit Go.Shelf
def Bd.set (b : Bd) (n : Nat) (x : Int) : Bd := match n with | 0 => { b with a := x } | 1 => { b with b := x } | 2 => { b with c := x } | _ => { b with d := x }
theorem Bd.set_f (b : Bd) (n : Nat) (x : Int) (j : Nat) (hn : n < 4) (hj : j < 4) : (b.set n x).f j = if j = n then x else b.f j := by
  rcases (show n = 0 ∨ n = 1 ∨ n = 2 ∨ n = 3 by omega) with rfl | rfl | rfl | rfl <;> rcases (show j = 0 ∨ j = 1 ∨ j = 2 ∨ j = 3 by omega) with rfl | rfl | rfl | rfl <;> rfl
abbrev Bd.cells (b : Bd) : Array Value := #[.int .i64 b.a, .int .i64 b.b, .int .i64 b.c, .int .i64 b.d]
theorem Bd.cells_at (b : Bd) (j : Nat) (hj : j < 4) : b.cells[j]? = some (.int .i64 (b.f j)) := by
  rcases (show j = 0 ∨ j = 1 ∨ j = 2 ∨ j = 3 by omega) with rfl | rfl | rfl | rfl <;> rfl
theorem Bd.cells_set (b : Bd) (n : Nat) (x : Int) (hn : n < 4) : b.cells.setIfInBounds n (.int .i64 x) = (b.set n x).cells := by
  rcases (show n = 0 ∨ n = 1 ∨ n = 2 ∨ n = 3 by omega) with rfl | rfl | rfl | rfl <;> rfl
theorem Bd.ext_f {x y : Bd} (h : ∀ j, j < 4 → x.f j = y.f j) : x = y := Bd.ext_ (h 0 (by omega)) (h 1 (by omega)) (h 2 (by omega)) (h 3 (by omega))
/-- the entries of a bend, in order -/
def valsE (E : Nat) : List Int := (List.range (2 * E + 1)).map fun (i : Nat) => (i : Int) - E
def stepN (n : Nat) (b : Bd) (x : Int) : Bool := decide (n = 0) || inB (x - b.f (n - 1)) (-1) 1
/-- the bends that begin as b does up to n (n + r = 4) -/
def growL (E : Nat) : Nat → Nat → Bd → List Bd
  | 0, _, b => [b]
  | r + 1, n, b => (valsE E).flatMap fun x => if stepN n b x then growL E r (n + 1) (b.set n x) else []
theorem growL_agree (E : Nat) : ∀ (r n : Nat) (b b' : Bd), n + r = 4 → (∀ j, j < n → b.f j = b'.f j) → growL E r n b = growL E r n b' := by
  intro r
  induction r with
  | zero =>
    intro n b b' hn h
    obtain rfl : n = 4 := by omega
    unfold growL
    rw [Bd.ext_f h]
  | succ r ih =>
    intro n b b' hn h
    unfold growL
    congr 1
    funext x
    have e : stepN n b x = stepN n b' x := by
      unfold stepN
      rcases Nat.eq_zero_or_pos n with rfl | h0
      · rfl
      · rw [h (n - 1) (by omega)]
    rw [e]
    split
    · refine ih (n + 1) _ _ (by omega) fun j hj => ?_
      rw [Bd.set_f _ _ _ _ (by omega) (by omega), Bd.set_f _ _ _ _ (by omega) (by omega)]
      split
      · rfl
      · exact h j (by omega)
    · rfl
def doneL (E r n : Nat) (b : Bd) (k : Nat) : List Bd := ((valsE E).take k).flatMap fun x => if stepN n b x then growL E r (n + 1) (b.set n x) else []
theorem doneL_zero (E r n : Nat) (b : Bd) : doneL E r n b 0 = [] := rfl
theorem doneL_succ (E r n : Nat) (b : Bd) (k : Nat) (hk : k < 2 * E + 1) : doneL E r n b (k + 1) = doneL E r n b k ++ if stepN n b ((k : Int) - E) then growL E r (n + 1) (b.set n ((k : Int) - E)) else [] := by
  unfold doneL
  have hl : (valsE E).length = 2 * E + 1 := by simp [valsE]
  have e : (valsE E).take (k + 1) = (valsE E).take k ++ [(k : Int) - E] := by
    rw [List.take_succ_eq_append_getElem (by omega)]
    simp [valsE]
  rw [e, List.flatMap_append]
  simp
theorem doneL_all (E r n : Nat) (b : Bd) : doneL E r n b (2 * E + 1) = growL E (r + 1) n b := by
  unfold doneL
  rw [List.take_of_length_le (by simp [valsE])]
  rfl
/-- what the iterator owns -/
structure Gr (l cB B : Nat) (b : Bd) (W : World) : Prop where
  y : Blk W B 116 #[.func (.yield l) #[] #[]]
  b : Blk W (B + 1) 53 b.cells
  g : Blk W (B + 2) 117 #[.func (.func 53) #[] #[.pointer (some ⟨B, 0, none⟩), .pointer (some ⟨B + 1, 0, none⟩), .pointer (some ⟨cB, 0, none⟩), .pointer (some ⟨B + 2, 0, none⟩)]]
theorem Gr.keep {l cB B : Nat} {b : Bd} {W W' : World} (h : Gr l cB B b W) (k : KeepB B W W') : Gr l cB B b W' :=
  ⟨k.blk h.y (Nat.le_refl _), k.blk h.b (by omega), k.blk h.g (by omega)⟩
theorem Gr.set_ {l cB B : Nat} {b : Bd} {W : World} (h : Gr l cB B b W) (n : Nat) (hn : n < 4) (x : Int) : Gr l cB B (b.set n x) (W.setCell ⟨B + 1, n, none⟩ (.int .i64 x)) :=
  ⟨h.y.far (by show B ≠ B + 1; omega) _, by rw [← Bd.cells_set b n x hn]; exact h.b.set_ n _, h.g.far (by show B + 2 ≠ B + 1; omega) _⟩
/-- what the caller promises -/
structure GrIn (l cB B E : Nat) (X : Bd → Prop) (J : List Bd → World → Prop) : Prop where
  keep : ∀ s A A', J s A → Below B A A' → J s A'
  cls : ∀ s A, J s A → A.cell? ⟨cB, 2, none⟩ = some (.int .i64 E)
  yield : ∀ pre (x : Bd) W1, J pre W1 → X x → ∀ m, YieldAt Fence.wide m Try.prog l #[.agg x.cells] W1 fun e W' => e = .returned (.bool true) ∧ J (pre ++ [x]) W' ∧ KeepB B W1 W'
def inX (E : Nat) (n : Nat) (b : Bd) : Prop := ∀ j, j < n → -(E : Int) ≤ b.f j ∧ b.f j ≤ E
abbrev growArgs (cB B n : Nat) : Array Value := #[.int .i64 (n : Int), .pointer (some ⟨B, 0, none⟩), .pointer (some ⟨B + 1, 0, none⟩), .pointer (some ⟨cB, 0, none⟩), .pointer (some ⟨B + 2, 0, none⟩)]
section
attribute [local go_sem] Oper.semAt_some
set_option maxRecDepth 100000 in
set_option maxHeartbeats 2000000 in
theorem grow_end (l cB B E : Nat) (J : List Bd → World → Prop) (h : GrIn l cB B E (inX E 4) J) (b : Bd) (pre : List Bd) (W : World) (hJ : J pre W) (hG : Gr l cB B b W) (hb : inX E 4 b) :
    Calls Try.prog 53 #[.int .i64 4, .pointer (some ⟨B, 0, none⟩), .pointer (some ⟨B + 1, 0, none⟩), .pointer (some ⟨cB, 0, none⟩), .pointer (some ⟨B + 2, 0, none⟩)] W fun en W' => en = .returned (.bool true) ∧ J (pre ++ [b]) W' ∧ ∃ b', Gr l cB B b' W' ∧ ∀ j, j < 4 → b'.f j = b.f j := by
  refine (callsIn_wide (n := 4)).1 ?_
  refine callsIn_of_wp Try.func53 rfl trivial ?_ rfl
  simp only [Try.ntmps53, List.size_toArray, List.length_cons, List.length_nil, Nat.reduceAdd, Nat.reduceSub, Array.replicate_succ, Array.replicate_zero, List.push_toArray, List.append_toArray, List.nil_append, List.cons_append]
  obtain ⟨fn, tmps, assign, body, hy, hR⟩ := h.yield pre b W hJ hb 3
  have y0 : W.cell? ⟨B, 0, none⟩ = some (.func (.yield l) #[] #[]) := hG.y.cell 0
  have b0 : W.cell? ⟨B + 1, 0, none⟩ = some (.int .i64 b.a) := hG.b.cell 0
  have b1 : W.cell? ⟨B + 1, 1, none⟩ = some (.int .i64 b.b) := hG.b.cell 1
  have b2 : W.cell? ⟨B + 1, 2, none⟩ = some (.int .i64 b.c) := hG.b.cell 2
  have b3 : W.cell? ⟨B + 1, 3, none⟩ = some (.int .i64 b.d) := hG.b.cell 3
  have HG := Lib.hid hG
  clear h hJ hG hb
  gi_wp2
  refine hR.mono ?_
  clear hR
  rintro e W3 ⟨rfl, hJ3, hK3⟩
  gi_wp2
  go_ret
  exact ⟨rfl, hJ3, b, HG.out.keep hK3, fun _ _ => rfl⟩
end
set_option maxRecDepth 100000 in
set_option maxHeartbeats 4000000 in
theorem grow_any (l cB B E : Nat) (hE : E ≤ 1) (J : List Bd → World → Prop) (h : GrIn l cB B E (inX E 4) J) : ∀ (r n : Nat), n + r = 4 → ∀ (b : Bd) (pre : List Bd) (W : World), J pre W → Gr l cB B b W → inX E n b →
    Calls Try.prog 53 (growArgs cB B n) W fun en W' => en = .returned (.bool true) ∧ J (pre ++ growL E r n b) W' ∧ ∃ b', Gr l cB B b' W' ∧ ∀ j, j < n → b'.f j = b.f j := by
  have HH := Lib.hid h
  clear h
  intro r
  induction r with
  | zero =>
    intro n hn b pre W hJ hG hb
    obtain rfl : n = 4 := by omega
    exact grow_end l cB B E J HH.out b pre W hJ hG hb
  | succ r ih =>
    intro n hn b pre W hJ hG hb
    have IH := Lib.hid ih
    have HJ := Lib.hid hJ
    have HG := Lib.hid hG
    have HB := Lib.hid hb
    have hn4 : n < 4 := by omega
    have hne : ((n : Int) == 4) = false := by simp; omega
    have c2 := HH.out.cls pre W hJ
    clear ih hJ hG hb
    go_enter Try.func53, Try.ntmps53
    go_wp2_with fail
    clear c2
    go_loopw [7] (fun t wr => ∃ (k : Nat) (b' : Bd), k ≤ 2 * E + 1 ∧ t = .int .i64 ((k : Int) - E) ∧ J (pre ++ doneL E r n b k) wr ∧ Gr l cB B b' wr ∧ ∀ j, j < n → b'.f j = b.f j) (fun t _ => ((E : Int) + 1 - intOf t).toNat)
    case atStart => exact ⟨0, b, Nat.zero_le _, by simp, by rw [doneL_zero, List.append_nil]; exact HJ.out, HG.out, fun _ _ => rfl⟩
    case round =>
      clear HJ HG
      obtain ⟨k, b', hk, rfl, hJ, hG, hag⟩ := hrel
      have HJ := Lib.hid hJ
      have HG := Lib.hid hG
      have HA := Lib.hid hag
      have c2 := HH.out.cls _ wr hJ
      clear hJ hag
      by_cases hkE : k < 2 * E + 1
      · have hle : decide ((k : Int) - E ≤ E) = true := by simp; omega
        obtain ⟨x, hx⟩ : ∃ x, x = (k : Int) - E := ⟨_, rfl⟩
        rw [← hx] at hle ⊢
        have hxb : -(E : Int) ≤ x ∧ x ≤ E := by omega
        have HX := Lib.hid hx
        clear hx
        have KC : stepN n b x = true → ∀ W', Below B wr W' → Gr l cB B (b'.set n x) W' → Calls Try.prog 53 #[.int .i64 ((n : Int) + 1), .pointer (some ⟨B, 0, none⟩), .pointer (some ⟨B + 1, 0, none⟩), .pointer (some ⟨cB, 0, none⟩), .pointer (some ⟨B + 2, 0, none⟩)] W' fun en W2 => en = .returned (.bool true) ∧ J (pre ++ doneL E r n b (k + 1)) W2 ∧ ∃ b2, Gr l cB B b2 W2 ∧ ∀ j, j < n → b2.f j = b.f j := by
          intro hs W' hb hg
          have e : growL E r (n + 1) (b'.set n x) = growL E r (n + 1) (b.set n x) := growL_agree E r (n + 1) _ _ (by omega) fun j hj => by
            rw [Bd.set_f _ _ _ _ hn4 (by omega), Bd.set_f _ _ _ _ hn4 (by omega)]
            split
            · rfl
            · exact HA.out j (by omega)
          have C := IH.out (n + 1) (by omega) (b'.set n x) (pre ++ doneL E r n b k) W' (HH.out.keep _ _ _ HJ.out hb) hg (fun j hj => by
            rw [Bd.set_f _ _ _ _ hn4 (by omega)]
            split
            · exact hxb
            · rw [HA.out j (by omega)]; exact HB.out j (by omega))
          refine C.mono ?_
          rintro en W2 ⟨rfl, h1, b2, h2, h3⟩
          refine ⟨rfl, ?_, b2, h2, fun j hj => ?_⟩
          · rw [doneL_succ _ _ _ _ _ hkE, ← HX.out, hs, if_pos rfl, ← e, ← List.append_assoc]; exact h1
          · rw [h3 j (by omega), Bd.set_f _ _ _ _ hn4 (by omega), if_neg (by omega)]
            exact HA.out j hj
        replace KC := Lib.hid KC
        have cn : wr.cell? ⟨B + 1, n, none⟩ = some (.int .i64 (b'.f n)) := (hG.b.cell n).trans (Bd.cells_at b' n hn4)
        have fn := hG.b.frozen n
        have g0 : wr.cell? ⟨B + 2, 0, none⟩ = some (.func (.func 53) #[] #[.pointer (some ⟨B, 0, none⟩), .pointer (some ⟨B + 1, 0, none⟩), .pointer (some ⟨cB, 0, none⟩), .pointer (some ⟨B + 2, 0, none⟩)]) := hG.g.cell 0
        have oG := Old.mk hG.g.lt
        have oB := Old.mk hG.b.lt
        rcases Nat.eq_zero_or_pos n with h0 | h0
        · have hs : stepN n b x = true := by unfold stepN; rw [decide_eq_true h0]; rfl
          have z1 : decide ((0 : Int) < (n : Int)) = false := by simp; omega
          have z2 : decide (0 < n) = false := by simp; omega
          clear hG h0
          go_wp2_with fail
          refine ((KC.out hs) _ ((Below.refl _ _).setCell (by show B ≤ B + 1; omega) _) (HG.out.set_ n hn4 x)).mono ?_
          rintro _ W2 ⟨rfl, hJ2, b2, hG2, ha2⟩
          go_wp2_with fail
          exact ⟨⟨k + 1, b2, by omega, by rw [HX.out]; go_num, hJ2, hG2, ha2⟩, by simp [intOf]; omega⟩
        · have cm : wr.cell? ⟨B + 1, n - 1, none⟩ = some (.int .i64 (b'.f (n - 1))) := (hG.b.cell (n - 1)).trans (Bd.cells_at b' (n - 1) (by omega))
          rw [HA.out (n - 1) (by omega)] at cm
          have hbm := HB.out (n - 1) (by omega)
          have z1 : decide ((0 : Int) < (n : Int)) = true := by simp; omega
          have z2 : decide (0 < n) = true := by simp; omega
          have ht : ((n : Int) - 1).toNat = n - 1 := by omega
          have hsn : stepN n b x = inB (x - b.f (n - 1)) (-1) 1 := by unfold stepN; rw [decide_eq_false (by omega)]; rfl
          have H51 := Lib.hid (fun q c w h0 => one_any (-1) 1 (x - b.f (n - 1)) q c w h0)
          generalize b.f (n - 1) = bm at *
          clear hG
          cases hs : inB (x - bm) (-1) 1
          · rw [hs] at hsn H51
            have HS := Lib.hid hsn
            clear hs hsn
            go_wp2_with fail
            refine Calls.same (H51.out _ _ _ (by simp [go_sem])) ?_
            go_wp2_with fail
            exact ⟨⟨k + 1, b', by omega, by rw [HX.out]; go_num, HH.out.keep _ _ _ (by rw [doneL_succ _ _ _ _ _ hkE, ← HX.out, HS.out, if_neg (by simp), List.append_nil]; exact HJ.out) ((Below.refl _ _).alloc (by have := HG.out.y.lt; omega) _), HG.out.keep (KeepB.of_ext ((Ext.refl _).alloc _)), HA.out⟩, by simp [intOf]; omega⟩
          · rw [hs] at hsn H51
            have HS := Lib.hid hsn
            clear hs hsn
            go_wp2_with fail
            refine Calls.same (H51.out _ _ _ (by simp [go_sem])) ?_
            go_wp2_with fail
            have hE1 := (Ext.refl wr).alloc (.cells #[.int .i64 (x - bm)] 3)
            refine ((KC.out HS.out) _ (((Below.refl B wr).alloc (by have := HG.out.y.lt; omega) _).setCell (by show B ≤ B + 1; omega) _) ((HG.out.keep (KeepB.of_ext hE1)).set_ n hn4 x)).mono ?_
            rintro _ W2 ⟨rfl, hJ2, b2, hG2, ha2⟩
            clear hE1
            go_wp2_with fail
            exact ⟨⟨k + 1, b2, by omega, by rw [HX.out]; go_num, hJ2, hG2, ha2⟩, by simp [intOf]; omega⟩
      · obtain rfl : k = 2 * E + 1 := by omega
        have hle : decide (((2 * E + 1 : Nat) : Int) - E ≤ E) = false := by simp; omega
        obtain ⟨x, hx⟩ : ∃ x, x = ((2 * E + 1 : Nat) : Int) - E := ⟨_, rfl⟩
        rw [← hx] at hle ⊢
        clear hx hG
        go_wp2_with fail
        go_ret
        exact ⟨rfl, by rw [← doneL_all]; exact HJ.out, b', HG.out, HA.out⟩
end Go.Proofs.Ytchplmenkdghcaa

