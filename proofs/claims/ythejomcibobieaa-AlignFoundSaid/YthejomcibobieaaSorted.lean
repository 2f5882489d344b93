/- Points in the order of a print (46). -/
import Derived.Test.YthejomcibobieaaCopies
import Derived.Test.YthejomcibobieaaTops
namespace Go.Proofs.Ythejomcibobieaa
open Go.RowKit

def ltM (a b : Mi) : Bool := decide (a.y < b.y) || (a.y == b.y && decide (a.x < b.x))
theorem ltM_iff {a b : Mi} : ltM a b = true ↔ a.y < b.y ∨ a.y = b.y ∧ a.x < b.x := by simp [ltM]
theorem ltM_not {a b : Mi} : ltM a b = false ↔ ¬ (a.y < b.y ∨ a.y = b.y ∧ a.x < b.x) := by
  rw [← ltM_iff]; simp
def leR (a b : Mi) : Prop := ltM b a = false
theorem ins_pair {P : List Mi} {x : Mi} {k : Nat} (h : P.Pairwise leR) (h1 : ∀ y ∈ P.drop k, ltM x y = true) (h2 : k = 0 ∨ ∃ k' y, k = k' + 1 ∧ P[k']? = some y ∧ ltM x y = false) : (P.take k ++ x :: P.drop k).Pairwise leR := by
  have hp := h
  rw [← List.take_append_drop k P, List.pairwise_append] at hp
  obtain ⟨p1, p2, p3⟩ := hp
  rw [List.pairwise_append]
  refine ⟨p1, List.pairwise_cons.2 ⟨fun b hb => ?_, p2⟩, fun a ha b hb => ?_⟩
  · have := ltM_iff.1 (h1 b hb)
    exact ltM_not.2 (by omega)
  · rcases List.mem_cons.1 hb with rfl | hb
    · rcases h2 with rfl | ⟨k', y, rfl, hy, hxy⟩
      · simp at ha
      · have hk : k' < P.length := (List.getElem?_eq_some_iff.1 hy).1
        rw [List.take_succ_eq_append_getElem hk] at ha p1
        have e : P[k'] = y := by
          rw [List.getElem?_eq_getElem hk] at hy
          exact Option.some.inj hy
        rw [e] at ha p1
        rcases List.mem_append.1 ha with ha | ha
        · have := ltM_not.1 ((List.pairwise_append.1 p1).2.2 a ha y (by simp))
          have h4 := ltM_not.1 hxy
          exact ltM_not.2 (by omega)
        · rw [List.mem_singleton.1 ha]; exact hxy
    · exact p3 a ha b hb
theorem swap_list {P : List Mi} {x y : Mi} {k : Nat} {rest : List Mi} (hy : P[k]? = some y) :
    ((P.take (k + 1) ++ x :: P.drop (k + 1) ++ rest).set (k + 1) y).set k x = P.take k ++ x :: P.drop k ++ rest := by
  have hk : k < P.length := (List.getElem?_eq_some_iff.1 hy).1
  have e : P[k] = y := by
    rw [List.getElem?_eq_getElem hk] at hy
    exact Option.some.inj hy
  have e1 : P.take (k + 1) = P.take k ++ [y] := by rw [List.take_succ_eq_append_getElem hk, e]
  have e2 : P.drop k = y :: P.drop (k + 1) := by rw [List.drop_eq_getElem_cons hk, e]
  rw [e1, e2]
  have hl : (P.take k).length = k := by simp; omega
  generalize P.take k = a at *
  generalize P.drop (k + 1) = d
  subst hl
  simp
/-- a block that holds points at its head -/
def Rw (w : World) (g : Nat) (l : List Mi) : Prop := ∃ cur : Array Value, Blk w g 24 cur ∧ l.length * 4 ≤ cur.size ∧ ∀ (k : Nat) (m : Mi), l[k]? = some m →
  cur[k * 4]? = some (.int .i64 m.x) ∧ cur[k * 4 + 1]? = some (.int .i64 m.y) ∧ cur[k * 4 + 2]? = some (.int .u8 m.kind) ∧ cur[k * 4 + 3]? = some (.int .u8 m.dir)
theorem Rw.lt {w : World} {g : Nat} {l : List Mi} (h : Rw w g l) : g < w.heap.size := by obtain ⟨cur, hB, _⟩ := h; exact hB.lt
theorem Rw.grow {w w' : World} {g : Nat} {l : List Mi} (h : Rw w g l) (hE : Ext w w') : Rw w' g l := by obtain ⟨cur, hB, h1, h2⟩ := h; exact ⟨cur, hB.grow hE, h1, h2⟩
theorem Rw.frozen {w : World} {g : Nat} {l : List Mi} (h : Rw w g l) (j : Nat) : w.frozen? ⟨g, j, none⟩ = false := by obtain ⟨cur, hB, _⟩ := h; exact hB.frozen j
theorem Rw.cell {w : World} {g : Nat} {l : List Mi} (h : Rw w g l) {k : Nat} {m : Mi} (hk : l[k]? = some m) : w.cell? ⟨g, k * 4, none⟩ = some (.int .i64 m.x) ∧ w.cell? ⟨g, k * 4 + 1, none⟩ = some (.int .i64 m.y) ∧ w.cell? ⟨g, k * 4 + 2, none⟩ = some (.int .u8 m.kind) ∧ w.cell? ⟨g, k * 4 + 3, none⟩ = some (.int .u8 m.dir) := by
  obtain ⟨cur, hB, _, h2⟩ := h
  obtain ⟨a, b, c, d⟩ := h2 k m hk
  exact ⟨(hB.cell _).trans a, (hB.cell _).trans b, (hB.cell _).trans c, (hB.cell _).trans d⟩
theorem Rw.pts {w : World} {g : Nat} {l : List Mi} (h : Rw w g l) : Pts w (some ⟨g, 0, none⟩) l := .inr ⟨g, 0, rfl, h.lt, fun k m hk => by
  have := h.cell hk
  simpa using this⟩
theorem Rw.drew {w : World} {g : Nat} {l : List Mi} (h : Rw w g l) : Rw w.drew g l := by obtain ⟨cur, hB, h1, h2⟩ := h; exact ⟨cur, hB.drew, h1, h2⟩
theorem Rw.set4 {w : World} {g : Nat} {l : List Mi} (h : Rw w g l) {k : Nat} (hk : k < l.length) (m : Mi) :
    Rw ((((w.setCell ⟨g, k * 4, none⟩ (.int .i64 m.x)).setCell ⟨g, k * 4 + 1, none⟩ (.int .i64 m.y)).setCell ⟨g, k * 4 + 2, none⟩ (.int .u8 m.kind)).setCell ⟨g, k * 4 + 3, none⟩ (.int .u8 m.dir)) g (l.set k m) := by
  obtain ⟨cur, hB, h1, h2⟩ := h
  refine ⟨_, (((hB.set_ _ _).set_ _ _).set_ _ _).set_ _ _, by simpa using h1, fun i n hi => ?_⟩
  rw [List.getElem?_set] at hi
  by_cases e : k = i
  · subst e
    rw [if_pos rfl, if_pos hk] at hi
    injection hi with hi
    subst hi
    simp [Array.getElem?_setIfInBounds]
    omega
  · rw [if_neg e] at hi
    obtain ⟨a, b, c, d⟩ := h2 i n hi
    refine ⟨?_, ?_, ?_, ?_⟩ <;> simp only [Array.getElem?_setIfInBounds] <;> repeat rw [if_neg (by omega)]
    all_goals assumption
theorem Rw.of_own {w : World} {base c : Nat} {A : Option Addr} {l : List Mi} (hl : 0 < l.length) (h : w.ownsRow base 24 4 (.slice A l.length c) l.length (flatG Mi.cellsL l)) : ∃ g, A = some ⟨g, 0, none⟩ ∧ base ≤ g ∧ Rw w g l ∧ l.length ≤ c := by
  obtain ⟨q1, q2⟩ := h
  rcases q2 with ⟨-, q2⟩ | ⟨g, cap, cur, hv, hb, hB0, hcap, hmx, hcs, htk⟩
  · omega
  injection hv with hA _ hc
  subst hA hc
  refine ⟨g, rfl, hb, ⟨cur, hB0, by omega, fun k m hk => ?_⟩, hcap⟩
  have g : ∀ j u, j < 4 → m.cellsL[j]? = some u → cur[k * 4 + j]? = some u := fun j u hj hu => by
    have h3 := (flatG_at mi_len l k m hk j hj).trans hu
    rw [← htk, List.getElem?_take] at h3
    split at h3
    · simpa using h3
    · cases h3
  exact ⟨g 0 _ (by omega) rfl, g 1 _ (by omega) rfl, g 2 _ (by omega) rfl, g 3 _ (by omega) rfl⟩
set_option maxRecDepth 100000 in
set_option maxHeartbeats 8000000 in
theorem sorted_any (A : Option Addr) (c : Nat) (l : List Mi) (w : World) (hP : Pts w A l) (hn : l.length ≤ 100) :
    Calls Try.prog 46 #[.slice A l.length c] w fun e w' => ∃ A' c' r, e = .returned (.slice A' r.length c') ∧ r.Perm l ∧ r.Pairwise leR ∧ Pts w' A' r ∧ Ext w w' := by
  have HS := Lib.hid (hP.sl.slc mi_len)
  have HO := Lib.hid (flatG_one mi_one l)
  clear hP
  go_enter Try.func46, Try.ntmps46
  go_wp2_with (at_builtin; refine wpList_append_new rfl infoM (.tmp 6) (.tmp 7) rfl w.heap.size ((Ext.refl w).alloc _).size _ rfl (own_empty 4 (Nat.le_refl _) (Blk.new w 24 #[])) A l.length c (flatG Mi.cellsL l) rfl (by exact HS.out.grow ((Ext.refl w).alloc _)) HO.out (by omega) (by omega) ?_; intro A1 c1 z1 hown1)
  have HE0 := Lib.hid (((Ext.refl w).alloc (.cells #[] 24)).ext z1)
  by_cases hl : 0 < l.length
  · obtain ⟨g, rfl, hg, hrw, hlc⟩ := Rw.of_own hl hown1
    have HR0 := Lib.hid hrw
    have HG := Lib.hid hg
    clear hown1 hrw hg HS HO
    generalize ext (w.alloc (.cells #[] 24)) z1 = V at *
    go_loopw [4] (fun t wr => ∃ (i : Nat) (r : List Mi), i ≤ l.length ∧ t = .int .i64 i ∧ r.Perm l ∧ (r.take i).Pairwise leR ∧ Rw wr g r ∧ Ext w wr) (fun t _ => l.length - (intOf t).toNat)
    case atStart => exact ⟨0, l, Nat.zero_le _, rfl, List.Perm.refl _, by simp, HR0.out, HE0.out⟩
    case round =>
      obtain ⟨i, r, hi, rfl, hperm, hpw, hrw, hE⟩ := hrel
      have HPM := Lib.hid hperm
      have HPW := Lib.hid hpw
      have HRW := Lib.hid hrw
      have HE := Lib.hid hE
      have hrl := hperm.length_eq
      clear hperm hpw hrw hE
      by_cases hlt : i < l.length
      · have hii : (i : Int) < l.length := by omega
        obtain ⟨x, hx⟩ : ∃ x, r[i]? = some x := ⟨_, List.getElem?_eq_getElem (by omega)⟩
        obtain ⟨P, hPe⟩ : ∃ P, P = r.take i := ⟨_, rfl⟩
        obtain ⟨rest, hre⟩ : ∃ rest, rest = r.drop (i + 1) := ⟨_, rfl⟩
        have hPl : P.length = i := by rw [hPe]; simp; omega
        have hrest : i + 1 + rest.length = l.length := by rw [hre]; simp; omega
        have hr : r = P ++ x :: rest := by
          have hil : i < r.length := by omega
          have e : r[i] = x := by
            rw [List.getElem?_eq_getElem hil] at hx
            exact Option.some.inj hx
          rw [hPe, hre]
          conv => lhs; rw [← List.take_append_drop i r, List.drop_eq_getElem_cons hil, e]
        rw [← hPe] at HPW
        have HPM2 := Lib.hid (show (P ++ x :: rest).Perm l from hr ▸ HPM.out)
        have HRW2 := Lib.hid (show Rw wr g (P.take i ++ x :: P.drop i ++ rest) from by
          rw [List.take_of_length_le (by omega), List.drop_of_length_le (by omega), List.append_assoc]
          exact hr ▸ HRW.out)
        clear hr hPe hre hx HPM HRW hrl
        go_wp2_with fail
        go_loopw [5] (fun t wr => ∃ (k : Nat), k ≤ i ∧ t = .int .i64 k ∧ (∀ y ∈ P.drop k, ltM x y = true) ∧ Rw wr g (P.take k ++ x :: P.drop k ++ rest) ∧ Ext w wr) (fun t _ => (intOf t).toNat)
        case atStart => exact ⟨i, Nat.le_refl _, rfl, by rw [List.drop_of_length_le (by omega)]; simp, HRW2.out, HE.out⟩
        case round =>
          clear HRW2 HE
          obtain ⟨k, hk, rfl, hgt, hrw, hE⟩ := hrel
          have HGT := Lib.hid hgt
          have HRW := Lib.hid hrw
          have HE := Lib.hid hE
          have oG := Old.mk hrw.lt
          clear hgt hrw hE
          have HFIN := Lib.hid (show (k = 0 ∨ ∃ k' y, k = k' + 1 ∧ P[k']? = some y ∧ ltM x y = false) → ∃ (i' : Nat) (r : List Mi), i' = i + 1 ∧ r.Perm l ∧ (r.take i').Pairwise leR ∧ Rw wr g r from fun h => by
            refine ⟨i + 1, P.take k ++ x :: P.drop k ++ rest, rfl, ?_, ?_, HRW.out⟩
            · refine List.Perm.trans ?_ HPM2.out
              have h1 : (P.take k ++ x :: P.drop k ++ rest).Perm (x :: (P.take k ++ P.drop k) ++ rest) := List.Perm.append_right rest List.perm_middle
              rw [List.take_append_drop] at h1
              exact h1.trans (by rw [List.cons_append]; exact List.perm_middle.symm)
            · have h1 : (P.take k ++ x :: P.drop k).length = i + 1 := by simp; omega
              rw [List.take_left' h1]
              exact ins_pair HPW.out HGT.out h)
          cases k with
          | zero =>
            go_wp2_with fail
            refine wp_region_ext (by kernel_rfl) (by kernel_rfl) ?_
            repeat (go_big_quiet_step (fail))
            refine wpQuiet_nil ?_
            rintro _ ⟨z2, rfl⟩
            go_wp2_with fail
            obtain ⟨i', r', rfl, f1, f2, f3⟩ := HFIN.out (.inl trivial)
            exact ⟨⟨i + 1, r', by omega, by go_num, f1, f2, f3.grow (Ext.ext_self _ _), HE.out.ext z2⟩, by simp [intOf]; omega⟩
          | succ k =>
            obtain ⟨y, hy⟩ : ∃ y, P[k]? = some y := ⟨_, List.getElem?_eq_getElem (by omega)⟩
            have hlx : (P.take (k + 1) ++ x :: P.drop (k + 1) ++ rest)[k + 1]? = some x := by
              have : (P.take (k + 1)).length = k + 1 := by simp; omega
              rw [List.append_assoc, List.getElem?_append_right (by omega), this, Nat.sub_self]; rfl
            have hly : (P.take (k + 1) ++ x :: P.drop (k + 1) ++ rest)[k]? = some y := by
              rw [List.append_assoc, List.getElem?_append_left (by simp; omega), List.getElem?_take, if_pos (by omega)]; exact hy
            have hll : (P.take (k + 1) ++ x :: P.drop (k + 1) ++ rest).length = l.length := by simp; omega
            obtain ⟨x0, x1, x2, x3⟩ := HRW.out.cell hlx
            obtain ⟨y0, y1, y2, y3⟩ := HRW.out.cell hly
            have fG := HRW.out.frozen
            have hk1 : (k : Int) + 1 < (l.length : Int) := by omega
            have hk2 : (k : Int) < (l.length : Int) := by omega
            have hw1 : IntKind.i64.wrap ((k : Int) + 1 - 1) = (k : Int) := (IntWalk.i64_in _ (by omega)).trans (by omega)
            have hna : ((k : Int) + 1).toNat = k + 1 := by omega
            have hwk : IntKind.i64.wrap (k : Int) = (k : Int) := IntWalk.i64_in _ (by omega)
            have hk0 : (0 : Int) ≤ (k : Int) + 1 := by omega
            have hw2 : IntKind.i64.wrap (((k + 1 : Nat) : Int) - 1) = (k : Int) := (IntWalk.i64_in _ (by omega)).trans (by omega)
            have hpos : decide ((0 : Int) < (k : Int) + 1) = true := by simp; try omega
            cases hxy : ltM x y
            · have hor := Lib.hid (ltM_not.1 hxy)
              have HXY := Lib.hid hxy
              have d1 : decide (x.y < y.y) = false := by simp; have := ltM_not.1 hxy; omega
              have hd : (x.y == y.y) = false ∨ (x.y == y.y) = true ∧ decide (x.x < y.x) = false := by
                have := ltM_not.1 hxy
                by_cases e : x.y = y.y
                · exact .inr ⟨by simpa using e, by simp; omega⟩
                · exact .inl (by simpa using e)
              rcases hd with d2 | ⟨d2, d3⟩
              all_goals
                go_wp2_with fail
                refine wp_region_ext (by kernel_rfl) (by kernel_rfl) ?_
                repeat (go_big_quiet_step (fail))
                refine wpQuiet_nil ?_
                rintro _ ⟨z2, rfl⟩
                go_wp2_with fail
                obtain ⟨i', r', rfl, f1, f2, f3⟩ := HFIN.out (.inr ⟨k, y, rfl, hy, HXY.out⟩)
                exact ⟨⟨i + 1, r', by omega, by go_num, f1, f2, f3.grow (Ext.ext_self _ _), HE.out.ext z2⟩, by simp [intOf]; omega⟩
            · have HXY := Lib.hid hxy
              have hd : decide (x.y < y.y) = true ∨ decide (x.y < y.y) = false ∧ (x.y == y.y) = true ∧ decide (x.x < y.x) = true := by
                have := ltM_iff.1 hxy
                by_cases e : x.y < y.y
                · exact .inl (by simpa using e)
                · exact .inr ⟨by simpa using e, by simp; omega, by simp; omega⟩
              rcases hd with d1 | ⟨d1, d2, d3⟩
              all_goals
                go_wp2_with fail
                refine wp_region_ext (by kernel_rfl) (by kernel_rfl) ?_
                repeat (go_big_quiet_step (fail))
                refine wpQuiet_nil ?_
                rintro _ ⟨z2, rfl⟩
                go_wp2_with fail
                have HRWa := Lib.hid (HRW.out.grow (Ext.ext_self wr z2))
                have HEa := Lib.hid (HE.out.ext z2)
                clear oG x0 x1 x2 x3 y0 y1 y2 y3 fG HE HRW HFIN
                generalize ext wr z2 = W at *
                obtain ⟨x0, x1, x2, x3⟩ := HRWa.out.cell hlx
                obtain ⟨y0, y1, y2, y3⟩ := HRWa.out.cell hly
                have fG := HRWa.out.frozen
                have oG := Old.mk HRWa.out.lt
                go_region_law (fail)
                all_goals
                  go_wp2_with fail
                  have hR := ((HRWa.out.set4 (k := k + 1) (by omega) y).set4 (k := k) (by simp; omega) x)
                  rw [swap_list hy] at hR
                  refine ⟨⟨k, by omega, rfl, fun y' hy' => ?_, hR.drew, ?_⟩, by simp [intOf]⟩
                  · have hkP : k < P.length := by omega
                    have e : P[k] = y := by
                      rw [List.getElem?_eq_getElem hkP] at hy
                      exact Option.some.inj hy
                    rw [List.drop_eq_getElem_cons hkP, e] at hy'
                    rcases List.mem_cons.1 hy' with rfl | hy'
                    · exact HXY.out
                    · exact HGT.out y' hy'
                  · repeat' (first | with_reducible exact HEa.out | with_reducible refine Ext.drew ?_ | with_reducible refine Ext.setCell ?_ (by exact HG.out) _)
      · obtain rfl : i = l.length := by omega
        have HRL := Lib.hid hrl
        go_wp2_with fail
        go_ret
        refine ⟨some ⟨g, 0, none⟩, c1, r, by rw [HRL.out]; rfl, HPM.out, ?_, HRW.out.pts, HE.out⟩
        have := HPW.out
        rwa [← HRL.out, List.take_length] at this
  · obtain rfl : l = [] := List.eq_nil_of_length_eq_zero (by omega)
    clear hown1
    go_loopw [4] (fun t wr => t = .int .i64 0 ∧ Ext w wr) (fun _ _ => 0)
    case atStart => exact ⟨rfl, HE0.out⟩
    case round =>
      obtain ⟨rfl, hE⟩ := hrel
      have HE := Lib.hid hE
      clear hE
      go_wp2_with fail
      go_ret
      exact ⟨A1, c1, [], rfl, List.Perm.refl _, List.Pairwise.nil, .inl rfl, HE.out⟩
end Go.Proofs.Ythejomcibobieaa
