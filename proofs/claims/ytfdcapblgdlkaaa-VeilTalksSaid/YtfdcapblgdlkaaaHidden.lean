/- The reference's order of a key. -/
import Derived.Test.YtfdcapblgdlkaaaLists
import Derived.Deep.RegionLaw
import Derived.Maps.AppendAt
namespace Go.Proofs.Ytfdcapblgdlkaaa
open Go.RowKit

theorem intsV_take (l : List Nat) (k : Nat) : intsV (l.take k) = (intsV l).take k := by unfold intsV; rw [List.map_take]
theorem intsV_drop (l : List Nat) (k : Nat) : intsV (l.drop k) = (intsV l).drop k := by unfold intsV; rw [List.map_drop]
theorem intsV_append (a b : List Nat) : intsV (a ++ b) = intsV a ++ intsV b := by unfold intsV; rw [List.map_append]
theorem ints_one (l : List Nat) : ∀ u ∈ intsV l, u.oneCell' = true := by
  intro u hu
  obtain ⟨n, _, rfl⟩ := List.mem_map.1 hu
  rfl
theorem lst_slc {w : World} {g c n : Nat} {l : List Nat} (h : Lst 3 w g c (intsV l)) (hn : l.length = n) : Slc w 1 (some ⟨g, 0, none⟩) n (intsV l) :=
  ⟨by rw [ints_len]; omega, fun _ => ⟨g, 0, rfl, h.lt, fun j u hu => by
    have hj : j < (intsV l).length := by
      rcases Nat.lt_or_ge j (intsV l).length with h1 | h1
      · exact h1
      · rw [List.getElem?_eq_none h1] at hu; cases hu
    rw [Nat.zero_add, h.at_ j hj]; exact hu⟩⟩
theorem lst_slc_take {w : World} {g c k : Nat} {l : List Nat} (h : Lst 3 w g c (intsV l)) (hk : k ≤ l.length) : Slc w 1 (some ⟨g, 0, none⟩) k (intsV (l.take k)) :=
  ⟨by rw [ints_len]; simp; omega, fun _ => ⟨g, 0, rfl, h.lt, fun j u hu => by
    rw [intsV_take, List.getElem?_take] at hu
    split at hu
    · rw [Nat.zero_add, h.at_ j (by rw [ints_len]; omega)]; exact hu
    · cases hu⟩⟩
theorem lst_slc_drop {w : World} {g c k : Nat} {l : List Nat} (h : Lst 3 w g c (intsV l)) : Slc w 1 (some ⟨g, k, none⟩) (l.length - k) (intsV (l.drop k)) :=
  ⟨by rw [ints_len]; simp, fun _ => ⟨g, k, rfl, h.lt, fun j u hu => by
    rw [intsV_drop, List.getElem?_drop] at hu
    have hj : k + j < (intsV l).length := by
      rcases Nat.lt_or_ge (k + j) (intsV l).length with h1 | h1
      · exact h1
      · rw [List.getElem?_eq_none h1] at hu; cases hu
    rw [h.at_ (k + j) hj]; exact hu⟩⟩
theorem lst_int' {w : World} {g c : Nat} {l : List Nat} (h : Lst 3 w g c (intsV l)) (j : Nat) (hj : j < l.length) : w.cell? ⟨g, j, none⟩ = some (.int .i64 ((l.getD j 0 : Nat) : Int)) := by
  rw [h.at_ j (by rw [ints_len]; omega), ints_at, List.getD_eq_getElem?_getD, List.getElem?_eq_getElem (by omega)]; rfl
/-- append onto a slice that was made since W0: only its own block is turned. -/
theorem run_append_keep {P : Program} {W0 W : World} (hW : Ext W0 W) {t e : TypeId} {size bytes : Nat} (hI : ElemInfo P t e size bytes) (ty : TypeId)
    {v : Value} {n : Nat} {xs : List Value} (hown : W.ownsRow W0.heap.size e size v n xs) {A : Option Addr} {m : Nat} (c : Nat) {news : List Value} (hm : 0 < m) (hr : Slc W size A m news) (h1 : ∀ u ∈ news, u.oneCell' = true)
    (hsmall : n + m ≤ 65536) (hby : bytes ≤ 65536) :
    ∃ A' c' w', (Builtin.append_ #[t, t] ty #[v, .slice A m c]).run P W = .ok (.slice A' (n + m) c') w' ∧ w'.ownsRow W0.heap.size e size (.slice A' (n + m) c') (n + m) (xs ++ news) ∧ Ext W0 w' ∧ W.grownBy w' v.ownBlock ∧ ((Value.slice A' (n + m) c').ownBlock = v.ownBlock ∨ (Value.slice A' (n + m) c').ownBlock = some W.heap.size) := by
  obtain ⟨ht, i, z, hi, hz, hsize, hbytes, hzs, hpos⟩ := hI
  have hold : ∀ k, v.ownBlock = some k → W0.heap.size ≤ k := fun k hk => (hown.lt k hk).1
  obtain ⟨b, off, hA, _, hc⟩ := hr.2 hm
  subst hA
  have hcells : ∀ j u, news[j]? = some u → W.cell? ((⟨b, off, none⟩ : Addr).add j) = some u := fun j u hu => by rw [addr_add]; exact hc j u hu
  have hb2 : (n + m) * bytes ≤ 140737488355328 := Nat.le_trans (Nat.mul_le_mul hsmall hby) (by decide)
  obtain ⟨v', w', hrun, h2, h3, _, h5⟩ := run_append_own_at (P := P) W W0.heap.size t ty e i z size bytes ht hi hz hsize hbytes hzs hpos v n xs hown ⟨b, off, none⟩ m c news hr.1 hcells h1 (by simp only [maxLen]; omega) hb2 hW.size
  obtain ⟨A', c', rfl⟩ := own_slice h2
  exact ⟨A', c', w', hrun, h2, hW.grown h3 hold, h3, h5⟩
theorem wpList_append_keep {P : Program} {o : Oper} {a : Act} {w : World} {Q : Exit → Act → World → Prop} {ops : Array Oper} {rest : List Oper} (hgd : o.guard = none) (W0 : World) (hW : Ext W0 w) {t e : TypeId} {size bytes : Nat} (hI : ElemInfo P t e size bytes) (s x : Operand)
    (ho : o.op = .call { callee := .builtin .append, args := #[s, x], argTypes := #[t, t] })
    (v : Value) (n : Nat) (xs : List Value) (hs : a.eval s = v) (hown : w.ownsRow W0.heap.size e size v n xs)
    (A : Option Addr) (m c : Nat) (news : List Value) (hx : a.eval x = .slice A m c) (hm : 0 < m) (hr : Slc w size A m news) (h1 : ∀ u ∈ news, u.oneCell' = true)
    (hsmall : n + m ≤ 65536) (hby : bytes ≤ 65536)
    (h : ∀ A' c' z, (ext W0 z).ownsRow W0.heap.size e size (.slice A' (n + m) c') (n + m) (xs ++ news) → (∀ b, b < w.heap.size → v.ownBlock ≠ some b → (ext W0 z).heap[b]? = w.heap[b]? ∧ (Value.slice A' (n + m) c').ownBlock ≠ some b) → wpList P ops Q rest (a.put o.dst (.slice A' (n + m) c')) (ext W0 z)) : wpList P ops Q (o :: rest) a w :=
  wpList_plain hgd fun _ hK => by
    obtain ⟨A', c', w', hrun, h2, h3, h4, h5⟩ := run_append_keep hW hI o.type hown c hm hr h1 hsmall hby
    unfold Oper.wp execOp
    simp only [ho, resolve, invoke, builtin, Sem.run_bind, Sem.run_pure, Result.andThen_ok, List.map_toArray, List.map_cons, List.map_nil, hs, hx, hrun]
    have := h A' c' w'
    rw [ext_of h3] at this
    refine hK _ _ (this h2 fun b hb hne => ⟨h4.block b hb (fun e => hne e.symm), fun e => ?_⟩)
    rcases h5 with h5 | h5
    · exact hne (h5.symm.trans e)
    · rw [h5] at e; injection e with e; omega
set_option maxRecDepth 100000 in
set_option maxHeartbeats 2000000 in
theorem ordered_any (n p : Nat) (hn : 1 ≤ n ∧ n ≤ 15) (hp : p < factN n) (w : World) : Calls Try.prog 70 #[.int .i64 n, .int .i64 p] w (RetS 3 1 n (intsV (dec n (List.range n) p)) w) := by
  have hn2 : (n : Int) ≤ 15 := by omega
  go_enter Try.func70, Try.ntmps70
  go_wp2_with fail
  go_loopw [5, 7] (fun o i wr => ∃ (k : Nat) (B : Option Addr) (d : Nat) (z : World), k ≤ n ∧ i = .int .i64 k ∧ o = .slice B k d ∧ wr = ext w z ∧ wr.ownsRow w.heap.size 3 1 (.slice B k d) k (intsV (List.range k))) (fun _ i _ => n - (intOf i).toNat)
  case atStart => exact ⟨0, none, 0, w, Nat.zero_le _, rfl, rfl, (ext_of (Ext.refl w)).symm, own_nil _ _ _ _⟩
  case round =>
    obtain ⟨k, B, d, z, hk, rfl, rfl, rfl, hown⟩ := hrel
    have HO := Lib.hid hown
    clear hown
    by_cases hlt : k < n
    · have hk2 : (k : Int) < (n : Int) := by omega
      go_wp2_with (at_builtin; refine wpList_append_ext rfl w (by exact (Ext.ext_self w z).alloc _) infoI (.tmp 15) (.tmp 17) rfl _ k (intsV (List.range k)) rfl (by exact own_grow HO.out ((Ext.refl _).alloc _)) _ 1 1 [.int .i64 (k : Int)] rfl (Slc.of_blk (cs := #[.int .i64 (k : Int)]) (t := 3) (Blk.new _ _ _) rfl) (by simp [Value.oneCell']) (by omega) (by decide) ?_; intro B' d' z2 hown2)
      go_roundw
      case rel =>
        refine ⟨k + 1, B', d', z2, by omega, by go_num, rfl, rfl, ?_⟩
        have : intsV (List.range (k + 1)) = intsV (List.range k) ++ [.int .i64 (k : Int)] := by simp [intsV, List.range_succ]
        rw [this]; exact hown2
      case measure => simp [intOf]; omega
    · obtain rfl : k = n := by omega
      obtain ⟨g, hg, hbg, hN⟩ := lst_of_own (by omega) (by simp [ints_len]) HO.out
      subst hg
      have HN := Lib.hid hN
      clear hN HO
      go_wp2_with fail
      have HEV := Lib.hid (Ext.ext_self w z)
      generalize ext w z = V at *
      go_loopw [1, 5, 6, 8, 9] (fun s1 s5 s6 s8 _ wr => ∃ (j : Nat) (left outl : List Nat) (pp g d : Nat), j ≤ k ∧ s8 = .int .i64 ((j : Int) - 1) ∧ (∃ A, s5 = .slice A j d ∧ (0 < j → A = some ⟨g, 0, none⟩ ∧ Lst 3 wr g d (intsV left) ∧ s6.ownBlock ≠ some g)) ∧ left.length = j ∧ s1 = .int .i64 (pp : Int) ∧ pp < factN j ∧ outl.length = k - j ∧ outl ++ dec j left pp = dec k (List.range k) p ∧ wr.ownsRow V.heap.size 3 1 s6 (k - j) (intsV outl) ∧ Ext V wr) (fun _ _ _ i _ _ => (intOf i + 1).toNat)
      case atStart => exact ⟨k, List.range k, [], p, g, d, Nat.le_refl _, rfl, ⟨_, rfl, fun _ => ⟨rfl, HN.out, by intro h; cases h⟩⟩, by simp, rfl, hp, by simp, rfl, by rw [Nat.sub_self]; exact own_nil _ _ _ _, Ext.refl _⟩
      case round =>
        obtain ⟨j, left, outl, pp, g', d', hj, rfl, ⟨A, rfl, hA⟩, hll, rfl, hpp, hol, hdec, hown, hEw⟩ := hrel
        by_cases hj0 : 0 < j
        · obtain ⟨rfl, hNl, hne⟩ := hA hj0
          obtain ⟨f, rfl⟩ : ∃ f, j = f + 1 := ⟨j - 1, by omega⟩
          have e7 : (((f + 1 : Nat) : Int) - 1) = (f : Int) := by omega
          rw [e7]
          obtain ⟨F, hF⟩ : ∃ F, F = factN f := ⟨_, rfl⟩
          obtain ⟨q, hqd⟩ : ∃ q, q = pp / factN f := ⟨_, rfl⟩
          obtain ⟨r, hrd⟩ : ∃ r, r = pp % factN f := ⟨_, rfl⟩
          obtain ⟨vv, hvv⟩ : ∃ vv, vv = left.getD q 0 := ⟨_, rfl⟩
          have hfp := fact_le f (by omega)
          have hat := div_lt f pp hpp
          have hmo := Nat.mod_lt pp (fact_pos f)
          have hq : (pp : Int) / (factN f : Int) = ((pp / factN f : Nat) : Int) := (Int.natCast_ediv _ _).symm
          have hr : (pp : Int) % (factN f : Int) = ((pp % factN f : Nat) : Int) := (Int.natCast_emod _ _).symm
          have hC := refFact_any f (by omega)
          have HD := Lib.hid (show dec (f + 1) left pp = vv :: dec f (left.eraseIdx q) r by rw [hvv, hqd, hrd]; rfl)
          rw [← hqd, ← hF] at hq
          rw [← hrd, ← hF] at hr
          rw [← hF] at hfp
          rw [← hqd] at hat
          rw [← hrd] at hmo
          rw [← hF] at hC
          have C := Lib.hid hC
          have hf0 : (0 : Int) ≤ (f : Int) := by omega
          have hqlt : q < left.length := by omega
          have cat := lst_int' hNl q hqlt
          rw [← hvv] at cat
          have HMO := Lib.hid hmo
          have hmo2 : (r : Int) < F := by omega
          have HPP := Lib.hid hpp
          have HF := Lib.hid hF
          clear hqd hrd hvv hC hmo hpp hF hA
          have hq1 : (q : Int) < (f : Int) + 1 := by omega
          have HO2 := Lib.hid hown
          have HDE := Lib.hid hdec
          have HNl := Lib.hid hNl
          have HEW := Lib.hid hEw
          have hdl : f + 1 ≤ d' := by obtain ⟨cur, _, h1, _⟩ := hNl; rw [ints_len] at h1; omega
          have hold := Old.mk hNl.lt
          have HNE := Lib.hid hne
          clear hown hdec hEw hNl e7 hne
          have hsm : k - (f + 1) + 1 ≤ 65536 := by omega
          go_wp2_with (first | (go_at_call 45; refine Calls.same (C.out _) ?_) | (at_builtin; refine wpList_append_keep rfl V (by exact HEW.out.alloc _) infoI (.tmp 33) (.tmp 38) rfl _ (k - (f + 1)) (intsV outl) rfl (by exact own_grow HO2.out ((Ext.refl _).alloc _)) _ 1 1 [.int .i64 (vv : Int)] rfl (by decide) (Slc.of_blk (cs := #[.int .i64 (vv : Int)]) (t := 3) (Blk.new _ _ _) rfl) (by simp [Value.oneCell']) hsm (by decide) ?_; intro B2 d2 z2 hown2 hkeep))
          have hg1 : (ext V z2).heap[g']? = wr.heap[g']? := by
            have h1 := (hkeep g' (by have := HNl.out.lt; simp; omega) HNE.out).1
            exact h1.trans (Below.heap_alloc wr _ g' HNl.out.lt)
          have hL2 : Lst 3 (ext V z2) g' d' (intsV left) := by
            obtain ⟨cur, hB, r⟩ := HNl.out
            exact ⟨cur, hg1.trans hB, r⟩
          have hXV : Ext V (ext V z2) := Ext.ext_self V z2
          have HXV := Lib.hid hXV
          have HL2 := Lib.hid hL2
          have HOWN := Lib.hid hown2
          have hold2 := Old.mk hL2.lt
          have HT := Lib.hid (lst_slc_take hL2 (k := q) (by omega))
          have hd2 := lst_slc_drop hL2 (k := q + 1)
          rw [hll, show f + 1 - (q + 1) = f - q by omega] at hd2
          have HD2 := Lib.hid hd2
          clear hd2
          clear hL2 hown2 hkeep hg1 hold HNE HNl HO2 HEW cat hXV
          generalize ext V z2 = Y at *
          have hq3 : (q : Int) + 1 ≤ (f : Int) + 1 := by omega
          have hq6 : (q : Int) ≤ (f : Int) := by omega
          have hq4 : (q : Int) ≤ (d' : Int) := by omega
          have hq5 : (q : Int) + 1 ≤ (d' : Int) := by omega
          have hq7 : (f : Int) + 1 ≤ (d' : Int) := by omega
          have hq8 : (q : Int) ≤ (q : Int) + 1 := by omega
          have hq9 : (0 : Int) ≤ (q : Int) + 1 := by omega
          have hna : ((q : Int) + 1).toNat = q + 1 := by omega
          have hw1 : IntKind.i64.wrap ((q : Int) + 1) = (q : Int) + 1 := IntWalk.i64_in _ (by omega)
          have HIN := Lib.hid (Ext.trans HEV.out HXV.out)
          have herase : left.eraseIdx q = left.take q ++ left.drop (q + 1) := List.eraseIdx_eq_take_drop_succ ..
          have HER := Lib.hid herase
          have HFIN := Lib.hid (show ∀ (z4 : World) (A2 : Option Addr) (c2 : Nat), (ext Y z4).ownsRow Y.heap.size 3 1 (.slice A2 f c2) f (intsV (left.eraseIdx q)) →
              ∃ g2, (0 < f → A2 = some ⟨g2, 0, none⟩ ∧ Lst 3 (ext Y z4) g2 c2 (intsV (left.eraseIdx q)) ∧ (Value.slice B2 (k - (f + 1) + 1) d2).ownBlock ≠ some g2) by
            intro z4 A2 c2 ho
            rcases Nat.eq_zero_or_pos f with h0 | h0
            · exact ⟨0, fun h => by omega⟩
            · obtain ⟨g2, e1, e2, e3⟩ := lst_of_own h0 (by rw [ints_len, List.length_eraseIdx, if_pos hqlt]; omega) ho
              refine ⟨g2, fun _ => ⟨e1, e3, fun e => ?_⟩⟩
              have := (HOWN.out.lt g2 e).2
              omega)
          clear herase
          by_cases hcd : d' = q + 1
          · subst hcd
            obtain rfl : f = q := by omega
            go_region_law (first
              | (refine step_append_new rfl infoI (.tmp 40) (.tmp 43) rfl Y.heap.size (((Ext.refl Y).alloc (.cells #[] 3)).drew.size) _ rfl (own_empty 1 (Nat.le_refl _) ((Blk.new Y 3 #[]).drew)) (some ⟨g', 0, none⟩) f _ (intsV (left.take f)) rfl (by exact HT.out.grow ((Ext.refl Y).alloc _).drew) (ints_one _) (by omega) (by decide) ?_; intro A1 c1 z3 hown1)
              | (refine step_append_ext rfl Y (((Ext.refl Y).alloc _).drew.ext z3) infoI (.tmp 44) (.tmp 48) rfl (.slice A1 f c1) f (intsV (left.take f)) rfl hown1 (some ⟨g', 0, none⟩) 0 _ [] rfl (Slc.none_ _ _ _) (by simp) (by omega) (by decide) ?_; intro A2 c2 z4 hown2))
            all_goals
              have ho2 : (ext Y z4).ownsRow Y.heap.size 3 1 (.slice A2 f c2) f (intsV (left.eraseIdx f)) := by
                rw [HER.out, intsV_append, show left.drop (f + 1) = [] from List.drop_of_length_le (by omega)]
                exact hown2
              obtain ⟨g2, hg2⟩ := HFIN.out z4 A2 c2 ho2
              go_wp2_with fail
              refine ⟨⟨f, left.eraseIdx f, outl ++ [vv], r, g2, c2, by omega, rfl, ⟨_, rfl, hg2⟩, by rw [List.length_eraseIdx, if_pos hqlt]; omega, rfl, HMO.out, by simp; omega, ?_, ?_, ?_⟩, by simp [intOf]⟩
              · rw [List.append_assoc, List.singleton_append, ← HD.out]; exact HDE.out
              · have e : intsV (outl ++ [vv]) = intsV outl ++ [.int .i64 (vv : Int)] := by simp [intsV]
                have e2 : k - f = k - (f + 1) + 1 := by omega
                rw [e, e2]
                exact own_grow HOWN.out (Ext.ext_self _ _)
              · exact HXV.out.ext _
          · go_region_law (first
              | (refine step_append_new rfl infoI (.tmp 40) (.tmp 43) rfl Y.heap.size (((Ext.refl Y).alloc (.cells #[] 3)).drew.size) _ rfl (own_empty 1 (Nat.le_refl _) ((Blk.new Y 3 #[]).drew)) (some ⟨g', 0, none⟩) q _ (intsV (left.take q)) rfl (by exact HT.out.grow ((Ext.refl Y).alloc _).drew) (ints_one _) (by omega) (by decide) ?_; intro A1 c1 z3 hown1)
              | (refine step_append_ext rfl Y (((Ext.refl Y).alloc _).drew.ext z3) infoI (.tmp 44) (.tmp 48) rfl (.slice A1 q c1) q (intsV (left.take q)) rfl hown1 (some ⟨g', q + 1, none⟩) (f - q) _ (intsV (left.drop (q + 1))) rfl (by exact HD2.out.grow (((Ext.refl Y).alloc _).drew.ext z3)) (ints_one _) (by omega) (by decide) ?_; intro A2 c2 z4 hown2))
            all_goals
              have ho2 : (ext Y z4).ownsRow Y.heap.size 3 1 (.slice A2 f c2) f (intsV (left.eraseIdx q)) := by
                rw [HER.out, intsV_append]
                have e : q + (f - q) = f := by omega
                rw [e] at hown2
                exact hown2
              have e2 : q + (f - q) = f := by omega
              simp only [e2]
              obtain ⟨g2, hg2⟩ := HFIN.out z4 A2 c2 ho2
              go_wp2_with fail
              refine ⟨⟨f, left.eraseIdx q, outl ++ [vv], r, g2, c2, by omega, rfl, ⟨_, rfl, hg2⟩, by rw [List.length_eraseIdx, if_pos hqlt]; omega, rfl, HMO.out, by simp; omega, ?_, ?_, ?_⟩, by simp [intOf]⟩
              · rw [List.append_assoc, List.singleton_append, ← HD.out]; exact HDE.out
              · have e : intsV (outl ++ [vv]) = intsV outl ++ [.int .i64 (vv : Int)] := by simp [intsV]
                have e2 : k - f = k - (f + 1) + 1 := by omega
                rw [e, e2]
                exact own_grow HOWN.out (Ext.ext_self _ _)
              · exact HXV.out.ext _
        · obtain rfl : j = 0 := by omega
          have HOw := Lib.hid hown
          have HDe := Lib.hid hdec
          have HEw := Lib.hid hEw
          clear hown hdec hEw hA
          have hd0 : outl = dec k (List.range k) p := by have := HDe.out; simpa [dec] using this
          rw [Nat.sub_zero, hd0] at HOw
          obtain ⟨g', cap, hv, hg', hgl⟩ := HOw.out.form (by omega)
          subst hv
          clear hd0
          go_wp2_with fail
          go_ret
          exact ⟨some ⟨g', 0, none⟩, cap, rfl, own_mono HOw.out HEV.out.size, Ext.trans HEV.out HEw.out⟩
end Go.Proofs.Ytfdcapblgdlkaaa
/- Bits of words, picked and joined. -/
namespace Go.Proofs.Ytfdcapblgdlkaaa
open Go.RowKit

def bitV (b : Bool) : Value := .int .u16 (if b then 1 else 0)
theorem bitI_V (x : BitVec 16) (i : Nat) : Value.int .u16 (bitI x i) = bitV (x.getLsbD i) := rfl
set_option maxRecDepth 100000 in
set_option maxHeartbeats 1000000 in
theorem bits_any (x : BitVec 16) (n : Nat) (hn : n ≤ 15) (w : World) : Calls Try.prog 89 #[.int .u16 (uv x), .int .i64 n] w (RetL 27 (valL n fun i => bitV (x.getLsbD i)) w) := by
  have hn2 : (n : Int) ≤ 15 := by omega
  go_enter Try.func89, Try.ntmps89
  go_wp2_with (at_make; refine wpList_make_blk _ rfl (.tmp 7) (.tmp 7) 123 rfl 27 (.int .u16 0) zInfo16 n (by omega) rfl rfl ?_; intro z0 hB0)
  have HB0 := Lib.hid hB0
  clear hB0
  go_loopw [6, 11] (fun _ i wr => ∃ (k : Nat) (z : World), k ≤ n ∧ i = .int .i64 k ∧ wr = ext w z ∧ Blk wr w.heap.size 27 (fillA n (.int .u16 0) (fun i => bitV (x.getLsbD i)) k)) (fun _ i _ => n - (intOf i).toNat)
  case atStart => exact ⟨0, z0, Nat.zero_le _, rfl, rfl, by rw [fill_zero]; exact HB0.out⟩
  case round =>
    obtain ⟨k, z, hk, rfl, rfl, hB⟩ := hrel
    have HB := Lib.hid hB
    by_cases hlt : k < n
    · have hk2 : (k : Int) < (n : Int) := by omega
      have h1 := uv_shr x k
      have h2 := bit_val x k
      have hm1 : min k 16 = k := by omega
      have hm2 : min k 64 = k := by omega
      have hc : (ext w z).cell? ⟨w.heap.size, k, none⟩ = some (.int .u16 0) := by rw [hB.cell, fill_at _ _ _ _ _ hlt, if_neg (Nat.lt_irrefl k)]
      have hf := hB.frozen k
      clear hB
      go_wp2_with fail
      refine ⟨⟨k + 1, _, by omega, by go_num, (ext_of ((Ext.ext_self w z).setCell (Nat.le_refl _) _)).symm, ?_⟩, by simp [intOf]; omega⟩
      rw [← fill_set _ _ _ k (.int .u16 (bitI x k)) rfl]
      exact HB.out.set_ k _
    · obtain rfl : k = n := by omega
      clear hB
      go_wp2_with fail
      go_ret
      exact ⟨w.heap.size, ret_of (by simp only [valL_len]; rfl), Nat.le_refl _, by rw [← fill_full]; exact HB.out, Ext.ext_self w z⟩
set_option maxRecDepth 100000 in
set_option maxHeartbeats 1000000 in
theorem pick_any (f : Nat → Bool) (l : List Nat) (n : Nat) (hn : n ≤ 15) (hl : l.length = n) (hlt : ∀ x ∈ l, x < n) (B g c : Nat) (w : World) (hB : Blk w B 27 (valL n fun i => bitV (f i)).toArray) (hN : Lst 3 w g c (intsV l)) :
    Calls Try.prog 88 #[.slice (some ⟨B, 0, none⟩) n n, .slice (some ⟨g, 0, none⟩) n c] w (RetL 27 (valL n fun i => bitV (f (l.getD i 0))) w) := by
  have hn2 : (n : Int) ≤ 15 := by omega
  have hb1 := Old.mk hB.lt
  have hb2 := Old.mk hN.lt
  have HB1 := Lib.hid hB
  have HN := Lib.hid hN
  clear hB hN
  go_enter Try.func88, Try.ntmps88
  go_wp2_with (at_make; refine wpList_make_blk _ rfl (.tmp 9) (.tmp 9) 123 rfl 27 (.int .u16 0) zInfo16 n (by omega) rfl rfl ?_; intro z0 hB0)
  have HB0 := Lib.hid hB0
  clear hB0
  go_loopw [6, 7, 13] (fun _ _ i wr => ∃ (k : Nat) (z : World), k ≤ n ∧ i = .int .i64 k ∧ wr = ext w z ∧ Blk wr w.heap.size 27 (fillA n (.int .u16 0) (fun i => bitV (f (l.getD i 0))) k)) (fun _ _ i _ => n - (intOf i).toNat)
  case atStart => exact ⟨0, z0, Nat.zero_le _, rfl, rfl, by rw [fill_zero]; exact HB0.out⟩
  case round =>
    obtain ⟨k, z, hk, rfl, rfl, hB⟩ := hrel
    have HB := Lib.hid hB
    by_cases hkn : k < n
    · have hk2 : (k : Int) < (n : Int) := by omega
      have hlk : l.getD k 0 < n := by
        rw [List.getD_eq_getElem?_getD, List.getElem?_eq_getElem (by omega)]
        exact hlt _ (List.getElem_mem _)
      have c1 : w.cell? ⟨g, k, none⟩ = some (.int .i64 ((l.getD k 0 : Nat) : Int)) := by
        rw [HN.out.at_ k (by rw [ints_len]; omega), ints_at, List.getD_eq_getElem?_getD, List.getElem?_eq_getElem (by omega)]; rfl
      generalize hq : l.getD k 0 = q at *
      have HQ := Lib.hid hq
      clear hq
      have hq2 : (q : Int) < (n : Int) := by omega
      have c2 : w.cell? ⟨B, q, none⟩ = some (bitV (f q)) := by rw [HB1.out.cell]; simp only [List.getElem?_toArray]; exact valL_at _ _ _ hlk
      unfold bitV at c2
      have hc : (ext w z).cell? ⟨w.heap.size, k, none⟩ = some (.int .u16 0) := by rw [hB.cell, fill_at _ _ _ _ _ hkn, if_neg (Nat.lt_irrefl k)]
      have hf := hB.frozen k
      clear hB
      go_wp2_with fail
      refine ⟨⟨k + 1, _, by omega, by go_num, (ext_of ((Ext.ext_self w z).setCell (Nat.le_refl _) _)).symm, ?_⟩, by simp [intOf]; omega⟩
      rw [← fill_set _ _ _ k (bitV (f q)) (by rw [HQ.out])]
      exact HB.out.set_ k _
    · obtain rfl : k = n := by omega
      clear hB
      go_wp2_with fail
      go_ret
      exact ⟨w.heap.size, ret_of (by simp only [valL_len]; rfl), Nat.le_refl _, by rw [← fill_full]; exact HB.out, Ext.ext_self w z⟩
theorem lst_int {w : World} {g c : Nat} {l : List Nat} (h : Lst 3 w g c (intsV l)) (j : Nat) (hj : j < l.length) : w.cell? ⟨g, j, none⟩ = some (.int .i64 ((l.getD j 0 : Nat) : Int)) := by
  rw [h.at_ j (by rw [ints_len]; omega), ints_at, List.getD_eq_getElem?_getD, List.getElem?_eq_getElem (by omega)]; rfl
set_option maxRecDepth 100000 in
set_option maxHeartbeats 1000000 in
theorem pickI_any (m l : List Nat) (n c1 : Nat) (hn : n ≤ 15) (hm : m.length = n) (hl : l.length = n) (hlt : ∀ x ∈ l, x < n) (B g c : Nat) (w : World) (hB : Lst 3 w B c1 (intsV m)) (hN : Lst 3 w g c (intsV l)) :
    Calls Try.prog 97 #[.slice (some ⟨B, 0, none⟩) n c1, .slice (some ⟨g, 0, none⟩) n c] w (RetL 3 (valL n fun i => .int .i64 ((m.getD (l.getD i 0) 0 : Nat) : Int)) w) := by
  have hn2 : (n : Int) ≤ 15 := by omega
  have hb1 := Old.mk hB.lt
  have hb2 := Old.mk hN.lt
  have HB1 := Lib.hid hB
  have HN := Lib.hid hN
  clear hB hN
  go_enter Try.func97, Try.ntmps97
  go_wp2_with (at_make; refine wpList_make_blk _ rfl (.tmp 9) (.tmp 9) 56 rfl 3 (.int .i64 0) zInfoI n (by omega) rfl rfl ?_; intro z0 hB0)
  have HB0 := Lib.hid hB0
  clear hB0
  go_loopw [6, 7, 13] (fun _ _ i wr => ∃ (k : Nat) (z : World), k ≤ n ∧ i = .int .i64 k ∧ wr = ext w z ∧ Blk wr w.heap.size 3 (fillA n (.int .i64 0) (fun i => .int .i64 ((m.getD (l.getD i 0) 0 : Nat) : Int)) k)) (fun _ _ i _ => n - (intOf i).toNat)
  case atStart => exact ⟨0, z0, Nat.zero_le _, rfl, rfl, by rw [fill_zero]; exact HB0.out⟩
  case round =>
    obtain ⟨k, z, hk, rfl, rfl, hB⟩ := hrel
    have HB := Lib.hid hB
    by_cases hkn : k < n
    · have hk2 : (k : Int) < (n : Int) := by omega
      have hlk : l.getD k 0 < n := by
        rw [List.getD_eq_getElem?_getD, List.getElem?_eq_getElem (by omega)]
        exact hlt _ (List.getElem_mem _)
      have c1 := lst_int HN.out k (by omega)
      generalize hq : l.getD k 0 = q at *
      have HQ := Lib.hid hq
      clear hq
      have hq2 : (q : Int) < (n : Int) := by omega
      have c2 := lst_int HB1.out q (by omega)
      generalize hr : m.getD q 0 = r at *
      have HR := Lib.hid hr
      clear hr
      have hc : (ext w z).cell? ⟨w.heap.size, k, none⟩ = some (.int .i64 0) := by rw [hB.cell, fill_at _ _ _ _ _ hkn, if_neg (Nat.lt_irrefl k)]
      have hf := hB.frozen k
      clear hB
      go_wp2_with fail
      refine ⟨⟨k + 1, _, by omega, by go_num, (ext_of ((Ext.ext_self w z).setCell (Nat.le_refl _) _)).symm, ?_⟩, by simp [intOf]; omega⟩
      rw [← fill_set _ _ _ k (.int .i64 (r : Int)) (by rw [HQ.out, HR.out])]
      exact HB.out.set_ k _
    · obtain rfl : k = n := by omega
      clear hB
      go_wp2_with fail
      go_ret
      exact ⟨w.heap.size, ret_of (by simp only [valL_len]; rfl), Nat.le_refl _, by rw [← fill_full]; exact HB.out, Ext.ext_self w z⟩
theorem shl_u16 (k : Nat) (hk : k ≤ 15) : IntKind.u16.wrap (2 ^ k) = uv (1#16 <<< k) := by
  have h : 2 ^ k ≤ 2 ^ 15 := Nat.pow_le_pow_right (by omega) hk
  rw [IntKind.wrap_u16]
  unfold uv
  rw [BitVec.toNat_shiftLeft, Nat.shiftLeft_eq]
  have e : (2 : Int) ^ k = ((2 ^ k : Nat) : Int) := by push_cast; rfl
  rw [e]
  simp
theorem uv_or0 (x : BitVec 16) : bits .or .u16 (uv x) 0 = uv x := by
  rw [← uv_zero, uv_or]; simp
set_option maxRecDepth 100000 in
set_option maxHeartbeats 1000000 in
theorem word_any (f : Nat → Bool) (n : Nat) (hn : n ≤ 15) (B : Nat) (w : World) (hB : Blk w B 27 (valL n fun i => bitV (f i)).toArray) :
    Calls Try.prog 87 #[.slice (some ⟨B, 0, none⟩) n n] w fun e w' => e = .returned (.int .u16 (uv (wordF n f))) ∧ w = w' := by
  have hn2 : (n : Int) ≤ 15 := by omega
  have HB1 := Lib.hid hB
  have hz := uv_zero
  clear hB
  go_enter Try.func87, Try.ntmps87
  go_wp2_with fail
  go_loopw [3, 4, 5, 8] (fun o _ _ i wr => ∃ k : Nat, k ≤ n ∧ i = .int .i64 k ∧ wr = w ∧ o = .int .u16 (uv (wordF k f))) (fun _ _ _ i _ => n - (intOf i).toNat)
  case atStart => exact ⟨0, Nat.zero_le _, rfl, rfl, rfl⟩
  case round =>
    obtain ⟨k, hk, rfl, rfl, rfl⟩ := hrel
    by_cases hkn : k < n
    · have hk2 : (k : Int) < (n : Int) := by omega
      have hm1 : min k 16 = k := by omega
      have hm2 : min k 64 = k := by omega
      have c2 : wr.cell? ⟨B, k, none⟩ = some (bitV (f k)) := by rw [HB1.out.cell]; simp only [List.getElem?_toArray]; exact valL_at _ _ _ hkn
      have HS := Lib.hid (show wordF (k + 1) f = wordF k f ||| ((if f k then 1#16 else 0#16) <<< k) from rfl)
      have h1 := shl_u16 k (by omega)
      have h2 := uv_or0 (wordF k f)
      have hk3 : (k : Int) < 64 := by omega
      generalize wordF k f = acc at *
      cases hb : f k
      · rw [hb] at c2 HS
        unfold bitV at c2
        simp only [Bool.false_eq_true, if_false, BitVec.zero_shiftLeft, BitVec.or_zero] at HS c2
        go_wp2_with fail
        refine ⟨⟨k + 1, by omega, by go_num, trivial, by rw [HS.out]⟩, by simp [intOf]; omega⟩
      · rw [hb] at c2 HS
        unfold bitV at c2
        simp only [if_true] at HS c2
        go_wp2_with fail
        refine ⟨⟨k + 1, by omega, by go_num, trivial, by rw [HS.out]⟩, by simp [intOf]; omega⟩
    · obtain rfl : k = n := by omega
      go_wp2_with fail
      go_ret
      exact ⟨rfl, rfl⟩
set_option maxRecDepth 100000 in
set_option maxHeartbeats 1000000 in
theorem permuted_any (x : BitVec 16) (l : List Nat) (n : Nat) (hn : n ≤ 15) (hl : l.length = n) (hlt : ∀ x ∈ l, x < n) (g c : Nat) (w : World) (hN : Lst 3 w g c (intsV l)) :
    Calls Try.prog 90 #[.slice (some ⟨g, 0, none⟩) n c, .int .u16 (uv x)] w fun e w' => e = .returned (.int .u16 (uv (wordF n fun i => x.getLsbD (l.getD i 0)))) ∧ w = w' := by
  have hn2 : (n : Int) ≤ 15 := by omega
  have HN := Lib.hid hN
  have hz := uv_zero
  clear hN
  generalize hff : (fun i => x.getLsbD (l.getD i 0)) = f
  have HF := Lib.hid hff
  clear hff
  go_enter Try.func90, Try.ntmps90
  go_wp2_with fail
  go_loopw [5, 6] (fun o i wr => ∃ k : Nat, k ≤ n ∧ i = .int .i64 k ∧ wr = w ∧ o = .int .u16 (uv (wordF k f))) (fun _ i _ => n - (intOf i).toNat)
  case atStart => exact ⟨0, Nat.zero_le _, rfl, rfl, rfl⟩
  case round =>
    obtain ⟨k, hk, rfl, rfl, rfl⟩ := hrel
    by_cases hkn : k < n
    · have hk2 : (k : Int) < (n : Int) := by omega
      have hlk : l.getD k 0 < n := by
        rw [List.getD_eq_getElem?_getD, List.getElem?_eq_getElem (by omega)]
        exact hlt _ (List.getElem_mem _)
      have c1 := lst_int HN.out k (by omega)
      have hfk : f k = x.getLsbD (l.getD k 0) := by rw [← HF.out]
      generalize hq : l.getD k 0 = q at *
      have hq2 : (q : Int) < (n : Int) := by omega
      clear hq
      have hm1 : min k 16 = k := by omega
      have hm2 : min k 64 = k := by omega
      have hm3 : min q 16 = q := by omega
      have hm4 : min q 64 = q := by omega
      have e1 := uv_shr x q
      have e2 := bit_val x q
      have HS := Lib.hid (show wordF (k + 1) f = wordF k f ||| ((if f k then 1#16 else 0#16) <<< k) from rfl)
      have h1 := shl_u16 k (by omega)
      have h2 := uv_or0 (wordF k f)
      have hk3 : (k : Int) < 64 := by omega
      generalize wordF k f = acc at *
      unfold bitI at e2
      rw [← hfk] at e2
      cases hb : f k
      · rw [hb] at e2 HS
        simp only [Bool.false_eq_true, if_false, BitVec.zero_shiftLeft, BitVec.or_zero] at HS e2
        clear hfk hb
        go_wp2_with fail
        refine ⟨⟨k + 1, by omega, by go_num, trivial, by rw [HS.out]⟩, by simp [intOf]; omega⟩
      · rw [hb] at e2 HS
        simp only [if_true] at HS e2
        clear hfk hb
        go_wp2_with fail
        refine ⟨⟨k + 1, by omega, by go_num, trivial, by rw [HS.out]⟩, by simp [intOf]; omega⟩
    · obtain rfl : k = n := by omega
      go_wp2_with fail
      go_ret
      exact ⟨rfl, rfl⟩
end Go.Proofs.Ytfdcapblgdlkaaa
/- Hidden words. -/
namespace Go.Proofs.Ytfdcapblgdlkaaa
open Go.RowKit

section
variable {P : Program} {ops : Array Oper} {o : Oper} {a : Act} {w : World} {K : Act → World → Prop} {Q : Exit → Act → World → Prop} {E : Prop}
theorem step_call_list (hgd : o.guard = none) (f : FuncId) (xs : List Operand) (ts : Array TypeId) (ho : o.op = .call { callee := .value (.func f), args := xs.toArray, argTypes := ts }) (hf : callB P f = true) (args : List Value) (hargs : xs.map a.eval = args)
    {t : TypeId} {ys : List Value} (h : Calls P f args.toArray w (RetL t ys w)) (hk : ∀ g z, w.heap.size ≤ g → Blk (ext w z) g t ys.toArray → K (a.put o.dst (.slice (some ⟨g, 0, none⟩) ys.length ys.length)) (ext w z)) :
    if Region.wanted o (yielded ops a.tmps) = true then Oper.wp P o a w K Q else E :=
  step_call_of hgd f xs.toArray ts ho hf (by rw [List.map_toArray, hargs]; exact calls_list h fun g z hg hb => hk g z hg hb)
end
/-- the order of a key -/
def ordN (n p : Nat) : List Nat := dec n (List.range n) p
theorem ordN_len (n p : Nat) : (ordN n p).length = n := dec_len _ _ _
theorem ordN_perm {n p : Nat} (hp : p < factN n) : (ordN n p).Perm (List.range n) := dec_perm n _ p (by simp) hp
theorem ordN_lt {n p : Nat} (hp : p < factN n) : ∀ x ∈ ordN n p, x < n := fun _ hx => List.mem_range.1 ((ordN_perm hp).subset hx)
/-- a word with its bits in an order -/
def perF (l : List Nat) (x : BitVec 16) (i : Nat) : Bool := x.getLsbD (l.getD i 0)
def perW (l : List Nat) (x : BitVec 16) : BitVec 16 := wordF l.length (perF l x)
def hidW (n p : Nat) (pad x : BitVec 16) : BitVec 16 := perW (ordN n p) x ^^^ pad
theorem order_lst (n p : Nat) (pad : BitVec 16) (hn : 1 ≤ n ∧ n ≤ 15) (hp : p < factN n) (w : World) : Calls Try.prog 69 #[(K.mk n p pad).val] w fun e w' => ∃ g c, e = .returned (.slice (some ⟨g, 0, none⟩) n c) ∧ Lst 3 w' g c (intsV (ordN n p)) ∧ Ext w w' :=
  (order_any n p pad hn hp w).mono fun e w' ⟨A, c, he, ho, hw⟩ => by
    obtain ⟨g, hg, _, hL⟩ := lst_of_own (by omega) (by rw [ints_len, dec_len]) ho
    subst hg
    exact ⟨g, c, he, hL, hw⟩
theorem ordered_lst (n p : Nat) (hn : 1 ≤ n ∧ n ≤ 15) (hp : p < factN n) (w : World) : Calls Try.prog 70 #[.int .i64 n, .int .i64 p] w fun e w' => ∃ g c, e = .returned (.slice (some ⟨g, 0, none⟩) n c) ∧ Lst 3 w' g c (intsV (ordN n p)) ∧ Ext w w' :=
  (ordered_any n p hn hp w).mono fun e w' ⟨A, c, he, ho, hw⟩ => by
    obtain ⟨g, hg, _, hL⟩ := lst_of_own (by omega) (by rw [ints_len, dec_len]) ho
    subst hg
    exact ⟨g, c, he, hL, hw⟩
theorem calls_lst {P : Program} {f : FuncId} {args : Array Value} {w : World} {n : Nat} {xs : List Value} {R : Ending → World → Prop}
    (h : Calls P f args w fun e w' => ∃ g c, e = .returned (.slice (some ⟨g, 0, none⟩) n c) ∧ Lst 3 w' g c xs ∧ Ext w w') (hR : ∀ g c z, Lst 3 (ext w z) g c xs → R (.returned (.slice (some ⟨g, 0, none⟩) n c)) (ext w z)) : Calls P f args w R :=
  h.mono fun en w' ⟨g, c, he, hb, hw⟩ => by
    subst he
    have := hR g c w'
    rw [ext_of hw] at this
    exact this hb
section
variable {P : Program} {ops : Array Oper} {o : Oper} {a : Act} {w : World} {K : Act → World → Prop} {Q : Exit → Act → World → Prop} {E : Prop}
theorem step_call_lst (hgd : o.guard = none) (f : FuncId) (xs : List Operand) (ts : Array TypeId) (ho : o.op = .call { callee := .value (.func f), args := xs.toArray, argTypes := ts }) (hf : callB P f = true) (args : List Value) (hargs : xs.map a.eval = args)
    {n : Nat} {ys : List Value} (h : Calls P f args.toArray w fun e w' => ∃ g c, e = .returned (.slice (some ⟨g, 0, none⟩) n c) ∧ Lst 3 w' g c ys ∧ Ext w w') (hk : ∀ g c z, Lst 3 (ext w z) g c ys → K (a.put o.dst (.slice (some ⟨g, 0, none⟩) n c)) (ext w z)) :
    if Region.wanted o (yielded ops a.tmps) = true then Oper.wp P o a w K Q else E :=
  step_call_of hgd f xs.toArray ts ho hf (by rw [List.map_toArray, hargs]; exact calls_lst h fun g c z hb => hk g c z hb)
end
set_option maxRecDepth 100000 in
set_option maxHeartbeats 2000000 in
theorem hide_any (n p : Nat) (pad x : BitVec 16) (hn : 1 ≤ n ∧ n ≤ 15) (hp : p < factN n) (w : World) : Calls Try.prog 55 #[(K.mk n p pad).val, .int .u16 (uv x)] w fun e w' => e = .returned (.int .u16 (uv (hidW n p pad x))) ∧ Ext w w' := by
  have hn2 : (n : Int) ≤ 15 := by omega
  go_enter Try.func55, Try.ntmps55
  go_wp2_with fail
  have HB := Lib.hid (Blk.new w 55 #[.int .i64 (n : Int), .int .i64 (p : Int), .int .u16 (uv pad)])
  have HE := Lib.hid ((Ext.refl w).alloc (.cells #[.int .i64 (n : Int), .int .i64 (p : Int), .int .u16 (uv pad)] 55))
  generalize w.alloc (.cells #[.int .i64 (n : Int), .int .i64 (p : Int), .int .u16 (uv pad)] 55) = W at *
  have b0 : W.cell? ⟨w.heap.size, 0, none⟩ = some (.int .i64 (n : Int)) := HB.out.cell 0
  have b1 : W.cell? ⟨w.heap.size, 1, none⟩ = some (.int .i64 (p : Int)) := HB.out.cell 1
  have b2 : W.cell? ⟨w.heap.size, 2, none⟩ = some (.int .u16 (uv pad)) := HB.out.cell 2
  have hO := Old.mk HB.out.lt
  go_region_law (first
    | (refine step_call_list rfl 89 [.tmp 5, .tmp 7] #[27, 3] rfl (by kernel_rfl) [.int .u16 (uv x), .int .i64 n] rfl (bits_any x n hn.2 _) ?_; intro g1 z1 _ hB1; rw [valL_len])
    | (refine step_call_lst rfl 69 [.tmp 9] #[55] rfl (by kernel_rfl) [(K.mk n p pad).val] rfl (order_lst n p pad hn hp _) ?_; intro g2 c2 z2 hL2)
    | (refine step_call_list rfl 88 [.tmp 8, .tmp 10] #[123, 56] rfl (by kernel_rfl) [.slice (some ⟨g1, 0, none⟩) n n, .slice (some ⟨g2, 0, none⟩) n c2] rfl (pick_any (fun i => x.getLsbD i) (ordN n p) n hn.2 (ordN_len n p) (ordN_lt hp) g1 g2 c2 _ (by first | exact hB1 | exact hB1.ext _) (by first | exact hL2 | exact hL2.grow (Ext.ext_self _ _))) ?_; intro g3 z3 _ hB3; rw [valL_len])
    | (refine step_call_ext rfl 87 [.tmp 11] #[123] rfl (by kernel_rfl) [.slice (some ⟨g3, 0, none⟩) n n] rfl (Calls.ext_of_same (word_any (perF (ordN n p) x) n hn.2 g3 _ hB3)) ?_; intro z4))
  all_goals
    go_wp2_with fail
    go_ret
    refine ⟨ret_of (by rw [hidW, perW, ordN_len]; rfl), ?_⟩
    repeat' (first | with_reducible exact HE.out | with_reducible refine Ext.ext ?_ _ | with_reducible refine Ext.drew ?_)
set_option maxRecDepth 100000 in
set_option maxHeartbeats 2000000 in
theorem hidden_any (n p : Nat) (pad x : BitVec 16) (hn : 1 ≤ n ∧ n ≤ 15) (hp : p < factN n) (w : World) : Calls Try.prog 57 #[(K.mk n p pad).val, .int .u16 (uv x)] w fun e w' => e = .returned (.int .u16 (uv (hidW n p pad x))) ∧ Ext w w' := by
  have hn2 : (n : Int) ≤ 15 := by omega
  go_enter Try.func57, Try.ntmps57
  go_wp2_with fail
  have HB := Lib.hid (Blk.new w 55 #[.int .i64 (n : Int), .int .i64 (p : Int), .int .u16 (uv pad)])
  have HE := Lib.hid ((Ext.refl w).alloc (.cells #[.int .i64 (n : Int), .int .i64 (p : Int), .int .u16 (uv pad)] 55))
  generalize w.alloc (.cells #[.int .i64 (n : Int), .int .i64 (p : Int), .int .u16 (uv pad)] 55) = W at *
  have b0 : W.cell? ⟨w.heap.size, 0, none⟩ = some (.int .i64 (n : Int)) := HB.out.cell 0
  have b1 : W.cell? ⟨w.heap.size, 1, none⟩ = some (.int .i64 (p : Int)) := HB.out.cell 1
  have b2 : W.cell? ⟨w.heap.size, 2, none⟩ = some (.int .u16 (uv pad)) := HB.out.cell 2
  have hO := Old.mk HB.out.lt
  go_region_law (first
    | (refine step_call_lst rfl 70 [.tmp 6, .tmp 8] #[3, 3] rfl (by kernel_rfl) [.int .i64 n, .int .i64 p] rfl (ordered_lst n p hn hp _) ?_; intro g2 c2 z2 hL2)
    | (refine step_call_ext rfl 90 [.tmp 9, .tmp 10] #[56, 27] rfl (by kernel_rfl) [.slice (some ⟨g2, 0, none⟩) n c2, .int .u16 (uv x)] rfl (Calls.ext_of_same (permuted_any x (ordN n p) n hn.2 (ordN_len n p) (ordN_lt hp) g2 c2 _ hL2)) ?_; intro z4))
  all_goals
    go_wp2_with fail
    go_ret
    refine ⟨ret_of (by rw [hidW, perW, ordN_len]; rfl), ?_⟩
    repeat' (first | with_reducible exact HE.out | with_reducible refine Ext.ext ?_ _ | with_reducible refine Ext.drew ?_)
end Go.Proofs.Ytfdcapblgdlkaaa
