/- Proved: for all prints, class and result, the call of whorllaw02.AlignChecks returns true and leaves its arguments as they were. No conditions. -/
import Derived.Test.YthejomcibobieaaOuts
import Derived.Test.YthejomcibobieaaRefCheck
import Derived.Test.YthejomcibobieaaOpenAl
import Derived.Deep.RegionHeld3
namespace Go.Proofs.Ythejomcibobieaa
open Go.Joins Go.ChangeShapes Go.WideShapes Go.RowKit Go.Deep Go.ChangeAt

theorem wp_abs0 {P : Program} {c : Code} {Q : Exit → Act → World → Prop} {a : Act} {W : World} (S : World → Prop) (hS : S W) (hk : ∀ W', S W' → c.wp P Q a W') : c.wp P Q a W := hk W hS
theorem le_ext {n : Nat} {w : World} (h : n ≤ w.heap.size) (z : World) : n ≤ (Proofs.Ythejomcibobieaa.ext w z).heap.size := Nat.le_trans h (Ext.ext_self w z).size
theorem le_alloc {n : Nat} {w : World} (h : n ≤ w.heap.size) (o : Obj) : n ≤ (w.alloc o).heap.size := Nat.le_trans h ((Ext.refl w).alloc o).size
theorem le_drew {n : Nat} {w : World} (h : n ≤ w.heap.size) : n ≤ w.drew.heap.size := h
theorem OwA.ext {α : Type} {base sz : Nat} {f : α → List Value} {w : World} {A : Option Addr} {l : List α} (h : OwA base sz f w A l) (z : World) : OwA base sz f (Proofs.Ythejomcibobieaa.ext w z) A l := h.grow (Ext.ext_self w z)
theorem OwA.alloc {α : Type} {base sz : Nat} {f : α → List Value} {w : World} {A : Option Addr} {l : List α} (h : OwA base sz f w A l) (o : Obj) : OwA base sz f (w.alloc o) A l := h.grow ((Ext.refl w).alloc o)
set_option maxRecDepth 100000 in
set_option maxHeartbeats 2000000 in
theorem great_any (sc bd : Int) (A1 A2 : Option Addr) (n1 n2 c1 c2 : Nat) (w : World) : Calls Try.prog 28 #[.agg #[.int .i64 sc, .int .i64 bd, .slice A1 n1 c1, .slice A2 n2 c2]] w fun e w' => e = .returned (.bool (decide (700 < n1) || decide (700 < n2))) ∧ Ext w w' := by
  by_cases h1 : 700 < n1
  · have g1 : decide ((700 : Int) < (n1 : Int)) = true := by simp; omega
    have H := Lib.hid (show (decide (700 < n1) || decide (700 < n2)) = true by simp [h1])
    go_enter Try.func28, Try.ntmps28
    go_wp2_with fail
    go_ret
    exact ⟨ret_of (by rw [H.out]; rfl), (Ext.refl w).alloc _⟩
  · have g1 : decide ((700 : Int) < (n1 : Int)) = false := by simp; omega
    by_cases h2 : 700 < n2
    · have g2 : decide ((700 : Int) < (n2 : Int)) = true := by simp; omega
      have H := Lib.hid (show (decide (700 < n1) || decide (700 < n2)) = true by simp [h2])
      go_enter Try.func28, Try.ntmps28
      go_wp2_with fail
      go_ret
      exact ⟨ret_of (by rw [H.out]; rfl), (Ext.refl w).alloc _⟩
    · have g2 : decide ((700 : Int) < (n2 : Int)) = false := by simp; omega
      have H := Lib.hid (show (decide (700 < n1) || decide (700 < n2)) = false by simp; omega)
      go_enter Try.func28, Try.ntmps28
      go_wp2_with fail
      go_ret
      exact ⟨ret_of (by rw [H.out]; rfl), (Ext.refl w).alloc _⟩
set_option maxRecDepth 100000 in
set_option maxHeartbeats 16000000 in
theorem alignChecks_walk (Ap Aq : Option Addr) (cp cq : Nat) (lp lq : List Mi) (c : Cl) (sc bd : Int) (A1 A2 : Option Addr) (att : List At) (left : List Rs) (c1 c2 : Nat) (w : World) (hP : Pts w Ap lp) (hQ : Pts w Aq lq) (hp : ∀ m ∈ lp, 0 ≤ m.dir) (hq : ∀ m ∈ lq, 0 ≤ m.dir) (hwf : ∀ x ∈ att, x.wf) (hwl : ∀ x ∈ left, x.wf) (hA : Ats w A1 att) (hL : Rss w A2 left) :
    Calls Try.prog 5 #[.slice Ap lp.length cp, .slice Aq lq.length cq, c.val, .agg #[.int .i64 sc, .int .i64 bd, .slice A1 att.length c1, .slice A2 left.length c2]] w fun e w' => e = .returned (.bool true) ∧ Ext w w' := by
  have HP := Lib.hid hP
  have HQ := Lib.hid hQ
  have HA := Lib.hid hA
  have HL := Lib.hid hL
  clear hP hQ hA hL
  have hE0 := (((Ext.refl w).alloc (.cells #[.int .i64 c.turns, .int .i64 c.shift, .int .i64 c.elastic, .int .i64 c.reach, .int .i64 c.spread] 38)).alloc (.cells #[.int .i64 sc, .int .i64 bd, .slice A1 att.length c1, .slice A2 left.length c2] 58))
  by_cases hn : lp.length ≤ 100 ∧ lq.length ≤ 100
  · obtain ⟨hnp, hnq⟩ := hn
    have g6 : decide ((100 : Int) < ((lp.length : Nat) : Int)) = false := by simp; omega
    have k6 : decide ((100 : Int) < ((lq.length : Nat) : Int)) = false := by simp; omega
    have g6' : decide (100 < lp.length) = false := by simp; omega
    have k6' : decide (100 < lq.length) = false := by simp; omega
    have CGr := Lib.hid (fun w => great_any sc bd A1 A2 att.length left.length c1 c2 w)
    cases hgr : (decide (700 < att.length) || decide (700 < left.length))
    · rw [hgr] at CGr
      have hna : att.length ≤ 2000 ∧ left.length ≤ 2000 := by simp at hgr; omega
      obtain ⟨x, hx⟩ : ∃ x, x = chkE c lp lq ⟨att, left⟩ sc bd := ⟨_, rfl⟩
      have C1 := Lib.hid (show ∀ A1 A2 c1 c2 w, Pts w Ap lp → Pts w Aq lq → Ats w A1 att → Rss w A2 left → Calls Try.prog 29 #[.slice Ap lp.length cp, .slice Aq lq.length cq, c.val, resV att left sc bd A1 A2 c1 c2] w fun e w' => e = .returned (.int .i64 x) ∧ Ext w w' from fun A1 A2 c1 c2 w h1 h2 h3 h4 => by
        rw [hx]
        exact CheckBest_any c lp lq hp hq hnp hnq Ap Aq cp cq att left sc bd A1 A2 c1 c2 hna.1 hna.2 hwf w h1 h2 h3 h4)
      have C2 := Lib.hid (show ∀ A1 A2 c1 c2 w, Pts w Ap lp → Pts w Aq lq → Ats w A1 att → Rss w A2 left → Calls Try.prog 30 #[.slice Ap lp.length cp, .slice Aq lq.length cq, c.val, resV att left sc bd A1 A2 c1 c2] w fun e w' => e = .returned (.int .i64 x) ∧ Ext w w' from fun A1 A2 c1 c2 w h1 h2 h3 h4 => by
        rw [hx]
        exact refCheck_any c lp lq hp hq hnp hnq Ap Aq cp cq att left sc bd A1 A2 c1 c2 hna.1 hna.2 hwf w h1 h2 h3 h4)
      have C3 := Lib.hid (fun A1 A2 B1 B2 c1 c2 e1 e2 w h1 h2 h3 h4 => same_any att left sc bd A1 A2 B1 B2 c1 c2 e1 e2 hwf hwl (by omega) (by omega) w h1 h2 h3 h4)
      clear hx hgr hp hq hwf hwl
      go_enter Try.func5, Try.ntmps5
      go_wp2_with fail
      refine Calls.ext (CGr.out _) fun z1 => ?_
      have HE := Lib.hid (hE0.ext z1)
      have HC := Lib.hid (((Blk.new w 38 #[.int .i64 c.turns, .int .i64 c.shift, .int .i64 c.elastic, .int .i64 c.reach, .int .i64 c.spread]).alloc (.cells #[.int .i64 sc, .int .i64 bd, .slice A1 att.length c1, .slice A2 left.length c2] 58)).ext z1)
      have HR := Lib.hid ((Blk.new' (w.alloc (.cells #[.int .i64 c.turns, .int .i64 c.shift, .int .i64 c.elastic, .int .i64 c.reach, .int .i64 c.spread] 38)) 58 #[.int .i64 sc, .int .i64 bd, .slice A1 att.length c1, .slice A2 left.length c2] (w.heap.size + 1) (by simp)).ext z1)
      clear hE0
      generalize ext ((w.alloc (.cells #[.int .i64 c.turns, .int .i64 c.shift, .int .i64 c.elastic, .int .i64 c.reach, .int .i64 c.spread] 38)).alloc (.cells #[.int .i64 sc, .int .i64 bd, .slice A1 att.length c1, .slice A2 left.length c2] 58)) z1 = V0 at *
      have r0 : V0.cell? ⟨w.heap.size + 1, 0, none⟩ = some (.int .i64 sc) := HR.out.cell 0
      have r1 : V0.cell? ⟨w.heap.size + 1, 1, none⟩ = some (.int .i64 bd) := HR.out.cell 1
      have r2 : V0.cell? ⟨w.heap.size + 1, 2, none⟩ = some (.slice A1 att.length c1) := HR.out.cell 2
      have r3 : V0.cell? ⟨w.heap.size + 1, 3, none⟩ = some (.slice A2 left.length c2) := HR.out.cell 3
      have oR := Old.mk HR.out.lt
      go_wp2_with fail
      have HO := Lib.hid (Blk.new V0 58 #[.int .i64 sc, .int .i64 bd, .slice A1 att.length c1, .slice A2 left.length c2])
      have HEV := Lib.hid ((Ext.refl V0).alloc (.cells #[.int .i64 sc, .int .i64 bd, .slice A1 att.length c1, .slice A2 left.length c2] 58))
      have HCV := Lib.hid (HC.out.grow HEV.out)
      have HRV := Lib.hid (HR.out.grow HEV.out)
      have HAV := Lib.hid ((HA.out.grow HE.out).grow HEV.out)
      have HLV := Lib.hid ((HL.out.grow HE.out).grow HEV.out)
      have hlt0 : w.heap.size + 1 < V0.heap.size := HR.out.lt
      clear r0 r1 r2 r3 oR
      obtain ⟨go, hgo⟩ : ∃ go, go = V0.heap.size := ⟨_, rfl⟩
      rw [← hgo] at HO hlt0 ⊢
      have HG := Lib.hid (show V0.heap.size ≤ go from by omega)
      obtain ⟨V, hV⟩ : ∃ V, V = V0.alloc (.cells #[.int .i64 sc, .int .i64 bd, .slice A1 att.length c1, .slice A2 left.length c2] 58) := ⟨_, rfl⟩
      rw [← hV] at HO HEV HCV HRV HAV HLV ⊢
      clear hV hgo
      have HGo := Lib.hid HO.out.lt
      have hn1 : w.heap.size + 1 ≠ go := by omega
      have hn2 : go ≠ w.heap.size + 1 := by omega
      have r0 : V.cell? ⟨w.heap.size + 1, 0, none⟩ = some (.int .i64 sc) := HRV.out.cell 0
      have r1 : V.cell? ⟨w.heap.size + 1, 1, none⟩ = some (.int .i64 bd) := HRV.out.cell 1
      have r2 : V.cell? ⟨w.heap.size + 1, 2, none⟩ = some (.slice A1 att.length c1) := HRV.out.cell 2
      have r3 : V.cell? ⟨w.heap.size + 1, 3, none⟩ = some (.slice A2 left.length c2) := HRV.out.cell 3
      have o0 : V.cell? ⟨go, 0, none⟩ = some (.int .i64 sc) := HO.out.cell 0
      have o1 : V.cell? ⟨go, 1, none⟩ = some (.int .i64 bd) := HO.out.cell 1
      have o2 : V.cell? ⟨go, 2, none⟩ = some (.slice A1 att.length c1) := HO.out.cell 2
      have o3 : V.cell? ⟨go, 3, none⟩ = some (.slice A2 left.length c2) := HO.out.cell 3
      have oR := Old.mk HRV.out.lt
      have oO := Old.mk HO.out.lt
      have fO := HO.out.frozen
      have HXA := Lib.hid (flatG_one at_one att)
      have HXL := Lib.hid (flatG_one rs_one left)
      have HSA := Lib.hid (HAV.out.slc at_len)
      have HSL := Lib.hid (HLV.out.slc rs_len)
      go_region_held3 (fun w' => w'.cell? ⟨w.heap.size + 1, 2, none⟩ = some (.slice A1 att.length c1) ∧ w'.cell? ⟨w.heap.size + 1, 3, none⟩ = some (.slice A2 left.length c2)) (simp [go_sem, r2, r3]) (first
        | (refine step_append_new rfl infoAt (.tmp 23) (.tmp 25) rfl V.heap.size (by repeat' (first | with_reducible exact Nat.le_refl _ | with_reducible exact Nat.le_add_right _ _ | with_reducible refine le_ext ?_ _ | with_reducible refine le_alloc ?_ _ | with_reducible refine le_drew ?_)) _ rfl (own_empty 8 (by repeat' (first | with_reducible exact Nat.le_refl _ | with_reducible exact Nat.le_add_right _ _ | with_reducible refine le_ext ?_ _ | with_reducible refine le_alloc ?_ _ | with_reducible refine le_drew ?_)) (by repeat' (first | with_reducible exact Blk.new' _ _ _ _ (by simp) | with_reducible refine Blk.ext ?_ _ | with_reducible refine Blk.drew ?_ | with_reducible refine Blk.alloc ?_ _))) A1 att.length c1 (flatG At.cellsL att) rfl (by exact HSA.out.grow (by repeat' (first | with_reducible exact Ext.refl _ | with_reducible refine Ext.alloc ?_ _ | with_reducible refine Ext.ext ?_ _ | with_reducible refine Ext.drew ?_))) HXA.out (by omega) (by omega) ?_; intro B1 e1 z6 hown1)
        | (refine step_append_new rfl infoRs (.tmp 27) (.tmp 29) rfl V.heap.size (by repeat' (first | with_reducible exact Nat.le_refl _ | with_reducible exact Nat.le_add_right _ _ | with_reducible refine le_ext ?_ _ | with_reducible refine le_alloc ?_ _ | with_reducible refine le_drew ?_)) _ rfl (own_empty 6 (by repeat' (first | with_reducible exact Nat.le_refl _ | with_reducible exact Nat.le_add_right _ _ | with_reducible refine le_ext ?_ _ | with_reducible refine le_alloc ?_ _ | with_reducible refine le_drew ?_)) (by repeat' (first | with_reducible exact Blk.new' _ _ _ _ (by simp) | with_reducible refine Blk.ext ?_ _ | with_reducible refine Blk.drew ?_ | with_reducible refine Blk.alloc ?_ _))) A2 left.length c2 (flatG Rs.cellsL left) rfl (by exact HSL.out.grow (by repeat' (first | with_reducible exact Ext.refl _ | with_reducible refine Ext.alloc ?_ _ | with_reducible refine Ext.ext ?_ _ | with_reducible refine Ext.drew ?_))) HXL.out (by omega) (by omega) ?_; intro B2 e2 z7 hown2))
      all_goals
        have a1 := OwA.of_own at_len hown1
        have a2 := OwA.of_own rs_len hown2
        go_wp2_with fail
        refine wp_abs0 (fun W => Blk W go 58 #[.int .i64 sc, .int .i64 bd, .slice B1 att.length e1, .slice B2 left.length e2] ∧ OwA V.heap.size 8 At.cellsL W B1 att ∧ OwA V.heap.size 6 Rs.cellsL W B2 left ∧ Ext V0 W) ⟨?_, ?_, ?_, ?_⟩ ?_
        case refine_1 => exact Blk.set_ (cs := #[.int .i64 sc, .int .i64 bd, .slice B1 att.length e1, .slice A2 left.length c2]) (Blk.set_ (cs := #[.int .i64 sc, .int .i64 bd, .slice A1 att.length c1, .slice A2 left.length c2]) (by repeat' (first | with_reducible exact HO.out | with_reducible refine Blk.ext ?_ _ | with_reducible refine Blk.drew ?_ | with_reducible refine Blk.alloc ?_ _)) 2 _) 3 _
        case refine_2 => repeat' (first | with_reducible exact a1 | with_reducible refine OwA.set ?_ (by exact HGo.out) _ | with_reducible refine OwA.ext ?_ _ | with_reducible refine OwA.alloc ?_ _ | with_reducible refine OwA.drew ?_)
        case refine_3 => repeat' (first | with_reducible exact a2 | with_reducible refine OwA.set ?_ (by exact HGo.out) _ | with_reducible refine OwA.ext ?_ _ | with_reducible refine OwA.alloc ?_ _ | with_reducible refine OwA.drew ?_)
        case refine_4 => repeat' (first | with_reducible exact HEV.out | with_reducible refine Ext.setCell ?_ (by exact HG.out) _ | with_reducible refine Ext.alloc ?_ _ | with_reducible refine Ext.ext ?_ _ | with_reducible refine Ext.drew ?_)
        rintro W ⟨hB, hA1, hA2, hE⟩
        have HXB := Lib.hid hB
        have K1 := Lib.hid (fun z => C1.out B1 B2 e1 e2 (Proofs.Ythejomcibobieaa.ext W z) (HP.out.grow ((HE.out.trans hE).ext z)) (HQ.out.grow ((HE.out.trans hE).ext z)) (Sl.grow hA1.sl (Ext.ext_self W z)) (Sl.grow hA2.sl (Ext.ext_self W z)))
        have K2 := Lib.hid (fun z => C2.out A1 A2 c1 c2 (Proofs.Ythejomcibobieaa.ext W z) (HP.out.grow ((HE.out.trans hE).ext z)) (HQ.out.grow ((HE.out.trans hE).ext z)) (HA.out.grow ((HE.out.trans hE).ext z)) (HL.out.grow ((HE.out.trans hE).ext z)))
        have K3 := Lib.hid (fun z => C3.out B1 B2 A1 A2 e1 e2 c1 c2 (Proofs.Ythejomcibobieaa.ext W z) (Sl.grow hA1.sl (Ext.ext_self W z)) (Sl.grow hA2.sl (Ext.ext_self W z)) (HA.out.grow ((HE.out.trans hE).ext z)) (HL.out.grow ((HE.out.trans hE).ext z)))
        have HEW := Lib.hid (HE.out.trans hE)
        clear r0 r1 r2 r3 o0 o1 o2 o3 oR oO fO hown1 hown2 a1 a2 hB hA1 hA2 HXA HXL HSA HSL
        have d0 : W.cell? ⟨w.heap.size, 0, none⟩ = some (.int .i64 c.turns) := (HC.out.grow hE).cell 0
        have d1 : W.cell? ⟨w.heap.size, 1, none⟩ = some (.int .i64 c.shift) := (HC.out.grow hE).cell 1
        have d2 : W.cell? ⟨w.heap.size, 2, none⟩ = some (.int .i64 c.elastic) := (HC.out.grow hE).cell 2
        have d3 : W.cell? ⟨w.heap.size, 3, none⟩ = some (.int .i64 c.reach) := (HC.out.grow hE).cell 3
        have d4 : W.cell? ⟨w.heap.size, 4, none⟩ = some (.int .i64 c.spread) := (HC.out.grow hE).cell 4
        have r0 : W.cell? ⟨w.heap.size + 1, 0, none⟩ = some (.int .i64 sc) := (HR.out.grow hE).cell 0
        have r1 : W.cell? ⟨w.heap.size + 1, 1, none⟩ = some (.int .i64 bd) := (HR.out.grow hE).cell 1
        have r2 : W.cell? ⟨w.heap.size + 1, 2, none⟩ = some (.slice A1 att.length c1) := (HR.out.grow hE).cell 2
        have r3 : W.cell? ⟨w.heap.size + 1, 3, none⟩ = some (.slice A2 left.length c2) := (HR.out.grow hE).cell 3
        have o0 : W.cell? ⟨go, 0, none⟩ = some (.int .i64 sc) := HXB.out.cell 0
        have o1 : W.cell? ⟨go, 1, none⟩ = some (.int .i64 bd) := HXB.out.cell 1
        have o2 : W.cell? ⟨go, 2, none⟩ = some (.slice B1 att.length e1) := HXB.out.cell 2
        have o3 : W.cell? ⟨go, 3, none⟩ = some (.slice B2 left.length e2) := HXB.out.cell 3
        have oC := Old.mk (HC.out.grow hE).lt
        have oR := Old.mk (HR.out.grow hE).lt
        have oO := Old.mk HXB.out.lt
        have bx : (x == x) = true := by simp
        clear hE
        refine wp_region_ext (by kernel_rfl) (by kernel_rfl) ?_
        repeat (go_big_quiet_step ((first | (go_at_call 29; exact Calls.quiet_ext (K1.out _)) | (go_at_call 30; exact Calls.quiet_ext (K2.out _)) | (go_at_call 31; exact Calls.quiet_ext (K3.out _)))))
        refine wpQuiet_nil ?_
        rintro _ ⟨z9, rfl⟩
        go_wp2_with fail
        go_ret
        exact ⟨rfl, HEW.out.ext z9⟩
    · rw [hgr] at CGr
      clear hgr hp hq hwf hwl
      go_enter Try.func5, Try.ntmps5
      go_wp2_with fail
      refine Calls.ext (CGr.out _) fun z1 => ?_
      go_wp2_with fail
      go_ret
      exact ⟨rfl, hE0.ext z1⟩
  · by_cases hnp : lp.length ≤ 100
    · have hnp' : ((lp.length : Nat) : Int) ≤ 100 := by omega
      have hnq' : (100 : Int) < ((lq.length : Nat) : Int) := by omega
      clear hn hp hq hwf hwl
      go_enter Try.func5, Try.ntmps5
      go_wp2_with fail
      go_ret
      exact ⟨rfl, hE0⟩
    · have hnp' : (100 : Int) < ((lp.length : Nat) : Int) := by omega
      clear hn hp hq hwf hwl
      go_enter Try.func5, Try.ntmps5
      go_wp2_with fail
      go_ret
      exact ⟨rfl, hE0⟩
set_option maxRecDepth 100000 in
theorem alignChecks_lifted (os : Os) (started : os.Started) (H : Type) (enc : TypeId × Value → H) :
    ReturnsInHanded {} Try.checked os 5 .any (Rows.alignChecksSpec.pre6 enc Try.prog Try.f5 Rows.alignChecksRow.domain false) (Rows.alignChecksSpec.post enc Try.prog Try.f5 false true false false) := by
  refine returnsInHanded_of_change (C := Try.checked) own started (by kernel_rfl) Try.func5
    (ChangeSpec.witness6 (enc := enc) (C := Try.checked) false ⟨#[], #[.slice none 0 0, .slice none 0 0, .agg #[.int .i64 0, .int .i64 0, .int .i64 0, .int .i64 0, .int .i64 0], .agg #[.int .i64 0, .int .i64 0, .slice none 0 0, .slice none 0 0]], []⟩ 8 (by kernel_rfl) (by kernel_rfl) (by kernel_rfl) (by kernel_rfl)) ?_
  intro W base args ds gs before hval0 hW hcnd _
  have hval : ∀ (j : Nat) t v, Try.f5.params[j]? = some t → args[j]? = some v → Value.okWide Try.prog W .any base t v := hval0
  have hW' := hW
  obtain ⟨p, q, hA0, hV, rfl, hfz, hnd⟩ := hW
  have hA : DataW.TrodAll enc Try.prog W 0 (fun _ => true) true Try.f5.params.toList args.toList ds p := hA0
  rw [Try.params5] at hA hval
  obtain ⟨v0, vs0, d0, ds0, p0, q0, hargs, rfl, rfl, h0, r0⟩ := trodAll_cons hA
  obtain ⟨v1, vs1, d1, ds1, p1, q1, rfl, rfl, rfl, h1, r1⟩ := trodAll_cons r0
  obtain ⟨v2, vs2, d2, ds2, p2, q2, rfl, rfl, rfl, h2, r2⟩ := trodAll_cons r1
  obtain ⟨v3, vs3, d3, ds3, p3, q3, rfl, rfl, rfl, h3, r3⟩ := trodAll_cons r2
  obtain ⟨rfl, rfl, rfl⟩ := trodAll_nil r3
  obtain rfl : args = #[v0, v1, v2, v3] := by cases args; simp_all
  obtain ⟨rfl, rfl⟩ := trodVars_none hV
  have k0 := h0
  have lt0 : ∀ x ∈ p0, x.block < W.heap.size := by obtain ⟨m, hm⟩ := k0; exact DataW.trod_lt m _ _ _ hm
  obtain ⟨A0, rows0, cap0, rfl, hlc0, hcm0, hwf0, hrow0⟩ := open_rows (ks := [.i64, .i64, .u8, .u8]) Try.underlying22 Try.underlying24 (by kernel_rfl) (by kernel_rfl) (kindsOf_of (by kernel_rfl)) (by decide) (hval 0 22 v0 rfl rfl) h0
  have k1 := h1
  have lt1 : ∀ x ∈ p1, x.block < W.heap.size := by obtain ⟨m, hm⟩ := k1; exact DataW.trod_lt m _ _ _ hm
  obtain ⟨A1, rows1, cap1, rfl, hlc1, hcm1, hwf1, hrow1⟩ := open_rows (ks := [.i64, .i64, .u8, .u8]) Try.underlying22 Try.underlying24 (by kernel_rfl) (by kernel_rfl) (kindsOf_of (by kernel_rfl)) (by decide) (hval 1 22 v1 rfl rfl) h1
  have k2 := h2
  have lt2 : ∀ x ∈ p2, x.block < W.heap.size := by obtain ⟨m, hm⟩ := k2; exact DataW.trod_lt m _ _ _ hm
  obtain ⟨ns2, hl2, hv2, wf2⟩ := open_nums (ks := [.i64, .i64, .i64, .i64, .i64]) Try.underlying38 (by kernel_rfl) (by kernel_rfl) (kindsOf_of (by kernel_rfl)) (hval 2 38 v2 rfl rfl) h2
  have k3 := h3
  have lt3 : ∀ x ∈ p3, x.block < W.heap.size := by obtain ⟨m, hm⟩ := k3; exact DataW.trod_lt m _ _ _ hm
  obtain ⟨sc3, bd3, AA3, att3, ca3, AL3, left3, cl3, rfl, wsc3, wbd3, lca3, lcl3, wfa3, wfl3, ats3, rss3⟩ := open_al (hval 3 58 v3 rfl rfl) h3
  clear hA0 hval0
  obtain ⟨l0, hr0, hp0, hk0, hc0⟩ := pts_of_rows hwf0 hrow0 hlc0
  obtain ⟨l1, hr1, hp1, hk1, hc1⟩ := pts_of_rows hwf1 hrow1 hlc1
  obtain ⟨c2, hcl2⟩ := cl_of hl2
  rw [hcl2] at hv2
  subst hv2
  refine (hr0 ▸ hr1 ▸ alignChecks_walk A0 A1 cap0 cap1 l0 l1 c2 sc3 bd3 AA3 AL3 att3 left3 ca3 cl3 W hp0 hp1 hk0 hk1 wfa3 wfl3 ats3 rss3).mono fun e W' ⟨he, bel⟩ => ?_
  subst he
  exact ⟨_, rfl, _, _, _, [], _, [], hW', trodAll_mk1 (shut_bool Try.underlying4 _), (trodAll_cons_mk (Below.trod laidOut (by kernel_rfl) (of_decide_eq_true (by kernel_rfl)) k0 bel lt0) (trodAll_cons_mk (Below.trod laidOut (by kernel_rfl) (of_decide_eq_true (by kernel_rfl)) k1 bel lt1) (trodAll_cons_mk (Below.trod laidOut (by kernel_rfl) (of_decide_eq_true (by kernel_rfl)) k2 bel lt2) (trodAll_cons_mk (Below.trod laidOut (by kernel_rfl) (of_decide_eq_true (by kernel_rfl)) k3 bel lt3) trodAll_mk0)))), rfl, Below.frame bel _, fun h => by cases h⟩

theorem alignChecks_holds : Rows.AlignChecksSaid :=
  OpenClaim.holds_of_wide 5 Try.f5 rfl rfl rfl rfl rfl rfl rfl ⟨rfl, rfl, rfl, rfl, rfl⟩ rfl rfl rfl rfl rfl (by kernel_rfl) Try.func5 (by kernel_rfl)
    (of_decide_eq_true (by kernel_rfl)) (by unfold Func.isWrapper; first | (rw [if_pos (by decide +kernel)]; kernel_rfl) | (rw [if_neg (by decide +kernel)]; exact ⟨rfl, rfl⟩))
    (fun os started H enc _ => alignChecks_lifted os started H enc)
end Go.Proofs.Ythejomcibobieaa
