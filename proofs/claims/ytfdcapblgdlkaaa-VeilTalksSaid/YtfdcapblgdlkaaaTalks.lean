/- Both explanations answer alike. -/
import Derived.Test.YtfdcapblgdlkaaaRefExplA
import Derived.Test.YtfdcapblgdlkaaaExplA
import Derived.Test.YtfdcapblgdlkaaaExplB
import Derived.Test.YtfdcapblgdlkaaaEq2
namespace Go.Proofs.Ytfdcapblgdlkaaa
open Go.RowKit

def zeroD : Dl := ⟨fun _ => 0, fun _ => 0, fun _ => 0, 0, 0, fun _ => 0⟩
theorem zeroD_cells : zeroD.cells = Z78 := by kernel_rfl
theorem zeroD_ok : zeroD.ok := ⟨fun _ _ => by simp [zeroD], fun _ _ => by simp [zeroD], fun _ _ => by simp [zeroD], by simp [zeroD], by simp [zeroD], fun _ _ => by simp [zeroD]⟩
def zeroP : Pty := ⟨fun _ => 0, fun _ => 0, 0, fun _ => 0⟩
theorem zeroP_cells : zeroP.cells = Z62 := by kernel_rfl
theorem zeroP_ok : zeroP.ok := ⟨fun _ _ => by simp [zeroP], fun _ _ => by simp [zeroP], by simp [zeroP], fun _ _ => by simp [zeroP]⟩
theorem par_pty (d : Dl) (lim : Int) (hd : d.ok) : ∃ p q : Pty, p.ok ∧ q.ok ∧ parP d lim = p.cells ∧ parQ d lim = q.cells := by
  by_cases h : parErr d lim = 0
  · exact ⟨ptyP d, ptyQ d lim, ptyP_ok hd, ptyQ_ok hd lim, by unfold parP; rw [if_pos h], by unfold parQ; rw [if_pos h]⟩
  · exact ⟨zeroP, zeroP, zeroP_ok, zeroP_ok, by unfold parP; rw [if_neg h, zeroP_cells], by unfold parQ; rw [if_neg h, zeroP_cells]⟩
def Ans (f : FuncId) (d : Dl) (lim : Int) (x y q : BitVec 16) (sec : Bool) (c : Array Value) (er : Int) : Prop :=
  ∀ w, Calls Try.prog f #[d.val, .int .i64 lim, .int .u16 (uv x), .int .u16 (uv y), .int .u16 (uv q), .bool sec] w fun e w' => e = .returned (.tuple #[.agg c, .int .i64 er]) ∧ Ext w w'
theorem ans_bad {d : Dl} {lim : Int} {x y q : BitVec 16} {sec : Bool} (er : Int) (h1 : Ans 25 d lim x y q sec Z78 er) (h2 : Ans 26 d lim x y q sec Z78 er) : ∃ (dd : Dl) (er : Int), dd.ok ∧ Ans 25 d lim x y q sec dd.cells er ∧ Ans 26 d lim x y q sec dd.cells er :=
  ⟨zeroD, er, zeroD_ok, by rw [zeroD_cells]; exact h1, by rw [zeroD_cells]; exact h2⟩
theorem expl_both (d : Dl) (lim : Int) (x y q : BitVec 16) (sec : Bool) (hd : d.ok) : ∃ (dd : Dl) (er : Int), dd.ok ∧ Ans 25 d lim x y q sec dd.cells er ∧ Ans 26 d lim x y q sec dd.cells er := by
  cases hk : d.okB
  · have h60 := (par_60 (lim := lim) hk).1
    refine ans_bad 60 (fun w => ?_) (fun w => refBad_deal d lim x y q sec hd hk w)
    have := explBad_par d lim x y q sec hd (by rw [h60]; decide) w
    rwa [h60] at this
  · by_cases hl : 0 ≤ lim ∧ lim ≤ 15
    · have h0 := (par_0 hk hl).1
      by_cases hf : fitB 15 x = true ∧ fitB 15 y = true ∧ fitB 15 q = true
      · obtain ⟨hx, hy, hq⟩ := hf
        have hfi := fine_of hd hk
        cases sec
        · have hc : decide (farS x y ≤ lim) = decide (farS x q ≤ lim) ∨ decide (farS x q ≤ lim) = !decide (farS x y ≤ lim) := by
            cases decide (farS x y ≤ lim) <;> cases decide (farS x q ≤ lim) <;> simp
          rcases hc with hc | hc
          · have hb : true = (decide (farS x y ≤ lim) == decide (farS x q ≤ lim)) := by rw [hc]; simp
            exact ⟨outB d lim x y q, 0, (fine_outB hfi lim x y q).ok, fun w => explB_any d lim x y q hfi hl hx hy hq true hb w, fun w => refExplB_any d lim x y q hfi hl hx hy hq _ (by rw [far_15 hx hy]) (by rw [far_15 hx hq]; exact hc.symm) w⟩
          · have hb : false = (decide (farS x y ≤ lim) == decide (farS x q ≤ lim)) := by rw [hc]; cases decide (farS x y ≤ lim) <;> rfl
            exact ans_bad 2 (fun w => explB_any d lim x y q hfi hl hx hy hq false hb w) (fun w => refBad_far d lim x y q false hd hk hl hx hy hq _ (by rw [far_15 hx hy]) (by show decide (far16 x q ≤ lim) = _; rw [far_15 hx hq]; exact hc) w)
        · have hc : decide (farS x y ≤ lim) = decide (farS q y ≤ lim) ∨ decide (farS q y ≤ lim) = !decide (farS x y ≤ lim) := by
            cases decide (farS x y ≤ lim) <;> cases decide (farS q y ≤ lim) <;> simp
          rcases hc with hc | hc
          · have hb : true = (decide (farS x y ≤ lim) == decide (farS q y ≤ lim)) := by rw [hc]; simp
            exact ⟨outA d lim x y q, 0, (fine_outA hfi lim x y q).ok, fun w => explA_any d lim x y q hfi hl hx hy hq true hb w, fun w => refExplA_any d lim x y q hfi hl hx hy hq _ (by rw [far_15 hx hy]) (by rw [far_15 hq hy]; exact hc.symm) w⟩
          · have hb : false = (decide (farS x y ≤ lim) == decide (farS q y ≤ lim)) := by rw [hc]; cases decide (farS x y ≤ lim) <;> rfl
            exact ans_bad 2 (fun w => explA_any d lim x y q hfi hl hx hy hq false hb w) (fun w => refBad_far d lim x y q true hd hk hl hx hy hq _ (by rw [far_15 hx hy]) (by show decide (far16 q y ≤ lim) = _; rw [far_15 hq hy]; exact hc) w)
      · exact ans_bad 2 (fun w => explBad_fit d lim x y q sec hd h0 hf w) (fun w => refBad_arg d lim x y q sec hd hk (fun h => hf h.2) w)
    · have h2 := (par_2 hk hl).1
      refine ans_bad 2 (fun w => ?_) (fun w => refBad_arg d lim x y q sec hd hk (fun h => hl h.1) w)
      have := explBad_par d lim x y q sec hd (by rw [h2]; decide) w
      rwa [h2] at this
end Go.Proofs.Ytfdcapblgdlkaaa
