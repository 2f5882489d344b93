/- The program: whether a number, moved, comes near to another one (span.near, 84). -/
import Derived.Test.YthejomcibobieaaAlike
namespace Go.Proofs.Ythejomcibobieaa
open Go.RowKit

def nearN (lo hi fr to reach : Int) : Bool := decide (fr + lo ≤ to + reach) && decide (to - reach ≤ fr + hi)
set_option maxRecDepth 100000 in
set_option maxHeartbeats 1000000 in
theorem near_any (lo hi fr to reach : Int) (h1 : -10000 ≤ lo ∧ lo ≤ 10000) (h2 : -10000 ≤ hi ∧ hi ≤ 10000) (h3 : -10000 ≤ fr ∧ fr ≤ 10000) (h4 : -10000 ≤ to ∧ to ≤ 10000) (h5 : -10000 ≤ reach ∧ reach ≤ 10000) (w : World) :
    Calls Try.prog 84 #[.agg #[.int .i64 lo, .int .i64 hi], .int .i64 fr, .int .i64 to, .int .i64 reach] w fun e w' => e = .returned (.bool (nearN lo hi fr to reach)) ∧ Ext w w' := by
  have HV := Lib.hid (show nearN lo hi fr to reach = (decide (fr + lo ≤ to + reach) && decide (to - reach ≤ fr + hi)) from rfl)
  cases e1 : decide (fr + lo ≤ to + reach)
  · have HV1 := Lib.hid (show nearN lo hi fr to reach = false from HV.out.trans (by rw [e1]; simp))
    go_enter Try.func84, Try.ntmps84
    go_wp2_with fail
    go_ret
    exact ⟨ret_of (congrArg Value.bool HV1.out.symm), (Ext.refl w).alloc _⟩
  · have HV1 := Lib.hid (show nearN lo hi fr to reach = decide (to - reach ≤ fr + hi) from HV.out.trans (by rw [e1]; simp))
    go_enter Try.func84, Try.ntmps84
    go_wp2_with fail
    go_ret
    exact ⟨ret_of (congrArg Value.bool HV1.out.symm), (Ext.refl w).alloc _⟩
end Go.Proofs.Ythejomcibobieaa
/- Which points may be paired: the program's spans and the reference's moves say the same. -/
namespace Go.Proofs.Ythejomcibobieaa

/-- the program: which points may be paired, for spans -/
def parB (c : Cl) (m o : Mi) (n xlo xhi : Int) (ylo yhi : Nat → Int) : Bool :=
  decide (m.kind = o.kind) && decide (min (turnO m o n) (16 - turnO m o n) ≤ c.spread) && nearN xlo xhi (turnX m n) o.x c.reach && nearN (ylo (m.x / 16).toNat) (yhi (m.x / 16).toNat) (turnY m n) o.y c.reach
theorem par_alike (c : Cl) (m o : Mi) (v : Mv) (b : Nat → Int) : parB c m o v.turn v.dx v.dx (fun i => v.dy + b i) (fun i => v.dy + b i) = alikeB c m o v b := by
  unfold parB alikeB nearN placeX placeY absD
  rw [Bool.eq_iff_iff]
  simp only [Bool.and_eq_true, decide_eq_true_eq]
  generalize b (m.x / 16).toNat = e
  generalize turnX m v.turn = x
  generalize turnY m v.turn = y
  constructor
  · rintro ⟨⟨⟨h1, h2⟩, h3, h4⟩, h5, h6⟩
    exact ⟨⟨⟨h1, by omega⟩, by omega⟩, h2⟩
  · rintro ⟨⟨⟨h1, h2⟩, h3⟩, h4⟩
    exact ⟨⟨⟨h1, h4⟩, by omega, by omega⟩, by omega, by omega⟩
theorem pick1 {lo hi t a r : Int} (h : lo ≤ hi) (hr : 0 ≤ r) (h1 : t + lo ≤ a + r) (h2 : a - r ≤ t + hi) : ∃ d, lo ≤ d ∧ d ≤ hi ∧ max (t + d - a) (-(t + d - a)) ≤ r := by
  by_cases e : a - r ≤ t + lo
  · exact ⟨lo, by omega, by omega, by omega⟩
  · exact ⟨a - r - t, by omega, by omega, by omega⟩
theorem pick2 {lo hi e t a r : Int} (h : lo ≤ hi) (he : 0 ≤ e) (hr : 0 ≤ r) (h1 : t + (lo - e) ≤ a + r) (h2 : a - r ≤ t + (hi + e)) : ∃ d f, lo ≤ d ∧ d ≤ hi ∧ -e ≤ f ∧ f ≤ e ∧ max (t + d + f - a) (-(t + d + f - a)) ≤ r := by
  obtain ⟨s, s1, s2, s3⟩ := pick1 (lo := lo - e) (hi := hi + e) (by omega) hr h1 h2
  by_cases c1 : s < lo
  · exact ⟨lo, s - lo, by omega, by omega, by omega, by omega, by omega⟩
  · by_cases c2 : hi < s
    · exact ⟨hi, s - hi, by omega, by omega, by omega, by omega, by omega⟩
    · exact ⟨s, 0, by omega, by omega, by omega, by omega, by omega⟩
/-- the bound: some move of the block and some entry of a bend -/
theorem par_may (c : Cl) (m o : Mi) (n x0 x1 y0 y1 : Int) (hc : c.ok) (hx : x0 ≤ x1) (hy : y0 ≤ y1) :
    parB c m o n x0 x1 (fun _ => y0 - c.elastic) (fun _ => y1 + c.elastic) = true ↔ ∃ dx dy e, x0 ≤ dx ∧ dx ≤ x1 ∧ y0 ≤ dy ∧ dy ≤ y1 ∧ -c.elastic ≤ e ∧ e ≤ c.elastic ∧ alikeB c m o ⟨n, dx, dy⟩ (fun _ => e) = true := by
  have he := hc.elastic
  have hr := hc.reach
  unfold parB alikeB nearN placeX placeY absD
  simp only [Bool.and_eq_true, decide_eq_true_eq]
  generalize turnX m n = x
  generalize turnY m n = y
  constructor
  · rintro ⟨⟨⟨h1, h2⟩, h3, h4⟩, h5, h6⟩
    obtain ⟨dx, a1, a2, a3⟩ := pick1 hx hr.1 h3 h4
    obtain ⟨dy, e, b1, b2, b3, b4, b5⟩ := pick2 hy he.1 hr.1 h5 h6
    exact ⟨dx, dy, e, a1, a2, b1, b2, b3, b4, ⟨⟨h1, a3⟩, b5⟩, h2⟩
  · rintro ⟨dx, dy, e, a1, a2, b1, b2, b3, b4, ⟨⟨h1, a3⟩, b5⟩, h2⟩
    exact ⟨⟨⟨h1, h2⟩, by omega, by omega⟩, by omega, by omega⟩
end Go.Proofs.Ythejomcibobieaa
