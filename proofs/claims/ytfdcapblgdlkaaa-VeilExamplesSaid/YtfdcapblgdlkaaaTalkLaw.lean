/- Plain laws: the sums of the program and of the reference are the same modulo 31. -/
import Derived.Test.YtfdcapblgdlkaaaPlay
namespace Go.Proofs.Ytfdcapblgdlkaaa
open Go.RowKit
def sumF (f : Nat → Int) : Nat → Int
  | 0 => 0
  | k + 1 => sumF f k + f k
def cF (p q : Pty) (x y : BitVec 16) (i : Nat) : Int := bitI x i - 2 * (p.m i * ((bitI y i - q.m i) % 31) + p.s i)
def sF (p q : Pty) (x y : BitVec 16) (i : Nat) : Int := bitI y i - 2 * ((bitI x i - p.m i) % 31 * q.m i + q.s i + (bitI x i - p.m i) % 31 * ((bitI y i - q.m i) % 31))
theorem cnt_mod (f g h : Nat → Int) (hy : ∀ i, (f i - 2 * g i) % 31 = h i % 31) : ∀ k, cntS f g k % 31 = sumF h k % 31 := by
  intro k
  induction k with
  | zero => rfl
  | succ k ih =>
    rw [cntS, sumF]
    have := hy k
    omega
theorem c_mod (p q : Pty) (x y : BitVec 16) (k : Nat) : cntS (bitI x) (prodP p q y) k % 31 = sumF (cF p q x y) k % 31 := by
  refine cnt_mod _ _ _ (fun i => ?_) k
  unfold prodP cF
  generalize p.m i * ((bitI y i - q.m i) % 31) = e
  omega
theorem s_mod (p q : Pty) (x y : BitVec 16) (k : Nat) : cntS (bitI y) (prodQ p q x y) k % 31 = sumF (sF p q x y) k % 31 := by
  refine cnt_mod _ _ _ (fun i => ?_) k
  unfold prodQ sF
  generalize (bitI x i - p.m i) % 31 = d
  generalize (bitI y i - q.m i) % 31 = e
  have h1 : d * ((q.m i + e) % 31) % 31 = (d * q.m i + d * e) % 31 := by
    rw [Int.mul_emod, Int.emod_emod, ← Int.mul_emod, Int.mul_add]
  generalize d * ((q.m i + e) % 31) = u at *
  generalize d * q.m i = v at *
  generalize d * e = z at *
  omega
end Go.Proofs.Ytfdcapblgdlkaaa
