/- Extract: the code of a ring. -/
import Derived.Test.YtcacbolbedhcoaaFuse
import Derived.Deep.WholeRow
namespace Go.Proofs.Ytcacbolbedhcoaa
open Go.RowKit

/-- the cells of a ring, and of a row of it -/
def ringA (r : Nat → Int) : Array Value := ((List.range 64).map fun i => Value.int .u8 (r i)).toArray
def rowA (r : Nat → Int) (i : Nat) : Array Value := ((List.range 16).map fun k => Value.int .u8 (r (16 * i + k))).toArray
theorem ring_size (r : Nat → Int) : (ringA r).size = 64 := by simp [ringA]
theorem row_size (r : Nat → Int) (i : Nat) : (rowA r i).size = 16 := by simp [rowA]
theorem row_get16 (r : Nat → Int) (i k : Nat) (h : k < 16) : (rowA r i)[k]? = some (.int .u8 (r (16 * i + k))) := by simp [rowA, h]
theorem row_one (r : Nat → Int) (i : Nat) : (rowA r i).all (·.oneCell') = true := by
  unfold rowA; rw [List.all_toArray, List.all_eq_true]
  intro x hx
  obtain ⟨k, _, rfl⟩ := List.mem_map.1 hx
  rfl
theorem ring_row (r : Nat → Int) (i : Nat) (h : i < 4) : (ringA r).extract (i * 16) (i * 16 + 16) = rowA r i := by
  apply Array.ext_getElem?
  intro k
  unfold ringA rowA
  rw [Array.getElem?_extract]
  by_cases hk : k < 16
  · have h1 : k < min (i * 16 + 16) 64 - i * 16 := by omega
    have h3 : i * 16 + k = 16 * i + k := by omega
    have h4 : 16 * i + k < 64 := by omega
    simp [h1, hk, h3, h4]
  · have h1 : ¬ k < min (i * 16 + 16) 64 - i * 16 := by omega
    simp [h1, hk]
theorem run_index24 (r : Nat → Int) (i : Nat) (h : i < 4) (w : World) : (Instr.index 24 (.agg (ringA r)) (.int .i64 (i : Int))).run Try.prog w = .ok (.agg (rowA r i)) w := by
  have hi : (Try.prog.info? 22).map (·.size) = some 16 := by kernel_rfl
  cases hq : Try.prog.info? 22 with
  | none => rw [hq] at hi; cases hi
  | some j =>
    have hs : j.size = 16 := by rw [hq] at hi; simpa using hi
    simp [Instr.index, asIntOf, run_underlying Try.underlying24, run_underlying Try.underlying22, sizeOf, typeInfo, hq, hs, part, isAgg, ring_row r i h]
    intro h'; omega
theorem run_index22 (r : Nat → Int) (i k : Nat) (h : k < 16) (w : World) : (Instr.index 22 (.agg (rowA r i)) (.int .i64 (k : Int))).run Try.prog w = .ok (.int .u8 (r (16 * i + k))) w := by
  have hi : (Try.prog.info? 5).map (·.size) = some 1 := by kernel_rfl
  cases hq : Try.prog.info? 5 with
  | none => rw [hq] at hi; cases hi
  | some j =>
    have hs : j.size = 1 := by rw [hq] at hi; simpa using hi
    simp [Instr.index, asIntOf, run_underlying Try.underlying22, run_underlying Try.underlying5, sizeOf, typeInfo, hq, hs, part, isAgg, row_get16 r i k h]
    intro h'; omega

section
variable {P : Program} {o : Oper} {a : Act} {Q : Exit → Act → World → Prop}
/-- a whole array into the block that was made last -/
theorem wpList_store_new {ops : Array Oper} {rest : List Oper} (hgd : o.guard = none) (w : World) (t : TypeId) (x y : Operand) (ho : o.op = .store t x y) (c c' : Array Value) (hx : a.eval x = .pointer (some ⟨w.heap.size, 0, none⟩)) (hy : a.eval y = .agg c')
    (hi : (P.info? t).map (·.size) = some c'.size) (hc : c.size = c'.size) (h1 : c'.all (·.oneCell') = true)
    (h : wpList P ops Q rest (a.put o.dst undef) (w.alloc (.cells c' t))) : wpList P ops Q (o :: rest) a (w.alloc (.cells c t)) :=
  wpList_plain hgd fun _ hK => by
    unfold Oper.wp execOp
    simp only [ho, hx, hy, Sem.run_bind, run_storeAt_new w t c c' hi hc h1, Result.andThen_ok, Sem.run_pure]
    exact hK _ _ h
end
/-- the difference of the next value and this one -/
def dif (r : Nat → Int) (n : Nat) : Int := r (16 * (n / 16) + (n % 16 + 1) % 16) - r n
theorem dif_in (r : Nat → Int) (hr : ∀ n, 0 ≤ r n ∧ r n ≤ 255) (n : Nat) : -255 ≤ dif r n ∧ dif r n ≤ 255 := by
  have h1 := hr n
  have h2 := hr (16 * (n / 16) + (n % 16 + 1) % 16)
  unfold dif; omega
theorem dif_at (r : Nat → Int) (i k : Nat) (hk : k < 16) : dif r (16 * i + k) = r (16 * i + (k + 1) % 16) - r (16 * i + k) := by
  unfold dif
  have h1 : (16 * i + k) / 16 = i := by omega
  have h2 : (16 * i + k) % 16 = k := by omega
  rw [h1, h2]

set_option maxRecDepth 100000 in
set_option maxHeartbeats 2000000 in
theorem extract_ok (r : Nat → Int) (hr : ∀ n, 0 ≤ r n ∧ r n ≤ 255) (m : Int) (w : World) (h3 : inB m 1 255 = true) : Calls Try.prog 19 #[.agg (ringA r), .int .i64 m] w fun e w' => e = .returned (.tuple #[(fusK (dif r) m 64).val, .int .i64 0]) ∧ Ext w w' := by
  have hm : 1 ≤ m ∧ m ≤ 255 := by simpa [inB] using h3
  have HR := Lib.hid hr
  clear hr
  go_enter Try.func19, Try.ntmps19
  go_wp2_with (first | (go_at_call 45; refine Calls.same (within_any _ _ _ _) ?_) | (refine wpList_load_row rfl 24 (.tmp 2) rfl w.heap.size rfl 24 (ringA r) (0, 0) (.array 4 22) (((Blk.new w 24 (ringA r)).alloc _).alloc _) Try.underlying24 rfl (by rw [ring_size]; kernel_rfl) ?_))
  have HRes := Lib.hid (Blk.new' (w.alloc (.cells (ringA r) 24)) 27 #[.int .u64 0, .int .u64 0] (w.heap.size + 1) (by simp))
  have HE0 := Lib.hid (((Ext.refl w).alloc (.cells (ringA r) 24)).alloc (.cells #[.int .u64 0, .int .u64 0] 27))
  have hs0 : ((w.alloc (.cells (ringA r) 24)).alloc (.cells #[.int .u64 0, .int .u64 0] 27)).heap.size = w.heap.size + 1 + 1 := by simp
  generalize (w.alloc (.cells (ringA r) 24)).alloc (.cells #[.int .u64 0, .int .u64 0] 27) = W0 at *
  have HO := Lib.hid (Blk.new' W0 27 #[.int .u64 0, .int .u64 0] (w.heap.size + 1 + 1) hs0.symm)
  have HE := Lib.hid ((Ext.refl W0).alloc (.cells #[.int .u64 0, .int .u64 0] 27))
  generalize W0.alloc (.cells #[.int .u64 0, .int .u64 0] 27) = W1 at *
  have hoW : W0.heap.size ≤ w.heap.size + 1 + 1 := Nat.le_of_eq hs0
  have HS0 := Lib.hid hs0
  clear hs0
  go_loopw [18] (fun i wr => ∃ (j : Nat), j ≤ 4 ∧ i = .int .i64 j ∧ Ext W0 wr ∧ Blk wr (w.heap.size + 1 + 1) 27 #[.int .u64 (uw (fusK (dif r) m (16 * j)).code), .int .u64 (uw (fusK (dif r) m (16 * j)).mask)]) (fun i _ => 4 - (intOf i).toNat)
  case atStart => exact ⟨0, Nat.zero_le _, rfl, HE.out, HO.out⟩
  case round =>
    obtain ⟨i, hi, rfl, hE, hB⟩ := hrel
    obtain ⟨wo, rfl⟩ : ∃ wo : World, wo = wr := ⟨_, rfl⟩
    by_cases hlt : i < 4
    · have hix := run_index24 r i hlt
      have hi2 : (i : Int) < 4 := by omega
      have hi3 : decide ((i : Int) < 4) = true := by simpa using hi2
      have HB := Lib.hid hB
      have HEo := Lib.hid hE
      have hol := hB.lt
      clear hB hE
      go_wp2_with (first | (refine wpList_store_new rfl wo 22 (.tmp 8) (.tmp 21) rfl #[.int .u8 0, .int .u8 0, .int .u8 0, .int .u8 0, .int .u8 0, .int .u8 0, .int .u8 0, .int .u8 0, .int .u8 0, .int .u8 0, .int .u8 0, .int .u8 0, .int .u8 0, .int .u8 0, .int .u8 0, .int .u8 0] (rowA r i) rfl rfl (by rw [row_size]; kernel_rfl) (by rw [row_size]; rfl) (row_one r i) ?_) | (refine wpList_load_row rfl 22 (.tmp 8) rfl wo.heap.size rfl 22 (rowA r i) (0, 0) (.array 16 5) (Blk.new wo 22 (rowA r i)) Try.underlying22 rfl (by rw [row_size]; kernel_rfl) ?_))
      have HA2 := Lib.hid (Blk.new wo 22 (rowA r i))
      have HB2 := Lib.hid (HB.out.alloc (.cells (rowA r i) 22))
      have HE2 := Lib.hid (HEo.out.alloc (.cells (rowA r i) 22))
      have hne : wo.heap.size ≠ w.heap.size + 1 + 1 := by omega
      clear HB hix
      generalize wo.alloc (.cells (rowA r i) 22) = W2 at *
      generalize wo.heap.size = h at *
      go_loopw [23] (fun q wr => ∃ (k : Nat), k ≤ 16 ∧ q = .int .i64 k ∧ Ext W0 wr ∧ Blk wr h 22 (rowA r i) ∧ Blk wr (w.heap.size + 1 + 1) 27 #[.int .u64 (uw (fusK (dif r) m (16 * i + k)).code), .int .u64 (uw (fusK (dif r) m (16 * i + k)).mask)]) (fun q _ => 16 - (intOf q).toNat)
      case atStart => exact ⟨0, Nat.zero_le _, rfl, HE2.out, HA2.out, HB2.out⟩
      case round =>
        obtain ⟨k, hk, rfl, hE, hA, hB⟩ := hrel
        by_cases hlk : k < 16
        · have hk2 : (k : Int) < 16 := by omega
          have hidx := run_index22 r i k hlk
          have e0 : wr.cell? ⟨w.heap.size + 1 + 1, 0, none⟩ = some (.int .u64 (uw (fusK (dif r) m (16 * i + k)).code)) := hB.cell 0
          have e1 : wr.cell? ⟨w.heap.size + 1 + 1, 1, none⟩ = some (.int .u64 (uw (fusK (dif r) m (16 * i + k)).mask)) := hB.cell 1
          have ef := hB.frozen
          have hoff : (((k : Int) + 1) % 16).toNat = (k + 1) % 16 := by omega
          have e2 : wr.cell? ⟨h, (k + 1) % 16, none⟩ = some (.int .u8 (r (16 * i + (k + 1) % 16))) := (hA.cell _).trans (row_get16 r i _ (by omega))
          have hst : fusK (dif r) m (16 * i + k + 1) = ⟨if m ≤ dif r (16 * i + k) then (fusK (dif r) m (16 * i + k)).code ||| (1#64 <<< (16 * i + k)) else (fusK (dif r) m (16 * i + k)).code, if m ≤ dif r (16 * i + k) ∨ m ≤ -(dif r (16 * i + k)) then (fusK (dif r) m (16 * i + k)).mask ||| (1#64 <<< (16 * i + k)) else (fusK (dif r) m (16 * i + k)).mask⟩ := rfl
          have hd := dif_at r i k hlk
          have r1 := HR.out (16 * i + (k + 1) % 16)
          have r2 := HR.out (16 * i + k)
          have hp := shl_one (16 * i + k)
          have htn : (16 * (i : Int) + (k : Int)).toNat = 16 * i + k := by omega
          have HBk := Lib.hid hB
          have HAk := Lib.hid hA
          have HEk := Lib.hid hE
          rw [hd] at hst
          clear hE hB hA hd
          generalize r (16 * i + (k + 1) % 16) = x at *
          generalize r (16 * i + k) = y at *
          have hsum : (16 * i + k + 1) = 16 * i + (k + 1) := by omega
          rw [hsum] at hst
          clear hsum
          have hbig : 16 * i + k < 64 := by omega
          have hbig2 : 16 * (i : Int) + (k : Int) < 64 := by omega
          by_cases c1 : m ≤ x - y
          · have Hst := Lib.hid (show fusK (dif r) m (16 * i + (k + 1)) = ⟨(fusK (dif r) m (16 * i + k)).code ||| (1#64 <<< (16 * i + k)), (fusK (dif r) m (16 * i + k)).mask ||| (1#64 <<< (16 * i + k))⟩ by rw [hst]; simp [c1])
            clear hst
            generalize (fusK (dif r) m (16 * i + k)).code = cd at *
            generalize (fusK (dif r) m (16 * i + k)).mask = mk at *
            go_wp2_with fail
            go_roundw
            case rel => exact ⟨k + 1, by omega, by go_num, ((HEk.out.setCell (p := ⟨w.heap.size + 1 + 1, 1, none⟩) hoW _).setCell (p := ⟨w.heap.size + 1 + 1, 0, none⟩) hoW _), ((HAk.out.far (p := ⟨w.heap.size + 1 + 1, 1, none⟩) hne _).far (p := ⟨w.heap.size + 1 + 1, 0, none⟩) hne _), by rw [Hst.out]; exact ((HBk.out.set_ 1 _).set_ 0 _)⟩
            case measure => simp [intOf]; omega
          · by_cases c2 : m ≤ -(x - y)
            · have Hst := Lib.hid (show fusK (dif r) m (16 * i + (k + 1)) = ⟨(fusK (dif r) m (16 * i + k)).code, (fusK (dif r) m (16 * i + k)).mask ||| (1#64 <<< (16 * i + k))⟩ by rw [hst]; simp [c1, c2])
              clear hst
              generalize (fusK (dif r) m (16 * i + k)).code = cd at *
              generalize (fusK (dif r) m (16 * i + k)).mask = mk at *
              go_wp2_with fail
              go_roundw
              case rel => exact ⟨k + 1, by omega, by go_num, (HEk.out.setCell (p := ⟨w.heap.size + 1 + 1, 1, none⟩) hoW _), (HAk.out.far (p := ⟨w.heap.size + 1 + 1, 1, none⟩) hne _), by rw [Hst.out]; exact (HBk.out.set_ 1 _)⟩
              case measure => simp [intOf]; omega
            · have Hst := Lib.hid (show fusK (dif r) m (16 * i + (k + 1)) = ⟨(fusK (dif r) m (16 * i + k)).code, (fusK (dif r) m (16 * i + k)).mask⟩ by rw [hst]; simp [c1, c2])
              clear hst
              generalize (fusK (dif r) m (16 * i + k)).code = cd at *
              generalize (fusK (dif r) m (16 * i + k)).mask = mk at *
              go_wp2_with fail
              go_roundw
              case rel => exact ⟨k + 1, by omega, by go_num, HEk.out, HAk.out, by rw [Hst.out]; exact HBk.out⟩
              case measure => simp [intOf]; omega
        · obtain rfl : k = 16 := by omega
          have HBk := Lib.hid hB
          have HEk := Lib.hid hE
          clear hB hE hA
          go_wp2_with fail
          go_roundw
          case rel => exact ⟨i + 1, by omega, by go_num, HEk.out, by have e : 16 * (i + 1) = 16 * i + 16 := (by omega); rw [e]; exact HBk.out⟩
          case measure => simp [intOf]; omega
    · obtain rfl : i = 4 := by omega
      obtain ⟨f, hf⟩ : ∃ f, fusK (dif r) m 64 = f := ⟨_, rfl⟩
      have HF := Lib.hid hf
      have hB' : Blk wo (w.heap.size + 1 + 1) 27 #[.int .u64 (uw (fusK (dif r) m 64).code), .int .u64 (uw (fusK (dif r) m 64).mask)] := hB
      rw [hf] at hB'
      have e0 : wo.cell? ⟨w.heap.size + 1 + 1, 0, none⟩ = some (.int .u64 (uw f.code)) := hB'.cell 0
      have e1 : wo.cell? ⟨w.heap.size + 1 + 1, 1, none⟩ = some (.int .u64 (uw f.mask)) := hB'.cell 1
      have hR2 := HRes.out.grow hE
      have r0 : wo.cell? ⟨w.heap.size + 1, 0, none⟩ = some (.int .u64 0) := hR2.cell 0
      have r1 : wo.cell? ⟨w.heap.size + 1, 1, none⟩ = some (.int .u64 0) := hR2.cell 1
      have rf := hR2.frozen
      have HEk := Lib.hid (HE0.out.trans hE)
      have HR2 := Lib.hid hR2
      clear hB hE hf hR2 hB'
      go_wp2_with fail
      have HS := Lib.hid ((HR2.out.set_ 0 (.int .u64 (uw f.code))).set_ 1 (.int .u64 (uw f.mask)))
      have HEf := Lib.hid ((HEk.out.setCell (p := ⟨w.heap.size + 1, 0, none⟩) (Nat.le_succ _) (.int .u64 (uw f.code))).setCell (p := ⟨w.heap.size + 1, 1, none⟩) (Nat.le_succ _) (.int .u64 (uw f.mask)))
      generalize (wo.setCell ⟨w.heap.size + 1, 0, none⟩ (.int .u64 (uw f.code))).setCell ⟨w.heap.size + 1, 1, none⟩ (.int .u64 (uw f.mask)) = Wf at *
      have q0 : Wf.cell? ⟨w.heap.size + 1, 0, none⟩ = some (.int .u64 (uw f.code)) := HS.out.cell 0
      have q1 : Wf.cell? ⟨w.heap.size + 1, 1, none⟩ = some (.int .u64 (uw f.mask)) := HS.out.cell 1
      exact bodyPost_ret (v := .tuple #[f.val, .int .i64 0]) (by simp [results, Try.results19, go_sem, q0, q1]) rfl ⟨ret_of (by rw [HF.out]), HEf.out⟩
def extV (r : Nat → Int) (m : Int) : Value := if inB m 1 255 then .tuple #[(fusK (dif r) m 64).val, .int .i64 0] else .tuple #[Ir.zero.val, .int .i64 2]
set_option maxRecDepth 100000 in
set_option maxHeartbeats 1000000 in
theorem Extract_any (r : Nat → Int) (hr : ∀ n, 0 ≤ r n ∧ r n ≤ 255) (m : Int) (w : World) : Calls Try.prog 19 #[.agg (ringA r), .int .i64 m] w fun e w' => e = .returned (extV r m) ∧ Ext w w' := by
  cases h3 : inB m 1 255
  · have Hv := Lib.hid (show extV r m = .tuple #[Ir.zero.val, .int .i64 2] by simp [extV, h3])
    clear hr
    go_enter Try.func19, Try.ntmps19
    go_wp2_with (go_at_call 45; refine Calls.same (within_any _ _ _ _) ?_)
    refine bodyPost_ret (v := .tuple #[Ir.zero.val, .int .i64 2]) (by simp [results, Try.results19, go_sem, Ir.zero, uw_zero]) rfl ⟨ret_of Hv.out.symm, ?_⟩
    repeat' (first | with_reducible exact Ext.refl _ | with_reducible refine Ext.alloc ?_ _ | with_reducible refine Ext.ext ?_ _ | with_reducible refine Ext.setCell ?_ (by simp) _)
  · have hv : extV r m = .tuple #[(fusK (dif r) m 64).val, .int .i64 0] := by simp only [extV, h3, if_true]
    rw [hv]
    exact extract_ok r hr m w h3
end Go.Proofs.Ytcacbolbedhcoaa
