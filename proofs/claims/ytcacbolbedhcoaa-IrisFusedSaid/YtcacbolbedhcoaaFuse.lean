/- Fuse: the votes of some codes. -/
import Derived.Test.YtcacbolbedhcoaaRef
import Derived.Laws.Rows
namespace Go.Proofs.Ytcacbolbedhcoaa
open Go.RowKit

/-- an array of 64 numbers -/
def arr64 (f : Nat → Int) : Array Value := ((List.range 64).map fun i => Value.int .i64 (f i)).toArray
theorem arr_get (f : Nat → Int) (k : Nat) (h : k < 64) : (arr64 f)[k]? = some (.int .i64 (f k)) := by
  unfold arr64; simp [h]
theorem arr_size (f : Nat → Int) : (arr64 f).size = 64 := by simp [arr64]
theorem arr_set (f : Nat → Int) (k : Nat) (v : Int) : (arr64 f).setIfInBounds k (.int .i64 v) = arr64 (fun i => if i = k then v else f i) := by
  unfold arr64
  rw [List.setIfInBounds_toArray]
  congr 1
  apply List.ext_getElem?
  intro i
  rw [List.getElem?_set]
  by_cases h : k = i
  · subst h
    by_cases h64 : k < 64
    · simp [h64]
    · simp [h64]
  · have : ¬ i = k := fun e => h e.symm
    by_cases h64 : i < 64
    · simp [h, h64, this]
    · simp [h, h64]
theorem arr_zero : arr64 (fun _ => 0) = #[.int .i64 0, .int .i64 0, .int .i64 0, .int .i64 0, .int .i64 0, .int .i64 0, .int .i64 0, .int .i64 0, .int .i64 0, .int .i64 0, .int .i64 0, .int .i64 0, .int .i64 0, .int .i64 0, .int .i64 0, .int .i64 0, .int .i64 0, .int .i64 0, .int .i64 0, .int .i64 0, .int .i64 0, .int .i64 0, .int .i64 0, .int .i64 0, .int .i64 0, .int .i64 0, .int .i64 0, .int .i64 0, .int .i64 0, .int .i64 0, .int .i64 0, .int .i64 0, .int .i64 0, .int .i64 0, .int .i64 0, .int .i64 0, .int .i64 0, .int .i64 0, .int .i64 0, .int .i64 0, .int .i64 0, .int .i64 0, .int .i64 0, .int .i64 0, .int .i64 0, .int .i64 0, .int .i64 0, .int .i64 0, .int .i64 0, .int .i64 0, .int .i64 0, .int .i64 0, .int .i64 0, .int .i64 0, .int .i64 0, .int .i64 0, .int .i64 0, .int .i64 0, .int .i64 0, .int .i64 0, .int .i64 0, .int .i64 0, .int .i64 0, .int .i64 0] := rfl
theorem run_index104 (f : Nat → Int) (k : Nat) (h : k < 64) (w : World) : (Instr.index 104 (.agg (arr64 f)) (.int .i64 (k : Int))).run Try.prog w = .ok (.int .i64 (f k)) w := by
  have hi : (Try.prog.info? 3).map (·.size) = some 1 := by kernel_rfl
  cases hq : Try.prog.info? 3 with
  | none => rw [hq] at hi; cases hi
  | some i =>
    have hs : i.size = 1 := by rw [hq] at hi; simpa using hi
    simp [Instr.index, asIntOf, run_underlying Try.underlying104, run_underlying Try.underlying3, sizeOf, typeInfo, hq, hs, part, isAgg, arr_get f k h]
    intro h'; omega

def b2i (b : Bool) : Int := if b then 1 else 0
theorem b2i_in (b : Bool) : 0 ≤ b2i b ∧ b2i b ≤ 1 := by cases b <;> simp [b2i]
theorem bitI (x : BitVec 64) (k : Nat) : bits .and .u64 (uw x / 2 ^ min k 64) 1 = b2i (x.getLsbD k) := by
  have h := bit_eq (x >>> k)
  rw [bit_at] at h
  rw [shr_min]
  have h1 : uw 1#64 = 1 := rfl
  rw [← h1, uw_and] at h ⊢
  rw [uw_eq] at h
  cases hb : x.getLsbD k
  · have h0 : (x >>> k) &&& 1#64 = 0#64 := by
      apply BitVec.eq_of_getLsbD_eq
      intro i hi
      by_cases hi0 : i = 0
      · subst hi0; simp [hb]
      · simp [BitVec.getLsbD_one, hi0]
    rw [h0]; rfl
  · rw [hb] at h
    have h0 : (x >>> k) &&& 1#64 = 1#64 := by simpa using h
    rw [h0]; rfl
def dlt (i : Nat) (a : Ir) : Int := 2 * b2i (a.code.getLsbD i) - b2i (a.mask.getLsbD i)
theorem dlt_in (i : Nat) (a : Ir) : -1 ≤ dlt i a ∧ dlt i a ≤ 2 := by
  have h1 := b2i_in (a.code.getLsbD i)
  have h2 := b2i_in (a.mask.getLsbD i)
  unfold dlt; omega
/-- the votes for a bit -/
def vote (l : List Ir) (i : Nat) : Int := (l.map (dlt i)).sum
theorem vote_snoc (l : List Ir) (a : Ir) (i : Nat) : vote (l ++ [a]) i = vote l i + dlt i a := by simp [vote]
theorem vote_in (l : List Ir) (i : Nat) : -(l.length : Int) ≤ vote l i ∧ vote l i ≤ 2 * l.length := by
  induction l with
  | nil => simp [vote]
  | cons a r ih =>
    have h := dlt_in i a
    have e : vote (a :: r) i = dlt i a + vote r i := by simp [vote]
    rw [e]
    simp only [List.length_cons]
    omega
def votK (l : List Ir) (a : Ir) (k i : Nat) : Int := if i < k then vote l i + dlt i a else vote l i
theorem votK_zero (l : List Ir) (a : Ir) : votK l a 0 = vote l := by funext i; simp [votK]
theorem votK_succ (l : List Ir) (a : Ir) (k : Nat) : (fun i => if i = k then votK l a k k + dlt k a else votK l a k i) = votK l a (k + 1) := by
  funext i
  unfold votK
  by_cases h : i = k
  · subst h; simp
  · have : (i < k + 1) ↔ (i < k) := by omega
    simp [h, this]
theorem votK_all (l : List Ir) (a : Ir) : arr64 (votK l a 64) = arr64 (vote (l ++ [a])) := by
  unfold arr64
  congr 1
  apply List.map_congr_left
  intro i hi
  have : i < 64 := List.mem_range.1 hi
  rw [vote_snoc]; simp [votK, this]

/-- the fused code, from the first k votes -/
def fusK (f : Nat → Int) (need : Int) : Nat → Ir
  | 0 => ⟨0#64, 0#64⟩
  | k + 1 => ⟨if need ≤ f k then (fusK f need k).code ||| (1#64 <<< k) else (fusK f need k).code, if need ≤ f k ∨ need ≤ -(f k) then (fusK f need k).mask ||| (1#64 <<< k) else (fusK f need k).mask⟩
def fuseV (l : List Ir) (need : Int) : Value :=
  if inB (l.length : Int) 1 64 then if allI l then if inB need 1 64 then .tuple #[(fusK (vote l) need 64).val, .int .i64 0] else .tuple #[Ir.zero.val, .int .i64 2] else .tuple #[Ir.zero.val, .int .i64 30] else .tuple #[Ir.zero.val, .int .i64 4]
set_option maxRecDepth 100000 in
set_option maxHeartbeats 2000000 in
theorem fuse_ok (A : Option Addr) (c : Nat) (need : Int) (l : List Ir) (w : World) (hl : Irs w A l) (h1 : inB (l.length : Int) 1 64 = true) (h2 : allI l = true) (h3 : inB need 1 64 = true) : Calls Try.prog 33 #[.slice A l.length c, .int .i64 need] w fun e w' => e = .returned (.tuple #[(fusK (vote l) need 64).val, .int .i64 0]) ∧ Ext w w' := by
  have hlen : 1 ≤ l.length ∧ l.length ≤ 64 := by simp [inB] at h1; omega
  have hneed : 1 ≤ need ∧ need ≤ 64 := by simpa [inB] using h3
  have HL := Lib.hid hl
  have C := Lib.hid (fun A c w hl => h2 ▸ valid_any A c l w hl (by omega))
  clear h2
  go_enter Try.func33, Try.ntmps33
  go_wp2_with (first | (go_at_call 45; refine Calls.same (within_any _ _ _ _) ?_) | (go_at_call 47; refine Calls.ext (C.out A c _ (HL.out.grow ((Ext.refl w).alloc _))) fun z => ?_))
  have HR := Lib.hid ((Blk.new w 27 #[.int .u64 0, .int .u64 0]).ext z)
  have HE0 := Lib.hid (((Ext.refl w).alloc (.cells #[.int .u64 0, .int .u64 0] 27)).ext z)
  generalize ext (w.alloc (.cells #[.int .u64 0, .int .u64 0] 27)) z = W0 at *
  rw [← arr_zero]
  have HV := Lib.hid (Blk.new W0 104 (arr64 (fun _ => 0)))
  have HE := Lib.hid ((Ext.refl W0).alloc (.cells (arr64 (fun _ => 0)) 104))
  generalize W0.alloc (.cells (arr64 (fun _ => 0)) 104) = W1 at *
  generalize hg : W0.heap.size = g at *
  have HG := Lib.hid hg
  clear hg
  go_loopw [28] (fun i wr => ∃ (j : Nat), j ≤ l.length ∧ i = .int .i64 j ∧ Ext W0 wr ∧ Blk wr g 104 (arr64 (vote (l.take j)))) (fun i _ => l.length - (intOf i).toNat)
  case atStart => exact ⟨0, Nat.zero_le _, rfl, HE.out, by have : vote (l.take 0) = fun _ => 0 := (by funext i; simp [vote]); rw [this]; exact HV.out⟩
  case round =>
    obtain ⟨j, hj, rfl, hE, hB⟩ := hrel
    obtain ⟨wo, rfl⟩ : ∃ wo : World, wo = wr := ⟨_, rfl⟩
    by_cases hlt : j < l.length
    · rcases HL.out with h | ⟨b, off, rfl, hb, hc⟩
      · subst h; simp at hlt
      obtain ⟨c0, c1⟩ := hc j l[j] (List.getElem?_eq_getElem hlt)
      have e0 : wo.cell? ⟨b, off + j * 2, none⟩ = some (.int .u64 (uw l[j].code)) := ((HE0.out.trans hE).cell (p := ⟨b, off + j * 2, none⟩) hb).trans c0
      have e1 : wo.cell? ⟨b, off + j * 2 + 1, none⟩ = some (.int .u64 (uw l[j].mask)) := ((HE0.out.trans hE).cell (p := ⟨b, off + j * 2 + 1, none⟩) hb).trans c1
      have HT := Lib.hid (List.take_succ_eq_append_getElem hlt)
      have hbo : Nonempty (Old b wo) := Old.mk (Nat.lt_of_lt_of_le hb (HE0.out.trans hE).size)
      have hlj : (l.take j).length = j := by simp; omega
      have HB := Lib.hid hB
      have HEo := Lib.hid hE
      have hgl := hB.lt
      clear hc c0 c1 hB hE hb
      generalize l[j] = a at *
      generalize l.take j = lj at *
      go_wp2_with fail
      have HA2 := Lib.hid (Blk.new wo 27 #[.int .u64 (uw a.code), .int .u64 (uw a.mask)])
      have HB2 := Lib.hid (HB.out.alloc (.cells #[.int .u64 (uw a.code), .int .u64 (uw a.mask)] 27))
      have HE2 := Lib.hid (HEo.out.alloc (.cells #[.int .u64 (uw a.code), .int .u64 (uw a.mask)] 27))
      have hne : g ≠ wo.heap.size := by omega
      have hge : g < wo.heap.size := hgl
      clear e0 e1 HB hbo
      generalize wo.alloc (.cells #[.int .u64 (uw a.code), .int .u64 (uw a.mask)] 27) = W2 at *
      generalize wo.heap.size = h at *
      go_loopw [32] (fun i wr => ∃ (k : Nat), k ≤ 64 ∧ i = .int .i64 k ∧ Ext W0 wr ∧ Blk wr h 27 #[.int .u64 (uw a.code), .int .u64 (uw a.mask)] ∧ Blk wr g 104 (arr64 (votK lj a k))) (fun i _ => 64 - (intOf i).toNat)
      case atStart => exact ⟨0, Nat.zero_le _, rfl, HE2.out, HA2.out, by rw [votK_zero]; exact HB2.out⟩
      case round =>
        obtain ⟨k, hk, rfl, hE, hA, hB⟩ := hrel
        by_cases hlk : k < 64
        · have e0 : wr.cell? ⟨h, 0, none⟩ = some (.int .u64 (uw a.code)) := hA.cell 0
          have e1 : wr.cell? ⟨h, 1, none⟩ = some (.int .u64 (uw a.mask)) := hA.cell 1
          have e2 : wr.cell? ⟨g, k, none⟩ = some (.int .i64 (votK lj a k k)) := (hB.cell k).trans (arr_get _ k hlk)
          have ef := hB.frozen
          have hv0 : votK lj a k k = vote lj k := by simp [votK]
          have hvi := vote_in lj k
          rw [← hv0] at hvi
          have Hs := Lib.hid (votK_succ lj a k)
          have hb1 := bitI a.code k
          have hb2 := bitI a.mask k
          rw [Nat.min_eq_left (Nat.le_of_lt hlk)] at hb1 hb2
          have hr1 := b2i_in (a.code.getLsbD k)
          have hr2 := b2i_in (a.mask.getLsbD k)
          have Hd := Lib.hid (show dlt k a = 2 * b2i (a.code.getLsbD k) - b2i (a.mask.getLsbD k) from rfl)
          have HA := Lib.hid hA
          have HB := Lib.hid hB
          have HEk := Lib.hid hE
          clear hA hB hE hv0
          generalize b2i (a.code.getLsbD k) = x1 at *
          generalize b2i (a.mask.getLsbD k) = x2 at *
          generalize votK lj a k k = v at *
          have hx1 : wrap64 x1 = x1 := by have := IntWalk.i64_in x1 (by omega); rwa [IntWalk.i64_left] at this
          have hx2 : wrap64 x2 = x2 := by have := IntWalk.i64_in x2 (by omega); rwa [IntWalk.i64_left] at this
          have hx3 : wrap64 (2 * x1) = 2 * x1 := by have := IntWalk.i64_in (2 * x1) (by omega); rwa [IntWalk.i64_left] at this
          have hx4 : wrap64 (2 * x1 - x2) = 2 * x1 - x2 := by have := IntWalk.i64_in (2 * x1 - x2) (by omega); rwa [IntWalk.i64_left] at this
          have hx5 : wrap64 (v + (2 * x1 - x2)) = v + (2 * x1 - x2) := by have := IntWalk.i64_in (v + (2 * x1 - x2)) (by omega); rwa [IntWalk.i64_left] at this
          have hy1 : IntKind.i64.wrap x1 = x1 := IntWalk.i64_in x1 (by omega)
          have hy2 : IntKind.i64.wrap x2 = x2 := IntWalk.i64_in x2 (by omega)
          have hy3 : IntKind.i64.wrap (2 * x1) = 2 * x1 := IntWalk.i64_in _ (by omega)
          have hy4 : IntKind.i64.wrap (2 * x1 - x2) = 2 * x1 - x2 := IntWalk.i64_in _ (by omega)
          have hy5 : IntKind.i64.wrap (v + (2 * x1 - x2)) = v + (2 * x1 - x2) := IntWalk.i64_in _ (by omega)
          have hk2 : (k : Int) < 64 := by omega
          go_wp2_with fail
          refine wp_region_tail 19 (by kernel_rfl) (by kernel_rfl) ?_
          simp only [List.take_succ_cons, List.take_zero, List.drop_succ_cons, List.drop_zero]
          repeat still_step
          refine wpStill_nil ?_
          go_wp2_with fail
          go_roundw
          case rel =>
            refine ⟨k + 1, by omega, by go_num, ?_, ?_, ?_⟩
            · exact ((HEk.out.setCell (p := ⟨g, k, none⟩) (Nat.le_of_eq HG.out) (.int .i64 (v + (2 * x1 - x2)))).drew)
            · exact (HA.out.far (p := ⟨g, k, none⟩) (Ne.symm hne) (.int .i64 (v + (2 * x1 - x2)))).drew
            · have := (HB.out.set_ k (.int .i64 (v + (2 * x1 - x2))))
              rw [arr_set, ← Hd.out, Hs.out] at this
              rw [← Hd.out]
              exact this.drew
          case measure => simp [intOf]; omega
        · obtain rfl : k = 64 := by omega
          have HB := Lib.hid hB
          have HEk := Lib.hid hE
          clear hB hE hA
          go_wp2_with fail
          go_roundw
          case rel => exact ⟨j + 1, by omega, by go_num, HEk.out, by rw [HT.out, ← votK_all]; exact HB.out⟩
          case measure => simp [intOf]; omega
    · have hjl : j = l.length := by omega
      subst hjl
      rw [List.take_of_length_le (Nat.le_refl _)] at hB
      have HB := Lib.hid (hB.alloc (.cells #[.int .u64 0, .int .u64 0] 27))
      have HEo := Lib.hid (hE.alloc (.cells #[.int .u64 0, .int .u64 0] 27))
      have HO := Lib.hid (Blk.new wo 27 #[.int .u64 0, .int .u64 0])
      have hgl := hB.lt
      clear hB hE
      go_wp2_with (first | (refine wpList_load_row rfl 104 (.tmp 6) rfl g rfl 104 (arr64 (vote l)) (0, 0) (.array 64 3) HB.out Try.underlying104 rfl (by rw [arr_size]; kernel_rfl) ?_))
      have hne : w.heap.size ≠ wo.heap.size := by
        have h1 := HR.out.lt
        have h2 := HG.out
        omega
      have hoW : W0.heap.size ≤ wo.heap.size := by have h2 := HG.out; omega
      have hgo : g ≠ wo.heap.size := by omega
      clear HL HE HV hgl hl
      generalize wo.alloc (.cells #[.int .u64 0, .int .u64 0] 27) = W2 at *
      generalize wo.heap.size = o at *
      go_loopw [57] (fun i wr => ∃ (k : Nat), k ≤ 64 ∧ i = .int .i64 k ∧ Ext W0 wr ∧ Blk wr o 27 #[.int .u64 (uw (fusK (vote l) need k).code), .int .u64 (uw (fusK (vote l) need k).mask)]) (fun i _ => 64 - (intOf i).toNat)
      case atStart => exact ⟨0, Nat.zero_le _, rfl, HEo.out, HO.out⟩
      case round =>
        obtain ⟨k, hk, rfl, hE, hB⟩ := hrel
        by_cases hlk : k < 64
        · have e0 : wr.cell? ⟨o, 0, none⟩ = some (.int .u64 (uw (fusK (vote l) need k).code)) := hB.cell 0
          have e1 : wr.cell? ⟨o, 1, none⟩ = some (.int .u64 (uw (fusK (vote l) need k).mask)) := hB.cell 1
          have ef := hB.frozen
          have hidx := run_index104 (vote l) k hlk
          have hvi := vote_in l k
          have hst : fusK (vote l) need (k + 1) = ⟨if need ≤ vote l k then (fusK (vote l) need k).code ||| (1#64 <<< k) else (fusK (vote l) need k).code, if need ≤ vote l k ∨ need ≤ -(vote l k) then (fusK (vote l) need k).mask ||| (1#64 <<< k) else (fusK (vote l) need k).mask⟩ := rfl
          have hp := shl_one k
          have HBk := Lib.hid hB
          have HEk := Lib.hid hE
          clear hE hB
          generalize vote l k = v at *
          have hk2 : (k : Int) < 64 := by omega
          by_cases c1 : need ≤ v
          · have Hst := Lib.hid (show fusK (vote l) need (k + 1) = ⟨(fusK (vote l) need k).code ||| (1#64 <<< k), (fusK (vote l) need k).mask ||| (1#64 <<< k)⟩ by rw [hst]; simp [c1])
            clear hst
            generalize (fusK (vote l) need k).code = cd at *
            generalize (fusK (vote l) need k).mask = mk at *
            go_wp2_with fail
            refine wp_region_tail 6 (by kernel_rfl) (by kernel_rfl) ?_
            simp only [List.take_succ_cons, List.take_zero, List.drop_succ_cons, List.drop_zero]
            repeat still_step
            refine wpStill_nil ?_
            go_wp2_with fail
            refine wp_region_tail 6 (by kernel_rfl) (by kernel_rfl) ?_
            simp only [List.take_succ_cons, List.take_zero, List.drop_succ_cons, List.drop_zero]
            repeat still_step
            refine wpStill_nil ?_
            go_wp2_with fail
            go_roundw
            case rel =>
              refine ⟨k + 1, by omega, by go_num, ?_, ?_⟩
              · exact (((HEk.out.setCell (p := ⟨o, 1, none⟩) hoW _).drew).setCell (p := ⟨o, 0, none⟩) hoW _).drew
              · rw [Hst.out]; exact (((HBk.out.set_ 1 _).drew).set_ 0 _).drew
            case measure => simp [intOf]; omega
          · by_cases c2 : need ≤ -v
            · have Hst := Lib.hid (show fusK (vote l) need (k + 1) = ⟨(fusK (vote l) need k).code, (fusK (vote l) need k).mask ||| (1#64 <<< k)⟩ by rw [hst]; simp [c1, c2])
              clear hst
              generalize (fusK (vote l) need k).code = cd at *
              generalize (fusK (vote l) need k).mask = mk at *
              go_wp2_with fail
              refine wp_region_tail 6 (by kernel_rfl) (by kernel_rfl) ?_
              simp only [List.take_succ_cons, List.take_zero, List.drop_succ_cons, List.drop_zero]
              repeat still_step
              refine wpStill_nil ?_
              go_wp2_with fail
              go_roundw
              case rel =>
                refine ⟨k + 1, by omega, by go_num, ?_, ?_⟩
                · exact (HEk.out.setCell (p := ⟨o, 1, none⟩) hoW _).drew
                · rw [Hst.out]; exact (HBk.out.set_ 1 _).drew
              case measure => simp [intOf]; omega
            · have Hst := Lib.hid (show fusK (vote l) need (k + 1) = ⟨(fusK (vote l) need k).code, (fusK (vote l) need k).mask⟩ by rw [hst]; simp [c1, c2])
              clear hst
              generalize (fusK (vote l) need k).code = cd at *
              generalize (fusK (vote l) need k).mask = mk at *
              go_wp2_with fail
              go_roundw
              case rel => exact ⟨k + 1, by omega, by go_num, HEk.out, by rw [Hst.out]; exact HBk.out⟩
              case measure => simp [intOf]; omega
        · obtain rfl : k = 64 := by omega
          obtain ⟨f, hf⟩ : ∃ f, fusK (vote l) need 64 = f := ⟨_, rfl⟩
          have HF := Lib.hid hf
          rw [hf] at hB
          have e0 : wr.cell? ⟨o, 0, none⟩ = some (.int .u64 (uw f.code)) := hB.cell 0
          have e1 : wr.cell? ⟨o, 1, none⟩ = some (.int .u64 (uw f.mask)) := hB.cell 1
          have hR2 := HR.out.grow hE
          have r0 : wr.cell? ⟨w.heap.size, 0, none⟩ = some (.int .u64 0) := hR2.cell 0
          have r1 : wr.cell? ⟨w.heap.size, 1, none⟩ = some (.int .u64 0) := hR2.cell 1
          have rf := hR2.frozen
          have HEk := Lib.hid (HE0.out.trans hE)
          have HR2 := Lib.hid hR2
          clear hB hE hf hR2
          go_wp2_with fail
          have HS := Lib.hid ((HR2.out.set_ 0 (.int .u64 (uw f.code))).set_ 1 (.int .u64 (uw f.mask)))
          have HEf := Lib.hid ((HEk.out.setCell (p := ⟨w.heap.size, 0, none⟩) (Nat.le_refl _) (.int .u64 (uw f.code))).setCell (p := ⟨w.heap.size, 1, none⟩) (Nat.le_refl _) (.int .u64 (uw f.mask)))
          generalize (wr.setCell ⟨w.heap.size, 0, none⟩ (.int .u64 (uw f.code))).setCell ⟨w.heap.size, 1, none⟩ (.int .u64 (uw f.mask)) = Wf at *
          have q0 : Wf.cell? ⟨w.heap.size, 0, none⟩ = some (.int .u64 (uw f.code)) := HS.out.cell 0
          have q1 : Wf.cell? ⟨w.heap.size, 1, none⟩ = some (.int .u64 (uw f.mask)) := HS.out.cell 1
          exact bodyPost_ret (v := .tuple #[f.val, .int .i64 0]) (by simp [results, Try.results33, go_sem, q0, q1]) rfl ⟨ret_of (by rw [HF.out]), HEf.out⟩
set_option maxRecDepth 100000 in
set_option maxHeartbeats 1000000 in
theorem Fuse_any (A : Option Addr) (c : Nat) (need : Int) (l : List Ir) (w : World) (hl : Irs w A l) (hn : l.length ≤ 9000000000000) : Calls Try.prog 33 #[.slice A l.length c, .int .i64 need] w fun e w' => e = .returned (fuseV l need) ∧ Ext w w' := by
  cases h1 : inB (l.length : Int) 1 64
  · have Hv := Lib.hid (show fuseV l need = .tuple #[Ir.zero.val, .int .i64 4] by simp [fuseV, h1])
    clear hl
    go_enter Try.func33, Try.ntmps33
    go_wp2_with (go_at_call 45; refine Calls.same (within_any _ _ _ _) ?_)
    refine bodyPost_ret (v := .tuple #[Ir.zero.val, .int .i64 4]) (by simp [results, Try.results33, go_sem, Ir.zero, uw_zero]) rfl ⟨ret_of Hv.out.symm, ?_⟩
    repeat' (first | with_reducible exact Ext.refl _ | with_reducible refine Ext.drew ?_ | with_reducible refine Ext.alloc ?_ _ | with_reducible refine Ext.ext ?_ _ | with_reducible refine Ext.setCell ?_ (by simp) _)
  · cases h2 : allI l
    · have Hv := Lib.hid (show fuseV l need = .tuple #[Ir.zero.val, .int .i64 30] by simp [fuseV, h1, h2])
      have HL := Lib.hid hl
      have C := Lib.hid (fun A c w hl => h2 ▸ valid_any A c l w hl hn)
      clear h2 hl
      go_enter Try.func33, Try.ntmps33
      go_wp2_with (first | (go_at_call 45; refine Calls.same (within_any _ _ _ _) ?_) | (go_at_call 47; refine Calls.ext (C.out A c _ (HL.out.grow ((Ext.refl w).alloc _))) fun z => ?_))
      refine bodyPost_ret (v := .tuple #[Ir.zero.val, .int .i64 30]) (by simp [results, Try.results33, go_sem, Ir.zero, uw_zero]) rfl ⟨ret_of Hv.out.symm, ?_⟩
      repeat' (first | with_reducible exact Ext.refl _ | with_reducible refine Ext.drew ?_ | with_reducible refine Ext.alloc ?_ _ | with_reducible refine Ext.ext ?_ _ | with_reducible refine Ext.setCell ?_ (by simp) _)
    · cases h3 : inB need 1 64
      · have Hv := Lib.hid (show fuseV l need = .tuple #[Ir.zero.val, .int .i64 2] by simp [fuseV, h1, h2, h3])
        have HL := Lib.hid hl
        have C := Lib.hid (fun A c w hl => h2 ▸ valid_any A c l w hl hn)
        clear h2 hl
        go_enter Try.func33, Try.ntmps33
        go_wp2_with (first | (go_at_call 45; refine Calls.same (within_any _ _ _ _) ?_) | (go_at_call 47; refine Calls.ext (C.out A c _ (HL.out.grow ((Ext.refl w).alloc _))) fun z => ?_))
        refine bodyPost_ret (v := .tuple #[Ir.zero.val, .int .i64 2]) (by simp [results, Try.results33, go_sem, Ir.zero, uw_zero]) rfl ⟨ret_of Hv.out.symm, ?_⟩
        repeat' (first | with_reducible exact Ext.refl _ | with_reducible refine Ext.drew ?_ | with_reducible refine Ext.alloc ?_ _ | with_reducible refine Ext.ext ?_ _ | with_reducible refine Ext.setCell ?_ (by simp) _)
      · have hv : fuseV l need = .tuple #[(fusK (vote l) need 64).val, .int .i64 0] := by simp only [fuseV, h1, h2, h3, if_true]
        rw [hv]
        exact fuse_ok A c need l w hl h1 h2 h3
end Go.Proofs.Ytcacbolbedhcoaa
