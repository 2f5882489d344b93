/- The library's Delete at lists of numbers: what it does (laid by the shelf's commands, in plain words). -/
import Derived.Ground.Names2Prog
import Derived.Shelf.Slices.Delete
import Derived.Shelf.Slices.Cells
import Derived.Test.YtfdcapblgdlkaaaCommon
import Derived.Test.YtfdcapblgdlkaaaProg
import Derived.Test.YtfdcapblgdlkaaaSlices
namespace Go.Proofs.Ytfdcapblgdlkaaa
open Go.Shelf Go.Proofs
def laysNm223_ren : Go.Shelf.Ren := ⟨fun | 23 => 93 | n => n, fun | 22 => 56 | 3 => 3 | 4 => 4 | 0 => 0 | n => n, fun | n => n⟩
theorem laysNm223 : Go.Proofs.Lays2.n23 Try.prog laysNm223_ren := {
  mixed := by kernel_rfl
  f23 := Try.func93.trans (congrArg some (by kernel_rfl))
  t0 := Try.underlying0
  a0 := Try.isAgg0
  z0 := Try.sizeOf0
  v0 := Try.zeroValue0
  t3 := Try.underlying3
  a3 := Try.isAgg3
  z3 := Try.sizeOf3
  v3 := Try.zeroValue3
  t4 := Try.underlying4
  a4 := Try.isAgg4
  z4 := Try.sizeOf4
  v4 := Try.zeroValue4
  t22 := Try.underlying56
  a22 := Try.isAgg56
  z22 := Try.sizeOf56
  v22 := Try.zeroValue56
  i3 := by kernel_rfl }
open Go.RowKit Go.Lib Go.Sort in
theorem delete_int (blk off cap i j : Nat) (zs : List Int) (w : World) (hH : Holds (Value.int .i64) w blk off zs.toArray) (hcap : zs.length ≤ cap) (hm : cap ≤ 9223372036854775807) (hij : i ≤ j) (hj : j ≤ zs.length) :
    Calls Try.prog 93 #[.slice (some ⟨blk, off, none⟩) zs.length cap, .int .i64 i, .int .i64 j] w fun e w' => e = .returned (.slice (some ⟨blk, off, none⟩) (zs.length - (j - i)) cap) ∧ ∃ q, w' = putRow (Value.int .i64) (Sort.ahead w q) blk off (zs.take i ++ zs.drop j ++ List.replicate (j - i) 0).toArray := Any.slices_Delete_int laysNm223 blk off cap i j zs w hH hcap hm hij hj
end Go.Proofs.Ytfdcapblgdlkaaa
/- Delete of one number out of a list of the call's own. -/
namespace Go.Proofs.Ytfdcapblgdlkaaa
open Go.RowKit Go.Lib Go.Sort

def intsV (l : List Nat) : List Value := l.map fun (n : Nat) => Value.int .i64 (n : Int)
theorem ints_at (l : List Nat) (j : Nat) : (intsV l)[j]? = (l[j]?).map fun (n : Nat) => Value.int .i64 (n : Int) := by unfold intsV; rw [List.getElem?_map]
theorem ints_len (l : List Nat) : (intsV l).length = l.length := by simp [intsV]
/-- A list of numbers of the call's own: in block g, of capacity c. -/
def Nums (w : World) (g c : Nat) (l : List Nat) : Prop := ∃ cur : Array Value, Blk w g 3 cur ∧ l.length ≤ c ∧ c ≤ maxLen ∧ cur.size = c ∧ ∀ j, j < l.length → cur[j]? = some (.int .i64 ((l.getD j 0 : Nat) : Int))
theorem heap_putRow (w : World) (g q : Nat) (zs : Array Int) (b : Nat) (h : b ≠ g) : (putRow (Value.int .i64) (Sort.ahead w q) g 0 zs).heap[b]? = w.heap[b]? := by
  simp only [putRow, mapBlock, Sort.ahead]
  rw [Array.getElem?_modify, if_neg (fun e => h e.symm)]
theorem blk_putRow (w : World) (g q : Nat) (cur : Array Value) (zs : Array Int) (h : Blk w g 3 cur) : Blk (putRow (Value.int .i64) (Sort.ahead w q) g 0 zs) g 3 (putCells (Value.int .i64) 0 zs cur) := by
  unfold Blk at h ⊢
  simp [putRow, mapBlock, Sort.ahead, Array.getElem?_modify, h, onCells]
/-- the block g is another one; all else is as it was -/
structure Turn1 (w w' : World) (g : Nat) : Prop where
  os : w'.os = w.os
  tape : w'.tape = w.tape
  output : w'.output = w.output
  size : w'.heap.size = w.heap.size
  block : ∀ b, b ≠ g → w'.heap[b]? = w.heap[b]?
theorem erase_map (f : Nat → Int) : ∀ (l : List Nat) (k : Nat), (l.map f).eraseIdx k = (l.eraseIdx k).map f
  | [], _ => rfl
  | _ :: _, 0 => rfl
  | a :: r, k + 1 => by simp [erase_map f r k]
theorem delete_nums (w : World) (g c : Nat) (l : List Nat) (k : Nat) (hk : k < l.length) (h : Nums w g c l) :
    Calls Try.prog 93 #[.slice (some ⟨g, 0, none⟩) l.length c, .int .i64 (k : Int), .int .i64 ((k : Int) + 1)] w fun e w' => e = .returned (.slice (some ⟨g, 0, none⟩) (l.length - 1) c) ∧ Turn1 w w' g ∧ Nums w' g c (l.eraseIdx k) := by
  obtain ⟨cur, hB, hlc, hcm, hcs, hat⟩ := h
  have hlen : (l.map fun n : Nat => (n : Int)).length = l.length := by simp
  have hH : Holds (Value.int .i64) w g 0 (l.map fun n : Nat => (n : Int)).toArray := by
    intro j hj
    have hj' : j < l.length := by simpa using hj
    refine ⟨?_, by rw [Nat.zero_add]; exact hB.frozen j⟩
    rw [Nat.zero_add]
    refine (hB.cell j).trans ((hat j hj').trans ?_)
    rw [List.getD_eq_getElem?_getD, List.getElem?_eq_getElem hj', getElem!_pos _ j (by simpa using hj')]
    simp
  have hd := delete_int g 0 c k (k + 1) (l.map fun n : Nat => (n : Int)) w hH (by rw [hlen]; exact hlc) hcm (Nat.le_succ k) (by rw [hlen]; omega)
  rw [hlen] at hd
  have e1 : (k + 1 - k) = 1 := by omega
  rw [e1] at hd
  have e2 : ((k + 1 : Nat) : Int) = (k : Int) + 1 := by push_cast; rfl
  rw [e2] at hd
  refine hd.mono fun e w' ⟨he, q, hw⟩ => ⟨he, ?_, ?_⟩
  · subst hw
    exact ⟨rfl, rfl, rfl, by simp [putRow, mapBlock, Sort.ahead], fun b hb => heap_putRow _ _ _ _ _ hb⟩
  · subst hw
    refine ⟨_, blk_putRow w g q cur _ hB, ?_, hcm, by simp [putCells, hcs], ?_⟩
    · rw [List.length_eraseIdx, if_pos hk]; omega
    · intro j hj
      have hel : (l.eraseIdx k).length = l.length - 1 := by rw [List.length_eraseIdx, if_pos hk]
      have hz : ((l.map fun n : Nat => (n : Int)).take k ++ (l.map fun n : Nat => (n : Int)).drop (k + 1) ++ List.replicate 1 0)[j]? = some (((l.eraseIdx k).getD j 0 : Nat) : Int) := by
        rw [← List.eraseIdx_eq_take_drop_succ, List.getElem?_append_left (by rw [List.length_eraseIdx, if_pos (by simpa using hk)]; simp; omega)]
        rw [erase_map, List.getElem?_map, List.getElem?_eq_getElem hj, List.getD_eq_getElem?_getD, List.getElem?_eq_getElem hj]
        rfl
      have hsz : ((l.map fun n : Nat => (n : Int)).take k ++ (l.map fun n : Nat => (n : Int)).drop (k + 1) ++ List.replicate 1 0).length = l.length := by simp; omega
      generalize (l.map fun n : Nat => (n : Int)).take k ++ (l.map fun n : Nat => (n : Int)).drop (k + 1) ++ List.replicate 1 0 = zs at *
      have hj2 : j < zs.length := by omega
      have hjc : j < cur.size := by omega
      have hv : zs.toArray[j - 0]! = (((l.eraseIdx k).getD j 0 : Nat) : Int) := by
        rw [Nat.sub_zero, getElem!_pos _ j (by simpa using hj2)]
        have h3 : zs[j]? = some zs[j] := List.getElem?_eq_getElem hj2
        rw [h3] at hz
        simpa using hz
      unfold putCells
      rw [Array.getElem?_mapIdx, Array.getElem?_eq_getElem hjc, Option.map_some, if_pos ⟨Nat.zero_le _, by simpa using hj2⟩, hv]
end Go.Proofs.Ytfdcapblgdlkaaa
