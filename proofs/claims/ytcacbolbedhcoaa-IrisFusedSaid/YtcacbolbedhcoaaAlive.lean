/- The examples that every statement asks first. -/
import Derived.Test.YtcacbolbedhcoaaStairs
import Derived.Test.YtcacbolbedhcoaaNear
import Derived.Test.YtcacbolbedhcoaaMatch
import Derived.Test.YtcacbolbedhcoaaAlike
namespace Go.Proofs.Ytcacbolbedhcoaa
open Go.RowKit

def rowI (x : BitVec 64) : Ir := ⟨x, 65535#64⟩
set_option maxRecDepth 100000 in
theorem rowI_any (x : BitVec 64) (w : World) : Calls Try.prog 43 #[.int .u64 (uw x)] w fun e w' => e = .returned (rowI x).val ∧ Ext w w' := by
  go_enter Try.func43, Try.ntmps43
  go_wp2_with fail
  refine bodyPost_ret (v := (rowI x).val) (by simp [results, Try.results43, go_sem, rowI, uw]) rfl ⟨rfl, ?_⟩
  repeat' (first | with_reducible exact Ext.refl _ | with_reducible refine Ext.alloc ?_ _ | with_reducible refine Ext.ext ?_ _ | with_reducible refine Ext.setCell ?_ (by simp) _)
def isB (a : Ir) (e : Int) (c m : BitVec 64) : Bool := e == 0 && (a.code == c && a.mask == m)
set_option maxRecDepth 100000 in
theorem is_any (a : Ir) (e : Int) (c m : BitVec 64) (w : World) : Calls Try.prog 44 #[a.val, .int .i64 e, .int .u64 (uw c), .int .u64 (uw m)] w fun r w' => r = .returned (.bool (isB a e c m)) ∧ Ext w w' := by
  have Hv := Lib.hid (show isB a e c m = (e == 0 && (a.code == c && a.mask == m)) from rfl)
  go_enter Try.func44, Try.ntmps44
  go_wp2_with fail
  all_goals (go_ret; refine ⟨ret_of ?_, (Ext.refl _).alloc _⟩; rw [Hv.out]; simp_all)
theorem al1 (w : World) : Calls Try.prog 23 #[.agg #[.int .u64 1, .int .u64 3], .int .i64 (-1)] w fun e w' => e = .returned (.tuple #[.agg #[.int .u64 32768, .int .u64 32769], .int .i64 0]) ∧ Ext w w' :=
  (by kernel_rfl : turnV ⟨1#64, 3#64⟩ (-1) = .tuple #[.agg #[.int .u64 32768, .int .u64 32769], .int .i64 0]) ▸ Turn_any ⟨1#64, 3#64⟩ (-1) w
theorem al2 (w : World) : Calls Try.prog 27 #[.agg #[.int .u64 5, .int .u64 15], .agg #[.int .u64 3, .int .u64 7], .int .i64 0] w fun e w' => e = .returned (.tuple #[.int .i64 2, .int .i64 3, .int .i64 0]) ∧ Ext w w' :=
  (by kernel_rfl : cmpV ⟨5#64, 15#64⟩ ⟨3#64, 7#64⟩ 0 = .tuple #[.int .i64 2, .int .i64 3, .int .i64 0]) ▸ Compare_any ⟨5#64, 15#64⟩ ⟨3#64, 7#64⟩ 0 w
theorem al3a (w : World) : Calls Try.prog 43 #[.int .u64 4369] w fun e w' => e = .returned (.agg #[.int .u64 4369, .int .u64 65535]) ∧ Ext w w' := rowI_any 4369#64 w
theorem al3b (w : World) : Calls Try.prog 43 #[.int .u64 8738] w fun e w' => e = .returned (.agg #[.int .u64 8738, .int .u64 65535]) ∧ Ext w w' := rowI_any 8738#64 w
theorem al3 (w : World) : Calls Try.prog 29 #[.agg #[.int .u64 4369, .int .u64 65535], .agg #[.int .u64 8738, .int .u64 65535], .int .i64 1] w fun e w' => e = .returned (.tuple #[.int .i64 0, .int .i64 16, .int .i64 1, .int .i64 0]) ∧ Ext w w' :=
  (by kernel_rfl : distV ⟨4369#64, 65535#64⟩ ⟨8738#64, 65535#64⟩ 1 = .tuple #[.int .i64 0, .int .i64 16, .int .i64 1, .int .i64 0]) ▸ Distance_any ⟨4369#64, 65535#64⟩ ⟨8738#64, 65535#64⟩ 1 w
abbrev fus4 : List Ir := [⟨1#64, 3#64⟩, ⟨1#64, 3#64⟩, ⟨0#64, 3#64⟩, ⟨3#64, 3#64⟩]
theorem al4 (A : Option Addr) (c : Nat) (w : World) (hl : Irs w A fus4) : Calls Try.prog 33 #[.slice A 4 c, .int .i64 2] w fun e w' => e = .returned (.tuple #[.agg #[.int .u64 1, .int .u64 3], .int .i64 0]) ∧ Ext w w' :=
  (by kernel_rfl : fuseV fus4 2 = .tuple #[.agg #[.int .u64 1, .int .u64 3], .int .i64 0]) ▸ Fuse_any A c 2 fus4 w hl (by decide)
theorem al5 (w : World) : Calls Try.prog 19 #[.agg (ringA stp), .int .i64 10] w fun e w' => e = .returned (.tuple #[.agg #[.int .u64 1970354902204423, .int .u64 9225483131392851975], .int .i64 0]) ∧ Ext w w' :=
  (by kernel_rfl : extV stp 10 = .tuple #[.agg #[.int .u64 1970354902204423, .int .u64 9225483131392851975], .int .i64 0]) ▸ Extract_any stp stp_in 10 w
theorem al6 (w : World) : Calls Try.prog 25 #[.int .i64 10, .int .i64 2] w fun e w' => e = .returned (.tuple #[.int .u64 56, .int .i64 0]) ∧ Ext w w' :=
  (by kernel_rfl : alikeV 10 2 = .tuple #[.int .u64 56, .int .i64 0]) ▸ Alike_any 10 2 w
theorem al7 (w : World) : Calls Try.prog 44 #[.agg #[.int .u64 32768, .int .u64 32769], .int .i64 0, .int .u64 32768, .int .u64 32769] w fun e w' => e = .returned (.bool true) ∧ Ext w w' :=
  (by kernel_rfl : isB ⟨32768#64, 32769#64⟩ 0 32768#64 32769#64 = true) ▸ is_any ⟨32768#64, 32769#64⟩ 0 32768#64 32769#64 w
theorem al8 (w : World) : Calls Try.prog 44 #[.agg #[.int .u64 1, .int .u64 3], .int .i64 0, .int .u64 1, .int .u64 3] w fun e w' => e = .returned (.bool true) ∧ Ext w w' :=
  (by kernel_rfl : isB ⟨1#64, 3#64⟩ 0 1#64 3#64 = true) ▸ is_any ⟨1#64, 3#64⟩ 0 1#64 3#64 w
theorem al9 (w : World) : Calls Try.prog 44 #[.agg #[.int .u64 1970354902204423, .int .u64 9225483131392851975], .int .i64 0, .int .u64 1970354902204423, .int .u64 9225483131392851975] w fun e w' => e = .returned (.bool true) ∧ Ext w w' :=
  (by kernel_rfl : isB ⟨1970354902204423#64, 9225483131392851975#64⟩ 0 1970354902204423#64 9225483131392851975#64 = true) ▸ is_any ⟨1970354902204423#64, 9225483131392851975#64⟩ 0 1970354902204423#64 9225483131392851975#64 w

theorem irs_four {w : World} {g : Nat} {t : TypeId} (h : Blk w g t #[.int .u64 1, .int .u64 3, .int .u64 1, .int .u64 3, .int .u64 0, .int .u64 3, .int .u64 3, .int .u64 3]) : Irs w (some ⟨g, 0, none⟩) fus4 := by
  refine .inr ⟨g, 0, rfl, h.lt, fun j x hx => ?_⟩
  match j, hx with
  | 0, hx => cases hx; exact ⟨h.cell 0, h.cell 1⟩
  | 1, hx => cases hx; exact ⟨h.cell 2, h.cell 3⟩
  | 2, hx => cases hx; exact ⟨h.cell 4, h.cell 5⟩
  | 3, hx => cases hx; exact ⟨h.cell 6, h.cell 7⟩
  | j + 4, hx => cases hx

set_option maxRecDepth 100000 in
set_option maxHeartbeats 4000000 in
theorem alive_any (w : World) : Calls Try.prog 38 #[] w fun e w' => e = .returned (.bool true) ∧ Ext w w' := by
  go_enter Try.func38, Try.ntmps38
  go_wp2_with (first | (go_at_call 23; refine Calls.ext (al1 _) fun z1 => ?_) | (go_at_call 27; refine Calls.ext (al2 _) fun z2 => ?_) | (go_at_call 43; first | (refine Calls.ext (al3a _) fun z3 => ?_) | (refine Calls.ext (al3b _) fun z4 => ?_)) | (go_at_call 29; refine Calls.ext (al3 _) fun z5 => ?_))
  have HB1 := Lib.hid (((((Blk.new (ext w z1) 27 #[.int .u64 32768, .int .u64 32769]).ext z2).ext z3).ext z4).ext z5)
  have HE1 := Lib.hid ((((((Ext.ext_self w z1).alloc (.cells #[.int .u64 32768, .int .u64 32769] 27)).ext z2).ext z3).ext z4).ext z5)
  have hle : w.heap.size ≤ (ext w z1).heap.size := ext_size _ _
  generalize (ext w z1).heap.size = b1 at *
  generalize ext (ext (ext (ext ((ext w z1).alloc (.cells #[.int .u64 32768, .int .u64 32769] 27)) z2) z3) z4) z5 = W1 at *
  refine Calls.ext (al4 _ 4 _ (irs_four (Blk.new _ _ _))) fun z6 => ?_
  have HB2 := Lib.hid ((HB1.out.alloc (.cells #[.int .u64 1, .int .u64 3, .int .u64 1, .int .u64 3, .int .u64 0, .int .u64 3, .int .u64 3, .int .u64 3] 27)).ext z6)
  have HE2 := Lib.hid ((HE1.out.alloc (.cells #[.int .u64 1, .int .u64 3, .int .u64 1, .int .u64 3, .int .u64 0, .int .u64 3, .int .u64 3, .int .u64 3] 27)).ext z6)
  generalize ext (W1.alloc (.cells #[.int .u64 1, .int .u64 3, .int .u64 1, .int .u64 3, .int .u64 0, .int .u64 3, .int .u64 3, .int .u64 3] 27)) z6 = W2 at *
  clear HB1 HE1
  go_wp2_with (first | (go_at_call 62; refine Calls.ext (stairs_ok _) fun z7 => ?_) | (go_at_call 19; refine Calls.ext (al5 _) fun z8 => ?_))
  have HB3 := Lib.hid (((HB2.out.alloc (.cells #[.int .u64 1, .int .u64 3] 27)).ext z7).ext z8 |>.alloc (.cells #[.int .u64 1970354902204423, .int .u64 9225483131392851975] 27))
  have HC3 := Lib.hid (((Blk.new W2 27 #[.int .u64 1, .int .u64 3]).ext z7).ext z8 |>.alloc (.cells #[.int .u64 1970354902204423, .int .u64 9225483131392851975] 27))
  have HD3 := Lib.hid (Blk.new (ext (ext (W2.alloc (.cells #[.int .u64 1, .int .u64 3] 27)) z7) z8) 27 #[.int .u64 1970354902204423, .int .u64 9225483131392851975])
  have HE3 := Lib.hid (((HE2.out.alloc (.cells #[.int .u64 1, .int .u64 3] 27)).ext z7).ext z8 |>.alloc (.cells #[.int .u64 1970354902204423, .int .u64 9225483131392851975] 27))
  generalize (ext (ext (W2.alloc (.cells #[.int .u64 1, .int .u64 3] 27)) z7) z8).heap.size = b3 at *
  generalize (ext (ext (W2.alloc (.cells #[.int .u64 1, .int .u64 3] 27)) z7) z8).alloc (.cells #[.int .u64 1970354902204423, .int .u64 9225483131392851975] 27) = W3 at *
  generalize W2.heap.size = b2 at *
  clear HB2 HE2 hle
  have a0 : W3.cell? ⟨b1, 0, none⟩ = some (.int .u64 32768) := HB3.out.cell 0
  have a1 : W3.cell? ⟨b1, 1, none⟩ = some (.int .u64 32769) := HB3.out.cell 1
  have a2 : W3.cell? ⟨b2, 0, none⟩ = some (.int .u64 1) := HC3.out.cell 0
  have a3 : W3.cell? ⟨b2, 1, none⟩ = some (.int .u64 3) := HC3.out.cell 1
  have a4 : W3.cell? ⟨b3, 0, none⟩ = some (.int .u64 1970354902204423) := HD3.out.cell 0
  have a5 : W3.cell? ⟨b3, 1, none⟩ = some (.int .u64 9225483131392851975) := HD3.out.cell 1
  have hb1 := Old.mk HB3.out.lt
  have hb2 := Old.mk HC3.out.lt
  have hb3 := Old.mk HD3.out.lt
  refine Calls.ext (al6 _) fun z9 => ?_
  go_wp2_with fail
  refine Calls.ext (al7 _) fun z10 => ?_
  go_wp2_with fail
  refine Calls.ext (al8 _) fun z11 => ?_
  go_wp2_with fail
  refine Calls.ext (al9 _) fun z12 => ?_
  go_wp2_with fail
  go_ret
  refine ⟨rfl, ?_⟩
  exact (((HE3.out.ext z9).ext z10).ext z11).ext z12
end Go.Proofs.Ytcacbolbedhcoaa
