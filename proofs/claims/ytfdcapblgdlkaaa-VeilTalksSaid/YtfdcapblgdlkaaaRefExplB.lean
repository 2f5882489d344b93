/- The reference's explanation of another word of the second party. -/
import Derived.Test.YtfdcapblgdlkaaaRefBad
namespace Go.Proofs.Ytfdcapblgdlkaaa
open Go.RowKit

def mixG (f g : Nat → Int) (k : Nat) : Nat → Int := fun i => if i < k then f i else g i
theorem mixG_zero (f g : Nat → Int) : mixG f g 0 = g := by funext i; simp [mixG]
theorem mixG_lt (f g : Nat → Int) {k i : Nat} (h : i < k) : mixG f g k i = f i := if_pos h
theorem mixG_ne (f g : Nat → Int) {k i : Nat} (h : i ≠ k) : mixG f g k i = mixG f g (k + 1) i := by
  unfold mixG
  by_cases h1 : i < k
  · rw [if_pos h1, if_pos (by omega)]
  · rw [if_neg h1, if_neg (by omega)]
theorem A15_mix (f g : Nat → Int) : A15 (mixG f g 15) = A15 f := by
  have h : valL 15 (u8V (mixG f g 15)) = valL 15 (u8V f) := List.map_congr_left (fun i hi => by
    have h1 := List.mem_range.1 hi
    simp [u8V, mixG, h1])
  unfold A15
  rw [h]
theorem fineP {d : Dl} (h : d.fine) : (∀ i, i < 15 → 0 ≤ (ptyP d).m i ∧ (ptyP d).m i < 31) ∧ (∀ i, i < 15 → 0 ≤ (ptyP d).s i ∧ (ptyP d).s i < 31) ∧ 0 ≤ (ptyP d).sh ∧ (ptyP d).sh < 31 := ⟨h.a, h.u, h.rc⟩
theorem fineQ {d : Dl} (h : d.fine) (lim : Int) : (∀ i, i < 15 → 0 ≤ (ptyQ d lim).m i ∧ (ptyQ d lim).m i < 31) ∧ (∀ i, i < 15 → 0 ≤ (ptyQ d lim).s i ∧ (ptyQ d lim).s i < 31) ∧ 0 ≤ (ptyQ d lim).sh ∧ (ptyQ d lim).sh < 31 := ⟨h.b, fun i _ => by show 0 ≤ (d.a i * d.b i - d.u i) % 31 ∧ (d.a i * d.b i - d.u i) % 31 < 31; generalize d.a i * d.b i = e; omega, h.rs⟩
theorem say_in (p q : Pty) (x y : BitVec 16) : (0 ≤ (talkOf p q x y).c ∧ (talkOf p q x y).c < 31) ∧ (0 ≤ (talkOf p q x y).s ∧ (talkOf p q x y).s < 31) := ⟨sayC_in p q x y, sayS_in p q x y⟩
/-- the deal as its loop fills it -/
def eB (d : Dl) (y q : BitVec 16) (k : Nat) : Dl := { d with b := mixG (d1B d y q).b d.b k }
theorem eB_zero (d : Dl) (y q : BitVec 16) : (eB d y q 0).cells = d.cells := by unfold eB; rw [mixG_zero]
theorem eB_end (d : Dl) (y q : BitVec 16) : (eB d y q 15).cells = (d1B d y q).cells := by
  unfold Dl.cells eB
  dsimp only
  rw [A15_mix]
  rfl
theorem eB_ne (d : Dl) (y q : BitVec 16) (k j : Nat) (h : j ≠ 15 + k) : (eB d y q k).cells[j]? = (eB d y q (k + 1)).cells[j]? := by
  rcases Nat.lt_or_ge j 15 with h1 | h1
  · rw [Dl.at_a _ j h1, Dl.at_a _ j h1]; rfl
  · rcases Nat.lt_or_ge j 30 with h2 | h2
    · obtain ⟨m, rfl⟩ : ∃ m, j = 15 + m := ⟨j - 15, by omega⟩
      rw [Dl.at_b _ m (by omega), Dl.at_b _ m (by omega)]
      show some (Value.int .u8 (mixG (d1B d y q).b d.b k m)) = some (Value.int .u8 (mixG (d1B d y q).b d.b (k + 1) m))
      rw [mixG_ne _ _ (by omega)]
    · exact dl_eq j (.inl (by omega)) (.inr (.inl h2)) (.inr (.inr rfl)) (.inr rfl) (.inr rfl) (.inr rfl)
def eA (d : Dl) (x q : BitVec 16) (k l : Nat) : Dl := { d with a := mixG (d1A d x q).a d.a k, u := mixG (d1A d x q).u d.u l }
theorem eA_zero (d : Dl) (x q : BitVec 16) : (eA d x q 0 0).cells = d.cells := by unfold eA; rw [mixG_zero, mixG_zero]
theorem eA_end (d : Dl) (x q : BitVec 16) : (eA d x q 15 15).cells = (d1A d x q).cells := by
  unfold Dl.cells eA
  dsimp only
  rw [A15_mix, A15_mix]
  rfl
theorem eA_ne (d : Dl) (x q : BitVec 16) (k l j : Nat) (h : j ≠ k) : (eA d x q k l).cells[j]? = (eA d x q (k + 1) l).cells[j]? := by
  rcases Nat.lt_or_ge j 15 with h1 | h1
  · rw [Dl.at_a _ j h1, Dl.at_a _ j h1]
    show some (Value.int .u8 (mixG (d1A d x q).a d.a k j)) = some (Value.int .u8 (mixG (d1A d x q).a d.a (k + 1) j))
    rw [mixG_ne _ _ h]
  · exact dl_eq j (.inl h1) (.inr (.inr rfl)) (.inr (.inr rfl)) (.inr rfl) (.inr rfl) (.inr rfl)
theorem eA_keep (d : Dl) (x q : BitVec 16) (k l j : Nat) (h : j < 15) : (eA d x q k l).cells[j]? = (eA d x q k (l + 1)).cells[j]? := by
  rw [Dl.at_a _ j h, Dl.at_a _ j h]; rfl
theorem eA_ne2 (d : Dl) (x q : BitVec 16) (k l j : Nat) (h : j ≠ 30 + l) : (eA d x q k l).cells[j]? = (eA d x q k (l + 1)).cells[j]? := by
  by_cases h1 : 30 ≤ j ∧ j < 45
  · obtain ⟨m, rfl⟩ : ∃ m, j = 30 + m := ⟨j - 30, by omega⟩
    rw [Dl.at_u _ m (by omega), Dl.at_u _ m (by omega)]
    show some (Value.int .u8 (mixG (d1A d x q).u d.u l m)) = some (Value.int .u8 (mixG (d1A d x q).u d.u (l + 1) m))
    rw [mixG_ne _ _ (by omega)]
  · exact dl_eq j (.inr rfl) (.inr (.inr rfl)) (by omega) (.inr rfl) (.inr rfl) (.inr rfl)
set_option maxRecDepth 100000 in
set_option maxHeartbeats 16000000 in
theorem refExplB_any (d : Dl) (lim : Int) (x y q : BitVec 16) (hd : d.fine) (hl : 0 ≤ lim ∧ lim ≤ 15) (hx : fitB 15 x = true) (hy : fitB 15 y = true) (hq : fitB 15 q = true) (p : Bool) (h1 : decide (far16 x y ≤ lim) = p) (h2 : decide (far16 x q ≤ lim) = p) (w : World) : Calls Try.prog 26 #[d.val, .int .i64 lim, .int .u16 (uv x), .int .u16 (uv y), .int .u16 (uv q), .bool false] w fun e w' => e = .returned (.tuple #[(outB d lim x y q).val, .int .i64 0]) ∧ Ext w w' := by
  have C1 := fun w => validDeal_any d hd.ok w
  rw [hd.okB] at C1
  replace C1 := Lib.hid C1
  have CI := fun w => within_any lim 0 15 w
  rw [show inB lim 0 15 = true by simp [inB]; omega] at CI
  replace CI := Lib.hid CI
  have F1 := Lib.hid (fun w => hx ▸ fits_any 15 (by omega) x w)
  have F2 := Lib.hid (fun w => hy ▸ fits_any 15 (by omega) y w)
  have F3 := Lib.hid (fun w => hq ▸ fits_any 15 (by omega) q w)
  have G1 := fun w => Far_any x y w
  generalize far16 x y = f1 at *
  replace G1 := Lib.hid G1
  have G2 := fun w => Far_any x q w
  generalize far16 x q = f2 at *
  replace G2 := Lib.hid G2
  have e1 := (fun h : d.fine => fine_d1B h y q) hd
  have C59 := Lib.hid (fun w => refDealt_any d lim hd.ok w)
  have D59 := Lib.hid (fun w => refDealt_any (d1B d y q) lim e1.ok w)
  have C53 := fun w => talked_any (ptyP d) (ptyQ d lim) x y (fineP hd).1 (fineQ hd lim).1 (fineP hd).2.1 (fineQ hd lim).2.1 (fineP hd).2.2 (fineQ hd lim).2.2 w
  have D53 := fun w => talked_any (ptyP (d1B d y q)) (ptyQ (d1B d y q) lim) x q (fineP e1).1 (fineQ e1 lim).1 (fineP e1).2.1 (fineQ e1 lim).2.1 (fineP e1).2.2 (fineQ e1 lim).2.2 w
  have hTi := say_in (ptyP d) (ptyQ d lim) x y
  have hT1i := say_in (ptyP (d1B d y q)) (ptyQ (d1B d y q) lim) x q
  obtain ⟨T, hTe⟩ : ∃ T, T = talkOf (ptyP d) (ptyQ d lim) x y := ⟨_, rfl⟩
  obtain ⟨T1, hT1e⟩ : ∃ T1, T1 = talkOf (ptyP (d1B d y q)) (ptyQ (d1B d y q) lim) x q := ⟨_, rfl⟩
  rw [← hTe] at C53 hTi
  rw [← hT1e] at D53 hT1i
  have HR := Lib.hid (show (d.rs + T.s - T1.s) % 31 = rsB d lim x y q from by rw [hTe, hT1e]; rfl)
  replace C53 := Lib.hid C53
  replace D53 := Lib.hid D53
  clear hTe hT1e
  go_enter Try.func26, Try.ntmps26
  go_wp2_with (refine wpList_load_row rfl 42 (.tmp 6) rfl (w.heap.size) rfl 42 d.cells (0, 0) _ ((Blk.new w 42 d.cells).alloc _) Try.underlying42 rfl (info42 d) ?_)
  change Calls _ _ _ ((w.alloc (.cells d.cells 42)).alloc (.cells Z78 42)) _
  refine Calls.ext (C1.out _) fun z1 => ?_
  have H12 := Lib.hid ((Blk.new' (w.alloc (.cells d.cells 42)) 42 Z78 (w.heap.size + 1) (by simp)).ext z1)
  have H6 := Lib.hid (((Blk.new w 42 d.cells).alloc (.cells Z78 42)).ext z1)
  have HE := Lib.hid ((((Ext.refl w).alloc (.cells d.cells 42)).alloc (.cells Z78 42)).ext z1)
  generalize ext ((w.alloc (.cells d.cells 42)).alloc (.cells Z78 42)) z1 = W at *
  go_wp2_with fail
  refine Calls.same (CI.out _) ?_
  go_wp2_with fail
  refine Calls.same (F1.out _) ?_
  go_wp2_with fail
  refine Calls.same (F2.out _) ?_
  go_wp2_with fail
  refine Calls.same (F3.out _) ?_
  go_wp2_with fail
  refine Calls.same (G1.out _) ?_
  go_wp2_with fail
  refine Calls.same (G2.out _) ?_
  have hpp : (p != p) = false := by simp
  go_wp2_with ((with_reducible refine pre_op (.load 42 (.tmp 6)) ?_); refine wpList_load_row rfl 42 (.tmp 6) rfl (w.heap.size) rfl 42 d.cells (0, 0) _ H6.out Try.underlying42 rfl (info42 d) ?_)
  refine Calls.ext (C59.out _) fun z2 => ?_
  have hlt := (H12.out.ext z2).lt
  have P1 := Lib.hid ((Blk.new (ext W z2) 26 Z62).alloc (.cells Z62 26))
  have P2 := Lib.hid ((Blk.new' ((ext W z2).alloc (.cells Z62 26)) 26 Z62 ((ext W z2).heap.size + 1) (by simp)).rowFar (k := (ext W z2).heap.size) (by omega) (ptyP d).cells)
  have K16 := Lib.hid ((P1.out.row (ptyP d).cells).rowFar (k := (ext W z2).heap.size + 1) (by omega) (ptyQ d lim).cells)
  have K17 := Lib.hid (P2.out.row (ptyQ d lim).cells)
  have K6 := Lib.hid (((((H6.out.ext z2).alloc (.cells Z62 26)).alloc (.cells Z62 26)).rowFar (k := (ext W z2).heap.size) (by omega) (ptyP d).cells).rowFar (k := (ext W z2).heap.size + 1) (by omega) (ptyQ d lim).cells)
  have K12 := Lib.hid (((((H12.out.ext z2).alloc (.cells Z62 26)).alloc (.cells Z62 26)).rowFar (k := (ext W z2).heap.size) (by omega) (ptyP d).cells).rowFar (k := (ext W z2).heap.size + 1) (by omega) (ptyQ d lim).cells)
  have KE := Lib.hid (((((HE.out.ext z2).alloc (.cells Z62 26)).alloc (.cells Z62 26)).row (g := (ext W z2).heap.size) (by omega) (ptyP d).cells).row (g := (ext W z2).heap.size + 1) (by omega) (ptyQ d lim).cells)
  go_wp2_with (first | ((with_reducible refine pre_op (.store 26 (.tmp 16) (.tmp 67)) ?_); refine wpList_store_row rfl 26 (.tmp 16) (.tmp 67) rfl ((ext W z2).heap.size) rfl 26 Z62 (ptyP d).cells rfl P1.out (info26 _) (z62_size _) pty_one ?_) | ((with_reducible refine pre_op (.store 26 (.tmp 17) (.tmp 68)) ?_); refine wpList_store_row rfl 26 (.tmp 17) (.tmp 68) rfl ((ext W z2).heap.size + 1) rfl 26 Z62 (ptyQ d lim).cells rfl P2.out (info26 _) (z62_size _) pty_one ?_) | ((with_reducible refine pre_op (.load 26 (.tmp 16)) ?_); refine wpList_load_row rfl 26 (.tmp 16) rfl ((ext W z2).heap.size) rfl 26 (ptyP d).cells (0, 0) _ K16.out Try.underlying26 rfl (info26 _) ?_) | ((with_reducible refine pre_op (.load 26 (.tmp 17)) ?_); refine wpList_load_row rfl 26 (.tmp 17) rfl ((ext W z2).heap.size + 1) rfl 26 (ptyQ d lim).cells (0, 0) _ K17.out Try.underlying26 rfl (info26 _) ?_))
  change Calls _ _ _ (((((ext W z2).alloc (.cells Z62 26)).alloc (.cells Z62 26)).setRow (ext W z2).heap.size (ptyP d).cells).setRow ((ext W z2).heap.size + 1) (ptyQ d lim).cells) _
  generalize ((((ext W z2).alloc (.cells Z62 26)).alloc (.cells Z62 26)).setRow (ext W z2).heap.size (ptyP d).cells).setRow ((ext W z2).heap.size + 1) (ptyQ d lim).cells = V1 at *
  clear P1 P2 H6 H12 HE
  generalize (ext W z2).heap.size = G16 at *
  refine Calls.ext (C53.out _) fun z3 => ?_
  have m17 := (K17.out.ext z3).lt
  have m12 := (K12.out.ext z3).lt
  have me := (KE.out.ext z3).size
  have S18 := Lib.hid (Blk.new (ext V1 z3) 29 Z35)
  have S19 := Lib.hid (Blk.new' (((ext V1 z3).alloc (.cells Z35 29)).setRow (ext V1 z3).heap.size T.cells) 42 Z78 ((ext V1 z3).heap.size + 1) (by simp))
  have L18 := Lib.hid (((S18.out.row T.cells).alloc (.cells Z78 42)).rowFar (k := (ext V1 z3).heap.size + 1) (by omega) d.cells)
  have L19 := Lib.hid (S19.out.row d.cells)
  have M6 := Lib.hid ((((K6.out.ext z3).alloc (.cells Z35 29)).rowFar (k := (ext V1 z3).heap.size) (by omega) T.cells))
  have L6 := Lib.hid (((((K6.out.ext z3).alloc (.cells Z35 29)).rowFar (k := (ext V1 z3).heap.size) (by omega) T.cells).alloc (.cells Z78 42)).rowFar (k := (ext V1 z3).heap.size + 1) (by omega) d.cells)
  have L12 := Lib.hid (((((K12.out.ext z3).alloc (.cells Z35 29)).rowFar (k := (ext V1 z3).heap.size) (by omega) T.cells).alloc (.cells Z78 42)).rowFar (k := (ext V1 z3).heap.size + 1) (by omega) d.cells)
  have L16 := Lib.hid (((((K16.out.ext z3).alloc (.cells Z35 29)).rowFar (k := (ext V1 z3).heap.size) (by omega) T.cells).alloc (.cells Z78 42)).rowFar (k := (ext V1 z3).heap.size + 1) (by omega) d.cells)
  have L17 := Lib.hid (((((K17.out.ext z3).alloc (.cells Z35 29)).rowFar (k := (ext V1 z3).heap.size) (by omega) T.cells).alloc (.cells Z78 42)).rowFar (k := (ext V1 z3).heap.size + 1) (by omega) d.cells)
  have LE := Lib.hid (((((KE.out.ext z3).alloc (.cells Z35 29)).row (g := (ext V1 z3).heap.size) (by omega) T.cells).alloc (.cells Z78 42)).row (g := (ext V1 z3).heap.size + 1) (by omega) d.cells)
  go_wp2_with (first | ((with_reducible refine pre_op (.store 29 (.tmp 18) (.tmp 73)) ?_); refine wpList_store_row rfl 29 (.tmp 18) (.tmp 73) rfl ((ext V1 z3).heap.size) rfl 29 Z35 T.cells rfl S18.out (info29t _) (z35t _) tlk_one ?_) | ((with_reducible refine pre_op (.load 42 (.tmp 6)) ?_); refine wpList_load_row rfl 42 (.tmp 6) rfl (w.heap.size) rfl 42 d.cells (0, 0) _ M6.out Try.underlying42 rfl (info42 d) ?_) | ((with_reducible refine pre_op (.store 42 (.tmp 19) (.tmp 74)) ?_); refine wpList_store_row rfl 42 (.tmp 19) (.tmp 74) rfl ((ext V1 z3).heap.size + 1) rfl 42 Z78 d.cells rfl S19.out (info42 d) (z78_size d) dl_one ?_))
  change Code.wp _ _ _ _ (((((ext V1 z3).alloc (.cells Z35 29)).setRow (ext V1 z3).heap.size T.cells).alloc (.cells Z78 42)).setRow ((ext V1 z3).heap.size + 1) d.cells)
  generalize ((((ext V1 z3).alloc (.cells Z35 29)).setRow (ext V1 z3).heap.size T.cells).alloc (.cells Z78 42)).setRow ((ext V1 z3).heap.size + 1) d.cells = U0 at *
  generalize (ext V1 z3).heap.size = G18 at *
  clear S18 S19 M6 K6 K12 K16 K17 KE
  have hda := hd.a
  have hdb := hd.b
  go_loopw [20] (fun i wr => ∃ k : Nat, k ≤ 15 ∧ i = .int .i64 k ∧ Blk wr w.heap.size 42 d.cells ∧ Blk wr (w.heap.size + 1) 42 Z78 ∧ Blk wr G16 26 (ptyP d).cells ∧ Blk wr (G16 + 1) 26 (ptyQ d lim).cells ∧ Blk wr G18 29 T.cells ∧ Blk wr (G18 + 1) 42 (eB d y q k).cells ∧ Ext w wr) (fun i _ => 15 - (intOf i).toNat)
  case atStart => exact ⟨0, by omega, rfl, L6.out, L12.out, L16.out, L17.out, L18.out, by rw [eB_zero]; exact L19.out, LE.out⟩
  case round =>
    obtain ⟨k, hk, rfl, b6, b12, b16, b17, b18, b19, bE⟩ := hrel
    have N6 := Lib.hid b6
    have N12 := Lib.hid b12
    have N16 := Lib.hid b16
    have N17 := Lib.hid b17
    have N18 := Lib.hid b18
    have N19 := Lib.hid b19
    have NE := Lib.hid bE
    clear b6 b12 b16 b17 b18 b19 bE L6 L12 L16 L17 L18 L19 LE
    by_cases hk15 : k < 15
    · have hk2 : (k : Int) < 15 := by omega
      have xa := hda k hk15
      have xb := hdb k hk15
      have bq := bitI_in q k
      have bxy := bitI_in y k
      have Bq := fun w => bit_any q k (by omega) w
      have Bo := fun w => bit_any y k (by omega) w
      have g1 := Lib.hid (d.at_b k hk15)
      have HS := Lib.hid (show (eB d y q (k + 1)).cells[15 + k]? = some (.int .u8 ((d.b k + bitI q k - bitI y k) % 31)) from (Dl.at_b _ k hk15).trans (by show some (Value.int .u8 (mixG (d1B d y q).b d.b (k + 1) k)) = _; rw [mixG_lt _ _ (by omega)]; rfl))
      generalize d.b k = ak at *
      generalize bitI q k = vq at *
      generalize bitI y k = vo at *
      have CR := Lib.hid (fun w => rest_any (ak + vq - vo) (by omega) w)
      obtain ⟨r, hr⟩ : ∃ r, (ak + vq - vo) % 31 = r := ⟨_, rfl⟩
      have hrb : 0 ≤ r ∧ r < 31 := by omega
      rw [hr] at CR HS
      clear hr
      replace Bq := Lib.hid Bq
      replace Bo := Lib.hid Bo
      have wa : IntKind.i64.wrap ak = ak := IntWalk.i64_in _ (by omega)
      have wp1 : IntKind.i64.wrap (ak + vq) = ak + vq := IntWalk.i64_in _ (by omega)
      have wp2 : IntKind.i64.wrap (ak + vq - vo) = ak + vq - vo := IntWalk.i64_in _ (by omega)
      have wr8 : IntKind.u8.wrap r = r := by rw [IntKind.wrap_u8]; omega
      go_wp2_with fail
      refine wp_region_rel1 (R := RT (G18 + 1) 42 ((eB d y q (k + 1)).cells)) (Vof [isV (.int .i64 (k : Nat)), isV (.int .i64 (k : Nat)), isV (.pointer (some ⟨w.heap.size, 15, none⟩)), isV (.pointer (some ⟨w.heap.size, 15 + k, none⟩)), isV (.int .u8 ak), isV (.int .i64 ak), isV (.int .u16 (uv q)), isV (.int .i64 (k : Nat)), isV (.int .i64 vq), isV (.int .i64 (ak + vq)), isV (.int .u16 (uv y)), isV (.int .i64 (k : Nat)), isV (.int .i64 vo), isV (.int .i64 (ak + vq - vo)), isV (.int .i64 r), isV (.int .u8 r), isV (.pointer (some ⟨G18 + 1, 15, none⟩)), isV (.pointer (some ⟨G18 + 1, 15 + k, none⟩)), isS (G18 + 1) 42 (eB d y q (k + 1)).cells (15 + k) 1]) (by kernel_rfl) (by kernel_rfl) RT.refl RT.trans (Vof_monoR (by simp [isV_monoR, isS_mono])) ?op ?fin
      case op =>
        intro i o ho a V2 _ _ hfrm hE0 hdep
        have hE : RT (G18 + 1) 42 ((eB d y q (k + 1)).cells) wr V2 := RT.trans _ _ _ (RT.of_ext ((Ext.refl wr).drew)) hE0
        match i, ho with
        | 0, ho =>
          injection ho with ho
          subst ho
          have e1 : a.tmps[20]?.getD undef = .int .i64 (k : Nat) := slot_of (hfrm 20 (frm_of 20 (by kernel_rfl)))
          exact owes_val rfl (by simp [execOp, go_sem, e1]) rfl
        | 1, ho =>
          injection ho with ho
          subst ho
          have e1 : a.tmps[20]?.getD undef = .int .i64 (k : Nat) := slot_of (hfrm 20 (frm_of 20 (by kernel_rfl)))
          exact owes_val rfl (by simp [execOp, go_sem, e1]) rfl
        | 2, ho =>
          injection ho with ho
          subst ho
          have e1 : a.tmps[6]?.getD undef = .pointer (some ⟨w.heap.size, 0, none⟩) := slot_of (hfrm 6 (frm_of 6 (by kernel_rfl)))
          exact owes_val rfl (by simp [execOp, go_sem, e1]) rfl
        | 3, ho =>
          injection ho with ho
          subst ho
          have e1 : a.tmps[122]?.getD undef = .pointer (some ⟨w.heap.size, 15, none⟩) := slot_of (hdep ⟨2, .data⟩ (by simp) (by kernel_rfl))
          have e2 : a.tmps[121]?.getD undef = .int .i64 (k : Nat) := slot_of (hdep ⟨1, .data⟩ (by simp) (by kernel_rfl))
          exact owes_val rfl (by simp [execOp, go_sem, e1, e2, hk2]) rfl
        | 4, ho =>
          injection ho with ho
          subst ho
          have e1 : a.tmps[123]?.getD undef = .pointer (some ⟨w.heap.size, 15 + k, none⟩) := slot_of (hdep ⟨3, .data⟩ (by simp) (by kernel_rfl))
          have c1 : V2.cell? ⟨w.heap.size, 15 + k, none⟩ = some (.int .u8 ak) := ((hE.blk N6.out (by omega)).cell (15 + k)).trans g1.out
          exact owes_val rfl (by simp [execOp, go_sem, e1, c1]) rfl
        | 5, ho =>
          injection ho with ho
          subst ho
          have e1 : a.tmps[124]?.getD undef = .int .u8 ak := slot_of (hdep ⟨4, .data⟩ (by simp) (by kernel_rfl))
          exact owes_val rfl (by simp [execOp, go_sem, e1, wa]) rfl
        | 6, ho =>
          injection ho with ho
          subst ho
          have e1 : a.tmps[15]?.getD undef = .int .u16 (uv q) := slot_of (hfrm 15 (frm_of 15 (by kernel_rfl)))
          exact owes_val rfl (by simp [execOp, go_sem, e1]) rfl
        | 7, ho =>
          injection ho with ho
          subst ho
          have e1 : a.tmps[20]?.getD undef = .int .i64 (k : Nat) := slot_of (hfrm 20 (frm_of 20 (by kernel_rfl)))
          exact owes_val rfl (by simp [execOp, go_sem, e1]) rfl
        | 8, ho =>
          injection ho with ho
          subst ho
          have e1 : a.tmps[126]?.getD undef = .int .u16 (uv q) := slot_of (hdep ⟨6, .data⟩ (by simp) (by kernel_rfl))
          have e2 : a.tmps[127]?.getD undef = .int .i64 (k : Nat) := slot_of (hdep ⟨7, .data⟩ (by simp) (by kernel_rfl))
          exact owes_call rfl 67 [.tmp 126, .tmp 127] #[27, 3] rfl (by kernel_rfl) [.int .u16 (uv q), .int .i64 (k : Nat)] (by simp [Act.eval, e1, e2]) ((Bq.out _).mono (fun _ _ h => ⟨h.1, h.2 ▸ Ext.refl _⟩)) (fun _ => rfl)
        | 9, ho =>
          injection ho with ho
          subst ho
          have e1 : a.tmps[125]?.getD undef = .int .i64 ak := slot_of (hdep ⟨5, .data⟩ (by simp) (by kernel_rfl))
          have e2 : a.tmps[128]?.getD undef = .int .i64 vq := slot_of (hdep ⟨8, .data⟩ (by simp) (by kernel_rfl))
          exact owes_val rfl (by simp [execOp, go_sem, e1, e2, wp1]) rfl
        | 10, ho =>
          injection ho with ho
          subst ho
          have e1 : a.tmps[3]?.getD undef = .int .u16 (uv y) := slot_of (hfrm 3 (frm_of 3 (by kernel_rfl)))
          exact owes_val rfl (by simp [execOp, go_sem, e1]) rfl
        | 11, ho =>
          injection ho with ho
          subst ho
          have e1 : a.tmps[20]?.getD undef = .int .i64 (k : Nat) := slot_of (hfrm 20 (frm_of 20 (by kernel_rfl)))
          exact owes_val rfl (by simp [execOp, go_sem, e1]) rfl
        | 12, ho =>
          injection ho with ho
          subst ho
          have e1 : a.tmps[130]?.getD undef = .int .u16 (uv y) := slot_of (hdep ⟨10, .data⟩ (by simp) (by kernel_rfl))
          have e2 : a.tmps[131]?.getD undef = .int .i64 (k : Nat) := slot_of (hdep ⟨11, .data⟩ (by simp) (by kernel_rfl))
          exact owes_call rfl 67 [.tmp 130, .tmp 131] #[27, 3] rfl (by kernel_rfl) [.int .u16 (uv y), .int .i64 (k : Nat)] (by simp [Act.eval, e1, e2]) ((Bo.out _).mono (fun _ _ h => ⟨h.1, h.2 ▸ Ext.refl _⟩)) (fun _ => rfl)
        | 13, ho =>
          injection ho with ho
          subst ho
          have e1 : a.tmps[129]?.getD undef = .int .i64 (ak + vq) := slot_of (hdep ⟨9, .data⟩ (by simp) (by kernel_rfl))
          have e2 : a.tmps[132]?.getD undef = .int .i64 vo := slot_of (hdep ⟨12, .data⟩ (by simp) (by kernel_rfl))
          exact owes_val rfl (by simp [execOp, go_sem, e1, e2, wp2]) rfl
        | 14, ho =>
          injection ho with ho
          subst ho
          have e1 : a.tmps[133]?.getD undef = .int .i64 (ak + vq - vo) := slot_of (hdep ⟨13, .data⟩ (by simp) (by kernel_rfl))
          exact owes_call rfl 66 [.tmp 133] #[3] rfl (by kernel_rfl) [.int .i64 (ak + vq - vo)] (by simp [Act.eval, e1]) ((CR.out _).mono (fun _ _ h => ⟨h.1, h.2 ▸ Ext.refl _⟩)) (fun _ => rfl)
        | 15, ho =>
          injection ho with ho
          subst ho
          have e1 : a.tmps[134]?.getD undef = .int .i64 r := slot_of (hdep ⟨14, .data⟩ (by simp) (by kernel_rfl))
          exact owes_val rfl (by simp [execOp, go_sem, e1, wr8]) rfl
        | 16, ho =>
          injection ho with ho
          subst ho
          have e1 : a.tmps[19]?.getD undef = .pointer (some ⟨G18 + 1, 0, none⟩) := slot_of (hfrm 19 (frm_of 19 (by kernel_rfl)))
          exact owes_val rfl (by simp [execOp, go_sem, e1]) rfl
        | 17, ho =>
          injection ho with ho
          subst ho
          have e1 : a.tmps[136]?.getD undef = .pointer (some ⟨G18 + 1, 15, none⟩) := slot_of (hdep ⟨16, .data⟩ (by simp) (by kernel_rfl))
          have e2 : a.tmps[120]?.getD undef = .int .i64 (k : Nat) := slot_of (hdep ⟨0, .data⟩ (by simp) (by kernel_rfl))
          exact owes_val rfl (by simp [execOp, go_sem, e1, e2, hk2]) rfl
        | 18, ho =>
          injection ho with ho
          subst ho
          have e1 : a.tmps[137]?.getD undef = .pointer (some ⟨G18 + 1, 15 + k, none⟩) := slot_of (hdep ⟨17, .data⟩ (by simp) (by kernel_rfl))
          have e2 : a.tmps[135]?.getD undef = .int .u8 r := slot_of (hdep ⟨15, .data⟩ (by simp) (by kernel_rfl))
          obtain ⟨cur0, kk1, kk2, _⟩ := hE.part _ N19.out (by rw [Dl.size, Dl.size])
          refine owes_store1 rfl (15 + k) (.int .u8 r) (fun cur hB hs => ?_) ⟨cur0, kk1, kk2⟩ (HS.out) (fun _ h => h)
          have hlt : 15 + k < cur.size := by rw [hs, Dl.size]; omega
          have c1 : V2.cell? ⟨G18 + 1, 15 + k, none⟩ = some (cur[15 + k]'hlt) := (hB.cell (15 + k)).trans (Array.getElem?_eq_getElem hlt)
          have c2 := hB.frozen (15 + k)
          simp [execOp, go_sem, e1, e2, c1, c2]
        | k + 19, ho => exact absurd (List.getElem?_eq_some_iff.1 ho).1 (by simp)
      case fin =>
        intro vsV4 V4 hE0 hvs
        have hE : RT (G18 + 1) 42 (eB d y q (k + 1)).cells wr V4 := RT.trans _ _ _ (RT.of_ext ((Ext.refl wr).drew)) hE0
        have s1 := hvs 18 (by simp)
        have f9 := full_gen hE N19.out (by rw [Dl.size, Dl.size]) (fun j => by
          by_cases h1 : j = 15 + k
          · exact .inr ⟨15 + k, 1, undef, s1, by omega, by omega⟩
          · exact .inl (eB_ne d y q k j h1))
        have Q19 := Lib.hid f9
        have Q6 := Lib.hid (hE.blk N6.out (by omega))
        have Q12 := Lib.hid (hE.blk N12.out (by omega))
        have Q16 := Lib.hid (hE.blk N16.out (by omega))
        have Q17 := Lib.hid (hE.blk N17.out (by omega))
        have Q18 := Lib.hid (hE.blk N18.out (by omega))
        have QE := Lib.hid (hE.below NE.out (by omega))
        clear hE hE0 hvs s1 f9
        simp [putAll, Act.put]
        go_wp2_with fail
        exact ⟨⟨k + 1, by omega, by go_num, Q6.out, Q12.out, Q16.out, Q17.out, Q18.out, Q19.out, QE.out⟩, by simp [intOf]; omega⟩
    · obtain rfl : k = 15 := by omega
      have n19 := N19.out
      rw [eB_end] at n19
      replace N19 := Lib.hid n19
      clear n19 hda hdb
      go_wp2_with ((with_reducible refine pre_op (.load 42 (.tmp 19)) ?_); refine wpList_load_row rfl 42 (.tmp 19) rfl (G18 + 1) rfl 42 (d1B d y q).cells (0, 0) _ N19.out Try.underlying42 rfl (info42 _) ?_)
      refine Calls.ext (D59.out _) fun z4 => ?_
      have m3 := (N19.out.ext z4).lt
      have S16 := Lib.hid ((N16.out.ext z4).alloc (.cells Z62 26))
      have S21 := Lib.hid ((Blk.new (ext wr z4) 26 Z62).rowFar (k := G16) (by omega) (ptyP (d1B d y q)).cells)
      have Q16 := Lib.hid ((S16.out.row (ptyP (d1B d y q)).cells).rowFar (k := (ext wr z4).heap.size) (by omega) (ptyQ (d1B d y q) lim).cells)
      have Q21 := Lib.hid (S21.out.row (ptyQ (d1B d y q) lim).cells)
      have Q6 := Lib.hid (((N6.out.ext z4).alloc (.cells Z62 26)).rowFar (k := G16) (by omega) (ptyP (d1B d y q)).cells |>.rowFar (k := (ext wr z4).heap.size) (by omega) (ptyQ (d1B d y q) lim).cells)
      have Q12 := Lib.hid (((N12.out.ext z4).alloc (.cells Z62 26)).rowFar (k := G16) (by omega) (ptyP (d1B d y q)).cells |>.rowFar (k := (ext wr z4).heap.size) (by omega) (ptyQ (d1B d y q) lim).cells)
      have Q17 := Lib.hid (((N17.out.ext z4).alloc (.cells Z62 26)).rowFar (k := G16) (by omega) (ptyP (d1B d y q)).cells |>.rowFar (k := (ext wr z4).heap.size) (by omega) (ptyQ (d1B d y q) lim).cells)
      have Q18 := Lib.hid (((N18.out.ext z4).alloc (.cells Z62 26)).rowFar (k := G16) (by omega) (ptyP (d1B d y q)).cells |>.rowFar (k := (ext wr z4).heap.size) (by omega) (ptyQ (d1B d y q) lim).cells)
      have Q19 := Lib.hid (((N19.out.ext z4).alloc (.cells Z62 26)).rowFar (k := G16) (by omega) (ptyP (d1B d y q)).cells |>.rowFar (k := (ext wr z4).heap.size) (by omega) (ptyQ (d1B d y q) lim).cells)
      have QE := Lib.hid (((NE.out.ext z4).alloc (.cells Z62 26)).row (g := G16) (by omega) (ptyP (d1B d y q)).cells |>.row (g := (ext wr z4).heap.size) (by omega) (ptyQ (d1B d y q) lim).cells)
      go_wp2_with (first | ((with_reducible refine pre_op (.store 26 (.tmp 16) (.tmp 142)) ?_); refine wpList_store_row rfl 26 (.tmp 16) (.tmp 142) rfl (G16) rfl 26 (ptyP d).cells (ptyP (d1B d y q)).cells rfl S16.out (info26 _) ((Pty.size _).trans (Pty.size _).symm) pty_one ?_) | ((with_reducible refine pre_op (.store 26 (.tmp 21) (.tmp 143)) ?_); refine wpList_store_row rfl 26 (.tmp 21) (.tmp 143) rfl ((ext wr z4).heap.size) rfl 26 Z62 (ptyQ (d1B d y q) lim).cells rfl S21.out (info26 _) (z62_size _) pty_one ?_) | ((with_reducible refine pre_op (.load 26 (.tmp 16)) ?_); refine wpList_load_row rfl 26 (.tmp 16) rfl (G16) rfl 26 (ptyP (d1B d y q)).cells (0, 0) _ Q16.out Try.underlying26 rfl (info26 _) ?_) | ((with_reducible refine pre_op (.load 26 (.tmp 21)) ?_); refine wpList_load_row rfl 26 (.tmp 21) rfl ((ext wr z4).heap.size) rfl 26 (ptyQ (d1B d y q) lim).cells (0, 0) _ Q21.out Try.underlying26 rfl (info26 _) ?_))
      change Calls _ _ _ ((((ext wr z4).alloc (.cells Z62 26)).setRow G16 (ptyP (d1B d y q)).cells).setRow (ext wr z4).heap.size (ptyQ (d1B d y q) lim).cells) _
      generalize (((ext wr z4).alloc (.cells Z62 26)).setRow G16 (ptyP (d1B d y q)).cells).setRow (ext wr z4).heap.size (ptyQ (d1B d y q) lim).cells = U1 at *
      generalize (ext wr z4).heap.size = G21 at *
      clear S16 S21 N6 N12 N16 N17 N18 N19 NE
      refine Calls.ext (D53.out _) fun z5 => ?_
      have m4 := (Q21.out.ext z5).lt
      have S22 := Lib.hid (Blk.new (ext U1 z5) 29 Z35)
      have R22 := Lib.hid (S22.out.row T1.cells)
      have R6 := Lib.hid (((Q6.out.ext z5).alloc (.cells Z35 29)).rowFar (k := (ext U1 z5).heap.size) (by omega) T1.cells)
      have R12 := Lib.hid (((Q12.out.ext z5).alloc (.cells Z35 29)).rowFar (k := (ext U1 z5).heap.size) (by omega) T1.cells)
      have R17 := Lib.hid (((Q17.out.ext z5).alloc (.cells Z35 29)).rowFar (k := (ext U1 z5).heap.size) (by omega) T1.cells)
      have R18 := Lib.hid (((Q18.out.ext z5).alloc (.cells Z35 29)).rowFar (k := (ext U1 z5).heap.size) (by omega) T1.cells)
      have R19 := Lib.hid (((Q19.out.ext z5).alloc (.cells Z35 29)).rowFar (k := (ext U1 z5).heap.size) (by omega) T1.cells)
      have RE := Lib.hid (((QE.out.ext z5).alloc (.cells Z35 29)).row (g := (ext U1 z5).heap.size) (by omega) T1.cells)
      have t18 := Lib.hid (((R18.out).cell 31).trans (Tlk.at_x T 1))
      have t22 := Lib.hid (((R22.out).cell 31).trans (Tlk.at_x T1 1))
      have hrs := hd.rs
      have hTs := hTi.2
      have hT1s := hT1i.2
      have w1 : IntKind.i64.wrap d.rs = d.rs := IntWalk.i64_in _ (by omega)
      have w2 : IntKind.i64.wrap T.s = T.s := IntWalk.i64_in _ (by omega)
      have w3 : IntKind.i64.wrap T1.s = T1.s := IntWalk.i64_in _ (by omega)
      have CR := fun w => rest_any (d.rs + T.s - T1.s) (by omega) w
      rw [HR.out] at CR
      replace CR := Lib.hid CR
      have hnb := rsB_in d lim x y q
      have w4 : IntKind.u8.wrap (rsB d lim x y q) = (rsB d lim x y q) := by rw [IntKind.wrap_u8]; omega
      go_wp2_with (first | ((with_reducible refine pre_op (.store 29 (.tmp 22) (.tmp 148)) ?_); refine wpList_store_row rfl 29 (.tmp 22) (.tmp 148) rfl ((ext U1 z5).heap.size) rfl 29 Z35 T1.cells rfl S22.out (info29t _) (z35t _) tlk_one ?_) | ((with_reducible refine pre_op (.load 5 (.tmp 175)) ?_); refine wpList_load_one rfl 5 (.tmp 175) rfl agg5 ⟨w.heap.size, 46, none⟩ rfl (.int .u8 d.rs) (cut_rs R6.out) ?_) | ((with_reducible refine pre_op (.load 5 (.tmp 178)) ?_); refine wpList_load_one rfl 5 (.tmp 178) rfl agg5 ⟨G18, 31, none⟩ rfl (.int .u8 T.s) (t18.out) ?_) | ((with_reducible refine pre_op (.load 5 (.tmp 182)) ?_); refine wpList_load_one rfl 5 (.tmp 182) rfl agg5 ⟨(ext U1 z5).heap.size, 31, none⟩ rfl (.int .u8 T1.s) (t22.out) ?_))
      change Calls _ _ _ (((ext U1 z5).alloc (.cells Z35 29)).setRow (ext U1 z5).heap.size T1.cells) _
      generalize ((ext U1 z5).alloc (.cells Z35 29)).setRow (ext U1 z5).heap.size T1.cells = U2 at *
      clear S22 t18 t22
      refine Calls.same (CR.out _) ?_
      have t19 : U2.cell? ⟨G18 + 1, 46, none⟩ = some (.int .u8 d.rs) := cut_rs (d := (d1B d y q)) R19.out
      have tf := R19.out.frozen
      have to := Old.mk R19.out.lt
      have x19 := dl_ext (d := (Dl.mk d.a (d1B d y q).b d.u d.rc (rsB d lim x y q) d.t)) (R19.out.set_ 46 (.int .u8 (rsB d lim x y q))) (fun j => by
        rw [Array.getElem?_setIfInBounds]
        split
        · rename_i hj
          subst hj
          rw [if_pos (by rw [Dl.size]; omega), Dl.at_rs]
        · rename_i hj
          exact dl_eq j (.inr rfl) (.inr (.inr rfl)) (.inr (.inr rfl)) (.inr rfl) (.inl (fun h => hj h.symm)) (.inr rfl))
      have X19 := Lib.hid x19
      clear x19
      have nT : ∀ b n, b < G18 + 1 → b ≠ (⟨G18 + 1, n, none⟩ : Addr).block := fun b n hb => by show b ≠ G18 + 1; omega
      have X6 := Lib.hid (R6.out.far (nT w.heap.size 46 (by omega)) (.int .u8 (rsB d lim x y q)))
      have X12 := Lib.hid (R12.out.far (nT (w.heap.size + 1) 46 (by omega)) (.int .u8 (rsB d lim x y q)))
      have X17 := Lib.hid (R17.out.far (nT (G16 + 1) 46 (by omega)) (.int .u8 (rsB d lim x y q)))
      have XE := Lib.hid (RE.out.setCell (p := ⟨G18 + 1, 46, none⟩) (by show w.heap.size ≤ G18 + 1; omega) (.int .u8 (rsB d lim x y q)))
      go_wp2_with (first | ((with_reducible refine pre_op (.load 42 (.tmp 19)) ?_); refine wpList_load_row rfl 42 (.tmp 19) rfl (G18 + 1) rfl 42 (Dl.mk d.a (d1B d y q).b d.u d.rc (rsB d lim x y q) d.t).cells (0, 0) _ X19.out Try.underlying42 rfl (info42 _) ?_) | ((with_reducible refine pre_op (.store 42 (.tmp 12) (.tmp 189)) ?_); refine wpList_store_row rfl 42 (.tmp 12) (.tmp 189) rfl (w.heap.size + 1) rfl 42 Z78 (Dl.mk d.a (d1B d y q).b d.u d.rc (rsB d lim x y q) d.t).cells rfl X12.out (info42 _) (z78_size _) dl_one ?_))
      refine bodyPost_ret (results_cell_tmp rfl _ _ (w.heap.size + 1) 42 (Dl.mk d.a (d1B d y q).b d.u d.rc (rsB d lim x y q) d.t).cells (0, 0) _ rfl (X12.out.row (Dl.mk d.a (d1B d y q).b d.u d.rc (rsB d lim x y q) d.t).cells) Try.underlying42 rfl (info42 _)) rfl ⟨ret_of (by rw [outB_eq]; rfl), XE.out.row (by omega) _⟩
end Go.Proofs.Ytfdcapblgdlkaaa
