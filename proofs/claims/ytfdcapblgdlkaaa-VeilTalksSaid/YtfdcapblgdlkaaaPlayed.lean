/- The talk of the parties of a deal. -/
import Derived.Test.YtfdcapblgdlkaaaRelH
import Derived.Test.YtfdcapblgdlkaaaAlive
namespace Go.Proofs.Ytfdcapblgdlkaaa
open Go.RowKit

theorem numB_of {f : Nat → Int} (h : ∀ i, i < 15 → f i < 31) : numB f = true := List.all_eq_true.2 fun i hi => decide_eq_true (h i (List.mem_range.1 hi))
theorem tabB_of {f : Nat → Int} (h : ∀ i, i < 31 → f i < 2147483648) : tabB f = true := List.all_eq_true.2 fun i hi => decide_eq_true (h i (List.mem_range.1 hi))
structure Dl.fine (d : Dl) : Prop where
  a : ∀ i, i < 15 → 0 ≤ d.a i ∧ d.a i < 31
  b : ∀ i, i < 15 → 0 ≤ d.b i ∧ d.b i < 31
  u : ∀ i, i < 15 → 0 ≤ d.u i ∧ d.u i < 31
  rc : 0 ≤ d.rc ∧ d.rc < 31
  rs : 0 ≤ d.rs ∧ d.rs < 31
  t : ∀ i, i < 31 → 0 ≤ d.t i ∧ d.t i < 2147483648
theorem fine_of {d : Dl} (hd : d.ok) (hk : d.okB = true) : d.fine := by
  unfold Dl.okB at hk
  simp only [Bool.and_eq_true, decide_eq_true_eq] at hk
  obtain ⟨⟨⟨⟨⟨h1, h2⟩, h3⟩, h4⟩, h5⟩, h6⟩ := hk
  exact ⟨fun i hi => ⟨(hd.a i hi).1, num_at h1 i hi⟩, fun i hi => ⟨(hd.b i hi).1, num_at h2 i hi⟩, fun i hi => ⟨(hd.u i hi).1, num_at h3 i hi⟩, ⟨hd.rc.1, h4⟩, ⟨hd.rs.1, h5⟩, fun i hi => ⟨(hd.t i hi).1, tab_at h6 i hi⟩⟩
theorem Dl.fine.okB {d : Dl} (h : d.fine) : d.okB = true := by
  unfold Dl.okB
  rw [numB_of fun i hi => (h.a i hi).2, numB_of fun i hi => (h.b i hi).2, numB_of fun i hi => (h.u i hi).2, decide_eq_true h.rc.2, decide_eq_true h.rs.2, tabB_of fun i hi => (h.t i hi).2]
  rfl
theorem Dl.fine.ok {d : Dl} (h : d.fine) : d.ok :=
  ⟨fun i hi => by have := h.a i hi; omega, fun i hi => by have := h.b i hi; omega, fun i hi => by have := h.u i hi; omega, by have := h.rc; omega, by have := h.rs; omega, fun i hi => by have := h.t i hi; omega⟩
/-- 31 bits are left 31 bits -/
theorem tabO_fine {t : Nat → Int} (rc rs lim : Int) (i : Nat) (h : 0 ≤ t i ∧ t i < 2147483648) : 0 ≤ tabO t rc rs lim i ∧ tabO t rc rs lim i < 2147483648 := by
  have h1 := tabO_in t rc rs lim i
  refine ⟨h1.1, ?_⟩
  have hb : (bt t i).getLsbD 31 = false := by
    have e : vv (bt t i) = t i := vv_ofInt _ (by omega)
    have : (bt t i).toNat < 2 ^ 31 := by have : ((bt t i).toNat : Int) = t i := e; omega
    exact BitVec.getLsbD_eq_getMsbD .. ▸ by
      rw [← BitVec.getLsbD_eq_getMsbD]
      exact Nat.testBit_lt_two_pow this
  have hr : (rowN (bt t i) (nearB rc rs lim i) 31).getLsbD 31 = false := by
    rw [rowN_bit _ _ _ _ (by omega), hb]; rfl
  show vv (rowN (bt t i) (nearB rc rs lim i) 31) < 2147483648
  generalize rowN (bt t i) (nearB rc rs lim i) 31 = r at *
  have : r.toNat < 2 ^ 31 := by
    rcases Nat.lt_or_ge r.toNat (2 ^ 31) with h2 | h2
    · exact h2
    · exfalso
      have h3 : r.toNat < 2 ^ 32 := r.isLt
      have h4 : r.toNat.testBit 31 = true := by
        rw [Nat.testBit_eq_decide_div_mod_eq]
        have : r.toNat / 2 ^ 31 = 1 := by omega
        rw [this]; rfl
      have h5 : r.getLsbD 31 = r.toNat.testBit 31 := rfl
      rw [h5, h4] at hr; cases hr
  unfold vv
  omega
theorem ptyP_okB {d : Dl} (h : d.fine) : (ptyP d).okB = true := by
  unfold Pty.okB
  rw [numB_of (f := (ptyP d).m) fun i hi => (h.a i hi).2, numB_of (f := (ptyP d).s) fun i hi => (h.u i hi).2, tabB_of (f := (ptyP d).t) fun i hi => (h.t i hi).2, show decide ((ptyP d).sh < 31) = true from decide_eq_true h.rc.2]
  rfl
theorem ptyQ_okB {d : Dl} (h : d.fine) (lim : Int) : (ptyQ d lim).okB = true := by
  unfold Pty.okB
  rw [numB_of (f := (ptyQ d lim).m) fun i hi => (h.b i hi).2, numB_of (f := (ptyQ d lim).s) fun i _ => (by show (d.a i * d.b i - d.u i) % 31 < 31; omega), tabB_of (f := (ptyQ d lim).t) fun i hi => (tabO_fine _ _ _ i (h.t i hi)).2, show decide ((ptyQ d lim).sh < 31) = true from decide_eq_true h.rs.2]
  rfl
theorem results_cell4 {P : Program} {fn : Func} {p q s r : Tmp} {t1 t2 t3 : TypeId} (h : fn.results = #[.cell p t1, .cell q t2, .cell s t3, .tmp r]) (tmps : Array Value) (w : World) (g1 g2 g3 : Nat) (u1 u2 u3 : TypeId) (c1 c2 c3 : Array Value) (d1 d2 d3 : TypeDesc)
    (hp : tmps.getD p undef = .pointer (some ⟨g1, 0, none⟩)) (hq : tmps.getD q undef = .pointer (some ⟨g2, 0, none⟩)) (hs : tmps.getD s undef = .pointer (some ⟨g3, 0, none⟩)) (hg1 : Blk w g1 u1 c1) (hg2 : Blk w g2 u2 c2) (hg3 : Blk w g3 u3 c3)
    (hu1 : P.underlying t1 = some d1) (hd1 : (match d1 with | .struct _ | .array _ _ => true | _ => false) = true) (hi1 : (P.info? t1).map (·.size) = some c1.size)
    (hu2 : P.underlying t2 = some d2) (hd2 : (match d2 with | .struct _ | .array _ _ => true | _ => false) = true) (hi2 : (P.info? t2).map (·.size) = some c2.size)
    (hu3 : P.underlying t3 = some d3) (hd3 : (match d3 with | .struct _ | .array _ _ => true | _ => false) = true) (hi3 : (P.info? t3).map (·.size) = some c3.size) :
    (results fn tmps).run P w = .ok (.tuple #[.agg c1, .agg c2, .agg c3, tmps.getD r undef]) w := by
  have hp' : tmps[p]?.getD undef = .pointer (some ⟨g1, 0, none⟩) := by simpa using hp
  have hq' : tmps[q]?.getD undef = .pointer (some ⟨g2, 0, none⟩) := by simpa using hq
  have hs' : tmps[s]?.getD undef = .pointer (some ⟨g3, 0, none⟩) := by simpa using hs
  simp [results, h, hp', hq', hs', asAddr, run_loadVar_row w g1 u1 t1 c1 (0, 0) d1 hg1 hu1 hd1 hi1, run_loadVar_row w g2 u2 t2 c2 (0, 0) d2 hg2 hu2 hd2 hi2, run_loadVar_row w g3 u3 t3 c3 (0, 0) d3 hg3 hu3 hd3 hi3]
set_option maxRecDepth 100000 in
set_option maxHeartbeats 4000000 in
theorem played_any (d : Dl) (lim : Int) (x y : BitVec 16) (hd : d.fine) (hl : 0 ≤ lim ∧ lim ≤ 15) (hx : fitB 15 x = true) (hy : fitB 15 y = true) (w : World) : Calls Try.prog 48 #[d.val, .int .i64 lim, .int .u16 (uv x), .int .u16 (uv y)] w fun e w' => e = .returned (.tuple #[(ptyP d).val, (ptyQ d lim).val, .agg (talkOf (ptyP d) (ptyQ d lim) x y).cells, .bool true]) ∧ Ext w w' := by
  obtain ⟨p1, p2, p3⟩ := par_0 hd.okB hl
  have C1 := fun w => Parties_any d lim hd.ok w
  rw [p1, p2, p3] at C1
  have h0 := talkErr_0 (ptyP_okB hd) (ptyQ_okB hd lim) hx hy
  have C2 := fun w => Play_any (ptyP d) (ptyQ d lim) x y (ptyP_ok hd.ok) (ptyQ_ok hd.ok lim) w
  rw [playC_0 h0, h0] at C2
  have C1 := Lib.hid C1
  have C2 := Lib.hid C2
  clear p1 p2 p3 h0 hx hy hl hd
  generalize talkOf (ptyP d) (ptyQ d lim) x y = T at *
  go_enter Try.func48, Try.ntmps48
  go_wp2_with (refine wpList_load_row rfl 42 (.tmp 4) rfl (w.heap.size) rfl 42 d.cells (0, 0) _ ((((Blk.new w 42 d.cells).alloc _).alloc _).alloc _) Try.underlying42 rfl (info42 d) ?_)
  change Calls _ _ _ ((((w.alloc (.cells d.cells 42)).alloc (.cells Z62 26)).alloc (.cells Z62 26)).alloc (.cells Z35 29)) _
  refine Calls.ext (C1.out _) fun z1 => ?_
  have H1 := Lib.hid ((((Blk.new' (w.alloc (.cells d.cells 42)) 26 Z62 (w.heap.size + 1) (by simp)).alloc (.cells Z62 26)).alloc (.cells Z35 29)).ext z1)
  have H2 := Lib.hid (((Blk.new' ((w.alloc (.cells d.cells 42)).alloc (.cells Z62 26)) 26 Z62 (w.heap.size + 1 + 1) (by simp)).alloc (.cells Z35 29)).ext z1)
  have H3 := Lib.hid ((Blk.new' (((w.alloc (.cells d.cells 42)).alloc (.cells Z62 26)).alloc (.cells Z62 26)) 29 Z35 (w.heap.size + 1 + 1 + 1) (by simp)).ext z1)
  have HE := Lib.hid ((((((Ext.refl w).alloc (.cells d.cells 42)).alloc (.cells Z62 26)).alloc (.cells Z62 26)).alloc (.cells Z35 29)).ext z1)
  generalize ext ((((w.alloc (.cells d.cells 42)).alloc (.cells Z62 26)).alloc (.cells Z62 26)).alloc (.cells Z35 29)) z1 = W at *
  have hlt := H3.out.lt
  have P1 := Lib.hid ((Blk.new W 26 Z62).alloc (.cells Z62 26))
  have P2 := Lib.hid ((Blk.new' (W.alloc (.cells Z62 26)) 26 Z62 (W.heap.size + 1) (by simp)).rowFar (k := W.heap.size) (by omega) (ptyP d).cells)
  have K1 := Lib.hid ((P1.out.row (ptyP d).cells).rowFar (k := W.heap.size + 1) (by omega) (ptyQ d lim).cells)
  have K2 := Lib.hid (P2.out.row (ptyQ d lim).cells)
  have J1 := Lib.hid ((((H1.out.alloc (.cells Z62 26)).alloc (.cells Z62 26)).rowFar (k := W.heap.size) (by omega) (ptyP d).cells).rowFar (k := W.heap.size + 1) (by omega) (ptyQ d lim).cells)
  have J2 := Lib.hid ((((H2.out.alloc (.cells Z62 26)).alloc (.cells Z62 26)).rowFar (k := W.heap.size) (by omega) (ptyP d).cells).rowFar (k := W.heap.size + 1) (by omega) (ptyQ d lim).cells)
  have J3 := Lib.hid ((((H3.out.alloc (.cells Z62 26)).alloc (.cells Z62 26)).rowFar (k := W.heap.size) (by omega) (ptyP d).cells).rowFar (k := W.heap.size + 1) (by omega) (ptyQ d lim).cells)
  have JE := Lib.hid ((((HE.out.alloc (.cells Z62 26)).alloc (.cells Z62 26)).row (g := W.heap.size) (by omega) (ptyP d).cells).row (g := W.heap.size + 1) (by omega) (ptyQ d lim).cells)
  go_wp2_with (first | (refine wpList_store_row rfl 26 (.tmp 12) (.tmp 21) rfl W.heap.size rfl 26 Z62 (ptyP d).cells rfl P1.out (info26 _) (z62_size _) pty_one ?_) | (refine wpList_store_row rfl 26 (.tmp 13) (.tmp 22) rfl (W.heap.size + 1) rfl 26 Z62 (ptyQ d lim).cells rfl P2.out (info26 _) (z62_size _) pty_one ?_) | (refine wpList_load_row rfl 26 (.tmp 12) rfl W.heap.size rfl 26 (ptyP d).cells (0, 0) _ K1.out Try.underlying26 rfl (info26 _) ?_) | (refine wpList_load_row rfl 26 (.tmp 13) rfl (W.heap.size + 1) rfl 26 (ptyQ d lim).cells (0, 0) _ K2.out Try.underlying26 rfl (info26 _) ?_))
  change Calls _ _ _ ((((W.alloc (.cells Z62 26)).alloc (.cells Z62 26)).setRow W.heap.size (ptyP d).cells).setRow (W.heap.size + 1) (ptyQ d lim).cells) _
  generalize (((W.alloc (.cells Z62 26)).alloc (.cells Z62 26)).setRow W.heap.size (ptyP d).cells).setRow (W.heap.size + 1) (ptyQ d lim).cells = W4 at *
  generalize W.heap.size = G12 at *
  refine Calls.ext (C2.out _) fun z2 => ?_
  have m2 := (K2.out.ext z2).lt
  have S1 := Lib.hid (Blk.new (ext W4 z2) 29 Z35)
  have T15 := Lib.hid (S1.out.row T.cells)
  have Q1 := Lib.hid (((K1.out.ext z2).alloc (.cells Z35 29)).rowFar (k := (ext W4 z2).heap.size) (by omega) T.cells)
  have Q2 := Lib.hid (((K2.out.ext z2).alloc (.cells Z35 29)).rowFar (k := (ext W4 z2).heap.size) (by omega) T.cells)
  have L1 := Lib.hid (((J1.out.ext z2).alloc (.cells Z35 29)).rowFar (k := (ext W4 z2).heap.size) (by omega) T.cells)
  have L2 := Lib.hid (((J2.out.ext z2).alloc (.cells Z35 29)).rowFar (k := (ext W4 z2).heap.size) (by omega) T.cells)
  have L3 := Lib.hid (((J3.out.ext z2).alloc (.cells Z35 29)).rowFar (k := (ext W4 z2).heap.size) (by omega) T.cells)
  have LE := Lib.hid (((JE.out.ext z2).alloc (.cells Z35 29)).row (g := (ext W4 z2).heap.size) (by omega) T.cells)
  go_wp2_with (refine wpList_store_row rfl 29 (.tmp 15) (.tmp 30) rfl (ext W4 z2).heap.size rfl 29 Z35 T.cells rfl S1.out (info29t _) (z35t _) tlk_one ?_)
  change Code.wp _ _ _ _ (((ext W4 z2).alloc (.cells Z35 29)).setRow (ext W4 z2).heap.size T.cells)
  generalize ((ext W4 z2).alloc (.cells Z35 29)).setRow (ext W4 z2).heap.size T.cells = V at *
  generalize (ext W4 z2).heap.size = G15 at *
  have n12 : ∀ e ∈ [(w.heap.size + 1, 26, (ptyP d).cells), (w.heap.size + 1 + 1, 26, (ptyQ d lim).cells), (w.heap.size + 1 + 1 + 1, 29, T.cells)], G12 ≠ e.1 := by
    intro e he
    simp only [List.mem_cons, List.not_mem_nil, or_false] at he
    rcases he with rfl | rfl | rfl <;> simp only <;> omega
  have n13 : ∀ e ∈ [(w.heap.size + 1, 26, (ptyP d).cells), (w.heap.size + 1 + 1, 26, (ptyQ d lim).cells), (w.heap.size + 1 + 1 + 1, 29, T.cells)], G12 + 1 ≠ e.1 := by
    intro e he
    simp only [List.mem_cons, List.not_mem_nil, or_false] at he
    rcases he with rfl | rfl | rfl <;> simp only <;> omega
  have n15 : ∀ e ∈ [(w.heap.size + 1, 26, (ptyP d).cells), (w.heap.size + 1 + 1, 26, (ptyQ d lim).cells), (w.heap.size + 1 + 1 + 1, 29, T.cells)], G15 ≠ e.1 := by
    intro e he
    simp only [List.mem_cons, List.not_mem_nil, or_false] at he
    rcases he with rfl | rfl | rfl <;> simp only <;> omega
  have nw : ∀ e ∈ [(w.heap.size + 1, 26, (ptyP d).cells), (w.heap.size + 1 + 1, 26, (ptyQ d lim).cells), (w.heap.size + 1 + 1 + 1, 29, T.cells)], w.heap.size ≤ e.1 := by
    intro e he
    simp only [List.mem_cons, List.not_mem_nil, or_false] at he
    rcases he with rfl | rfl | rfl <;> simp only <;> omega
  clear P1 P2 K1 K2 J1 J2 J3 JE S1 m2 hlt
  have hone1 : ∀ e ∈ [(w.heap.size + 1, 26, (ptyP d).cells), (w.heap.size + 1 + 1, 26, (ptyQ d lim).cells), (w.heap.size + 1 + 1 + 1, 29, T.cells)], e.1 = w.heap.size + 1 → e = (w.heap.size + 1, 26, (ptyP d).cells) := by
    intro e he h
    simp only [List.mem_cons, List.not_mem_nil, or_false] at he
    rcases he with rfl | rfl | rfl
    all_goals first | rfl | (exfalso; simp only at h; omega)
  have hone2 : ∀ e ∈ [(w.heap.size + 1, 26, (ptyP d).cells), (w.heap.size + 1 + 1, 26, (ptyQ d lim).cells), (w.heap.size + 1 + 1 + 1, 29, T.cells)], e.1 = w.heap.size + 1 + 1 → e = (w.heap.size + 1 + 1, 26, (ptyQ d lim).cells) := by
    intro e he h
    simp only [List.mem_cons, List.not_mem_nil, or_false] at he
    rcases he with rfl | rfl | rfl
    all_goals first | rfl | (exfalso; simp only at h; omega)
  have hone3 : ∀ e ∈ [(w.heap.size + 1, 26, (ptyP d).cells), (w.heap.size + 1 + 1, 26, (ptyQ d lim).cells), (w.heap.size + 1 + 1 + 1, 29, T.cells)], e.1 = w.heap.size + 1 + 1 + 1 → e = (w.heap.size + 1 + 1 + 1, 29, T.cells) := by
    intro e he h
    simp only [List.mem_cons, List.not_mem_nil, or_false] at he
    rcases he with rfl | rfl | rfl
    all_goals first | rfl | (exfalso; simp only at h; omega)
  refine wp_region_relH (R := RL [(w.heap.size + 1, 26, (ptyP d).cells), (w.heap.size + 1 + 1, 26, (ptyQ d lim).cells), (w.heap.size + 1 + 1 + 1, 29, T.cells)]) (Vpr [.v (ptyP d).val, .v (ptyQ d lim).val, .v (.agg T.cells), .v (.int .i64 0), .v (.bool true), .v (.bool true), .v (.int .i64 0), .v (.bool true), .v (.bool true), .p (isW (w.heap.size + 1) 26 (ptyP d).cells), .p (isW (w.heap.size + 1 + 1) 26 (ptyQ d lim).cells), .p (isW (w.heap.size + 1 + 1 + 1) 29 T.cells), .v (.bool true)]) (by kernel_rfl) (by kernel_rfl) (Vpr_all rfl) RL.refl RL.trans (Vpr_monoR (by
    intro q hq
    simp only [List.mem_cons, List.not_mem_nil, or_false, reduceCtorEq, false_or, Pr.p.injEq] at hq
    rcases hq with rfl | rfl | rfl <;> exact isW_RL (by simp))) ?op ?fin
  case op =>
    intro i o ho a V2 _ _ hfrm hE0 hdep
    have hE : RL [(w.heap.size + 1, 26, (ptyP d).cells), (w.heap.size + 1 + 1, 26, (ptyQ d lim).cells), (w.heap.size + 1 + 1 + 1, 29, T.cells)] V V2 := RL.trans _ _ _ (RL.of_ext ((Ext.refl V).drew)) hE0
    match i, ho with
    | 0, ho =>
      injection ho with ho
      subst ho
      have e1 : a.tmps[12]?.getD undef = .pointer (some ⟨G12, 0, none⟩) := slot_of (hfrm 12 (frm_of 12 (by kernel_rfl)))
      exact many_row rfl 26 (.tmp 12) rfl _ (by simpa [Act.eval] using e1) 26 (ptyP d).cells _ (hE.blk Q1.out n12) Try.underlying26 rfl (info26 _) rfl
    | 1, ho =>
      injection ho with ho
      subst ho
      have e1 : a.tmps[13]?.getD undef = .pointer (some ⟨G12 + 1, 0, none⟩) := slot_of (hfrm 13 (frm_of 13 (by kernel_rfl)))
      exact many_row rfl 26 (.tmp 13) rfl _ (by simpa [Act.eval] using e1) 26 (ptyQ d lim).cells _ (hE.blk Q2.out n13) Try.underlying26 rfl (info26 _) rfl
    | 2, ho =>
      injection ho with ho
      subst ho
      have e1 : a.tmps[15]?.getD undef = .pointer (some ⟨G15, 0, none⟩) := slot_of (hfrm 15 (frm_of 15 (by kernel_rfl)))
      exact many_row rfl 29 (.tmp 15) rfl _ (by simpa [Act.eval] using e1) 29 T.cells _ (hE.blk T15.out n15) Try.underlying29 rfl (info29t _) rfl
    | 3, ho =>
      injection ho with ho
      subst ho
      have e1 : a.tmps[14]?.getD undef = .int .i64 0 := slot_of (hfrm 14 (frm_of 14 (by kernel_rfl)))
      exact many_val rfl (by simp [execOp, go_sem, e1]) rfl
    | 4, ho =>
      injection ho with ho
      subst ho
      have e1 : a.tmps[35]?.getD undef = .int .i64 0 := slot_of (hdep ⟨3, .data⟩ (by simp) (by kernel_rfl))
      exact many_val rfl (by simp [execOp, go_sem, e1]) rfl
    | 5, ho =>
      injection ho with ho
      subst ho
      have e1 : a.tmps[36]?.getD undef = .bool true := slot_of (hdep ⟨4, .data⟩ (by simp) (by kernel_rfl))
      exact many_val rfl (by simp [execOp, go_sem, e1]) rfl
    | 6, ho =>
      injection ho with ho
      subst ho
      have e1 : a.tmps[16]?.getD undef = .int .i64 0 := slot_of (hfrm 16 (frm_of 16 (by kernel_rfl)))
      exact many_val rfl (by simp [execOp, go_sem, e1]) rfl
    | 7, ho =>
      injection ho with ho
      subst ho
      have e1 : a.tmps[38]?.getD undef = .int .i64 0 := slot_of (hdep ⟨6, .data⟩ (by simp) (by kernel_rfl))
      exact many_val rfl (by simp [execOp, go_sem, e1]) rfl
    | 8, ho =>
      injection ho with ho
      subst ho
      have e1 : a.tmps[37]?.getD undef = .bool true := slot_of (hdep ⟨5, .data⟩ (by simp) (by kernel_rfl))
      have e2 : a.tmps[39]?.getD undef = .bool true := slot_of (hdep ⟨7, .data⟩ (by simp) (by kernel_rfl))
      exact many_val rfl (by simp [execOp, go_sem, e1, e2]) rfl
    | 9, ho =>
      injection ho with ho
      subst ho
      have e1 : a.tmps[8]?.getD undef = .pointer (some ⟨w.heap.size + 1, 0, none⟩) := slot_of (hfrm 8 (frm_of 8 (by kernel_rfl)))
      have e2 : a.tmps[32]?.getD undef = (ptyP d).val := slot_of (hdep ⟨0, .data⟩ (by simp) (by kernel_rfl))
      rcases hE.mine _ (show (w.heap.size + 1, 26, (ptyP d).cells) ∈ [(w.heap.size + 1, 26, (ptyP d).cells), (w.heap.size + 1 + 1, 26, (ptyQ d lim).cells), (w.heap.size + 1 + 1 + 1, 29, T.cells)] by simp) _ L1.out with hb | hb
      · exact many_store (w.heap.size + 1) 26 (ptyP d).cells (by simp) (hone1) rfl 26 (.tmp 8) (.tmp 32) rfl (by simpa [Act.eval] using e1) (by simpa [Act.eval] using e2) _ hb (z62_size _) (info26 _) pty_one (fun _ h => h)
      · exact many_store (w.heap.size + 1) 26 (ptyP d).cells (by simp) (hone1) rfl 26 (.tmp 8) (.tmp 32) rfl (by simpa [Act.eval] using e1) (by simpa [Act.eval] using e2) _ hb rfl (info26 _) pty_one (fun _ h => h)
    | 10, ho =>
      injection ho with ho
      subst ho
      have e1 : a.tmps[9]?.getD undef = .pointer (some ⟨w.heap.size + 1 + 1, 0, none⟩) := slot_of (hfrm 9 (frm_of 9 (by kernel_rfl)))
      have e2 : a.tmps[33]?.getD undef = (ptyQ d lim).val := slot_of (hdep ⟨1, .data⟩ (by simp) (by kernel_rfl))
      rcases hE.mine _ (show (w.heap.size + 1 + 1, 26, (ptyQ d lim).cells) ∈ [(w.heap.size + 1, 26, (ptyP d).cells), (w.heap.size + 1 + 1, 26, (ptyQ d lim).cells), (w.heap.size + 1 + 1 + 1, 29, T.cells)] by simp) _ L2.out with hb | hb
      · exact many_store (w.heap.size + 1 + 1) 26 (ptyQ d lim).cells (by simp) (hone2) rfl 26 (.tmp 9) (.tmp 33) rfl (by simpa [Act.eval] using e1) (by simpa [Act.eval] using e2) _ hb (z62_size _) (info26 _) pty_one (fun _ h => h)
      · exact many_store (w.heap.size + 1 + 1) 26 (ptyQ d lim).cells (by simp) (hone2) rfl 26 (.tmp 9) (.tmp 33) rfl (by simpa [Act.eval] using e1) (by simpa [Act.eval] using e2) _ hb rfl (info26 _) pty_one (fun _ h => h)
    | 11, ho =>
      injection ho with ho
      subst ho
      have e1 : a.tmps[10]?.getD undef = .pointer (some ⟨w.heap.size + 1 + 1 + 1, 0, none⟩) := slot_of (hfrm 10 (frm_of 10 (by kernel_rfl)))
      have e2 : a.tmps[34]?.getD undef = .agg T.cells := slot_of (hdep ⟨2, .data⟩ (by simp) (by kernel_rfl))
      rcases hE.mine _ (show (w.heap.size + 1 + 1 + 1, 29, T.cells) ∈ [(w.heap.size + 1, 26, (ptyP d).cells), (w.heap.size + 1 + 1, 26, (ptyQ d lim).cells), (w.heap.size + 1 + 1 + 1, 29, T.cells)] by simp) _ L3.out with hb | hb
      · exact many_store (w.heap.size + 1 + 1 + 1) 29 T.cells (by simp) (hone3) rfl 29 (.tmp 10) (.tmp 34) rfl (by simpa [Act.eval] using e1) (by simpa [Act.eval] using e2) _ hb (z35t _) (info29t _) tlk_one (fun _ h => h)
      · exact many_store (w.heap.size + 1 + 1 + 1) 29 T.cells (by simp) (hone3) rfl 29 (.tmp 10) (.tmp 34) rfl (by simpa [Act.eval] using e1) (by simpa [Act.eval] using e2) _ hb rfl (info29t _) tlk_one (fun _ h => h)
    | 12, ho =>
      injection ho with ho
      subst ho
      have e1 : a.tmps[40]?.getD undef = .bool true := slot_of (hdep ⟨8, .data⟩ (by simp) (by kernel_rfl))
      exact many_val rfl (by simp [execOp, go_sem, e1]) rfl
    | k + 13, ho => exact absurd (List.getElem?_eq_some_iff.1 ho).1 (by simp)
  case fin =>
    intro vs V4 hE0 hvs
    have hE : RL [(w.heap.size + 1, 26, (ptyP d).cells), (w.heap.size + 1 + 1, 26, (ptyQ d lim).cells), (w.heap.size + 1 + 1 + 1, 29, T.cells)] V V4 := RL.trans _ _ _ (RL.of_ext ((Ext.refl V).drew)) hE0
    have s1 : Blk V4 (w.heap.size + 1) 26 (ptyP d).cells := hvs 9 (by simp)
    have s2 : Blk V4 (w.heap.size + 1 + 1) 26 (ptyQ d lim).cells := hvs 10 (by simp)
    have s3 : Blk V4 (w.heap.size + 1 + 1 + 1) 29 T.cells := hvs 11 (by simp)
    have s4 : vs 12 = .bool true := hvs 12 (by simp)
    have FE := Lib.hid (hE.below LE.out nw)
    clear hvs hE0 hE
    simp [putAll, Act.put, s4]
    go_wp2_with fail
    exact bodyPost_ret (results_cell4 rfl _ _ (w.heap.size + 1) (w.heap.size + 1 + 1) (w.heap.size + 1 + 1 + 1) 26 26 29 (ptyP d).cells (ptyQ d lim).cells T.cells _ _ _ rfl rfl rfl s1 s2 s3 Try.underlying26 rfl (info26 _) Try.underlying26 rfl (info26 _) Try.underlying29 rfl (info29t _)) rfl ⟨rfl, FE.out⟩
end Go.Proofs.Ytfdcapblgdlkaaa
