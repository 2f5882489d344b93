/- The loop that makes a sample: what it keeps; the region of its two appends. -/
import Derived.Test.YtchplmenkdghcaaTopPrt
namespace Go.Proofs.Ytchplmenkdghcaa
open Go.RowKit
theorem infoU8 : ElemInfo Try.prog 31 5 1 1 := elemInfo (z := .int .u8 0) Try.underlying31 (by kernel_rfl) rfl (by decide)
/-- noises in a slice -/
def Ns (w : World) (A : Option Addr) (l : List Int) : Prop := Sl 1 (fun v : Int => [.int .i8 v]) w A l
def u8s (f : Nat → Int) (k : Nat) : List Value := (List.range k).map fun i => .int .u8 (f i)
theorem u8s_succ (f : Nat → Int) (k : Nat) : u8s f (k + 1) = u8s f k ++ [.int .u8 (f k)] := by simp [u8s, List.range_succ]
def sepV (u v : Value) : Prop := ∀ g, u.ownBlock = some g → v.ownBlock ≠ some g
/-- what the loop over the pixels keeps: the two structs' slices P, D, L of p, d, l elements -/
structure SmO (Bs : Nat) (px : Nat → Int) (p d l : Nat) (P D L : Value) (X : World) : Prop where
  oP : X.ownsRow Bs 5 1 P p (u8s px p)
  oD : X.ownsRow Bs 5 1 D d (u8s (fun _ => 40) d)
  oL : X.ownsRow Bs 5 1 L l (u8s (fun _ => 200) l)
  pd : sepV P D
  pl : sepV P L
  dl : sepV D L
section
variable {Bs : Nat} {px : Nat → Int} {p d l : Nat} {P D L P' : Value} {X X' : World}
theorem SmO.grow (h : SmO Bs px p d l P D L X) (k : Ext X X') : SmO Bs px p d l P D L X' := ⟨own_grow h.oP k, own_grow h.oD k, own_grow h.oL k, h.pd, h.pl, h.dl⟩
theorem SmO.set_ (h : SmO Bs px p d l P D L X) {g : Nat} {t : TypeId} {cs : Array Value} (hb : Blk X g t cs) (ht : t ≠ 5) (i : Nat) (u : Value) : SmO Bs px p d l P D L (X.setCell ⟨g, i, none⟩ u) := ⟨own_set_blk h.oP hb ht i u, own_set_blk h.oD hb ht i u, own_set_blk h.oL hb ht i u, h.pd, h.pl, h.dl⟩
theorem kept_sep {b m n : Nat} {U V : Value} {xs ys : List Value} (_hU : X.ownsRow b 5 1 U m xs) (hV : X.ownsRow b 5 1 V n ys) (hs : sepV U V) (hg : X.grownBy X' U.ownBlock) : X'.ownsRow b 5 1 V n ys := by
  refine hV.kept hg ?_
  cases hv : V.ownBlock with
  | none => exact .inl rfl
  | some g => exact .inr fun e => hs g e.symm hv
theorem sep_new {b m n : Nat} {U V U' : Value} {xs ys : List Value} (_hU : X.ownsRow b 5 1 U m xs) (hV : X.ownsRow b 5 1 V n ys) (hs : sepV U V) (ha : U'.ownBlock = U.ownBlock ∨ U'.ownBlock = some X.heap.size) : sepV U' V := by
  intro g hg hv
  rcases ha with e | e
  · exact hs g (e ▸ hg) hv
  · rw [e] at hg
    injection hg with hg
    have := (hV.lt g hv).2
    omega
theorem sep_nil (V : Value) : sepV (.slice none 0 0) V := fun _ h => by cases h
theorem sep_symm {U V : Value} (h : sepV U V) : sepV V U := fun g h1 h2 => h g h2 h1
theorem SmO.appP (h : SmO Bs px p d l P D L X) (ho : X'.ownsRow Bs 5 1 P' (p + 1) (u8s px (p + 1))) (hg : X.grownBy X' P.ownBlock) (ha : P'.ownBlock = P.ownBlock ∨ P'.ownBlock = some X.heap.size) : SmO Bs px (p + 1) d l P' D L X' :=
  ⟨ho, kept_sep h.oP h.oD h.pd hg, kept_sep h.oP h.oL h.pl hg, sep_new h.oP h.oD h.pd ha, sep_new h.oP h.oL h.pl ha, h.dl⟩
theorem SmO.appD (h : SmO Bs px p d l P D L X) (ho : X'.ownsRow Bs 5 1 P' (d + 1) (u8s (fun _ => 40) (d + 1))) (hg : X.grownBy X' D.ownBlock) (ha : P'.ownBlock = D.ownBlock ∨ P'.ownBlock = some X.heap.size) : SmO Bs px p (d + 1) l P P' L X' :=
  ⟨kept_sep h.oD h.oP (sep_symm h.pd) hg, ho, kept_sep h.oD h.oL h.dl hg, sep_symm (sep_new h.oD h.oP (sep_symm h.pd) ha), h.pl, sep_new h.oD h.oL h.dl ha⟩
theorem SmO.appL (h : SmO Bs px p d l P D L X) (ho : X'.ownsRow Bs 5 1 P' (l + 1) (u8s (fun _ => 200) (l + 1))) (hg : X.grownBy X' L.ownBlock) (ha : P'.ownBlock = L.ownBlock ∨ P'.ownBlock = some X.heap.size) : SmO Bs px p d (l + 1) P D P' X' :=
  ⟨kept_sep h.oL h.oP (sep_symm h.pl) hg, kept_sep h.oL h.oD (sep_symm h.dl) hg, ho, h.pd, sep_symm (sep_new h.oL h.oP (sep_symm h.pl) ha), sep_symm (sep_new h.oL h.oD (sep_symm h.dl) ha)⟩
end
/-- an append at a slice of the call's own, the world behind it by its name -/
theorem wp_append_w {P : Program} {o : Oper} {a : Act} {w : World} {K : Act → World → Prop} {Q : Exit → Act → World → Prop} (W0 : World) (hW : Ext W0 w) {t e : TypeId} {size bytes : Nat} (hI : ElemInfo P t e size bytes) (s x : Operand)
    (ho : o.op = .call { callee := .builtin .append, args := #[s, x], argTypes := #[t, t] })
    (v : Value) (n : Nat) (xs : List Value) (hs : a.eval s = v) (hown : w.ownsRow W0.heap.size e size v n xs)
    (g c : Nat) (news : List Value) (hx : a.eval x = .slice (some ⟨g, 0, none⟩) 1 c) (hr : Blk w g e news.toArray) (hn : news.length = size) (h1 : ∀ u ∈ news, u.oneCell' = true)
    (hsmall : n + 1 ≤ 65536) (hby : bytes ≤ 65536)
    (h : ∀ A' c' w', Ext W0 w' → w'.ownsRow W0.heap.size e size (.slice A' (n + 1) c') (n + 1) (xs ++ news) → w.grownBy w' v.ownBlock → ((Value.slice A' (n + 1) c').ownBlock = v.ownBlock ∨ (Value.slice A' (n + 1) c').ownBlock = some w.heap.size) → K (a.put o.dst (.slice A' (n + 1) c')) w') : Oper.wp P o a w K Q := by
  obtain ⟨A', c', w', hrun, h2, h3, h4, h5⟩ := run_append_keep hW hI o.type hown c (by omega) (Slc.of_blk (n := 1) hr (by simp [hn])) (by simpa using h1) hsmall hby
  unfold Oper.wp execOp
  simp only [ho, resolve, invoke, builtin, Sem.run_bind, Sem.run_pure, Result.andThen_ok, List.map_toArray, List.map_cons, List.map_nil, hs, hx, hrun]
  exact h A' c' w' h3 h2 h4 h5
theorem wpList_append_w {P : Program} {o : Oper} {a : Act} {w : World} {Q : Exit → Act → World → Prop} {ops : Array Oper} {rest : List Oper} (hgd : o.guard = none) (W0 : World) (hW : Ext W0 w) {t e : TypeId} {size bytes : Nat} (hI : ElemInfo P t e size bytes) (s x : Operand)
    (ho : o.op = .call { callee := .builtin .append, args := #[s, x], argTypes := #[t, t] })
    (v : Value) (n : Nat) (xs : List Value) (hs : a.eval s = v) (hown : w.ownsRow W0.heap.size e size v n xs)
    (g c : Nat) (news : List Value) (hx : a.eval x = .slice (some ⟨g, 0, none⟩) 1 c) (hr : Blk w g e news.toArray) (hn : news.length = size) (h1 : ∀ u ∈ news, u.oneCell' = true)
    (hsmall : n + 1 ≤ 65536) (hby : bytes ≤ 65536)
    (h : ∀ A' c' w', Ext W0 w' → w'.ownsRow W0.heap.size e size (.slice A' (n + 1) c') (n + 1) (xs ++ news) → w.grownBy w' v.ownBlock → ((Value.slice A' (n + 1) c').ownBlock = v.ownBlock ∨ (Value.slice A' (n + 1) c').ownBlock = some w.heap.size) → wpList P ops Q rest (a.put o.dst (.slice A' (n + 1) c')) w') : wpList P ops Q (o :: rest) a w :=
  wpList_plain hgd fun _ hK => wp_append_w W0 hW hI s x ho v n xs hs hown g c news hx hr hn h1 hsmall hby fun A' c' w' h1 h2 h3 h4 => hK _ _ (h A' c' w' h1 h2 h3 h4)
theorem step_append_w {P : Program} {o : Oper} {a : Act} {w : World} {K : Act → World → Prop} {Q : Exit → Act → World → Prop} {ops : Array Oper} {E : Prop} (hgd : o.guard = none) (W0 : World) (hW : Ext W0 w) {t e : TypeId} {size bytes : Nat} (hI : ElemInfo P t e size bytes) (s x : Operand)
    (ho : o.op = .call { callee := .builtin .append, args := #[s, x], argTypes := #[t, t] })
    (v : Value) (n : Nat) (xs : List Value) (hs : a.eval s = v) (hown : w.ownsRow W0.heap.size e size v n xs)
    (g c : Nat) (news : List Value) (hx : a.eval x = .slice (some ⟨g, 0, none⟩) 1 c) (hr : Blk w g e news.toArray) (hn : news.length = size) (h1 : ∀ u ∈ news, u.oneCell' = true)
    (hsmall : n + 1 ≤ 65536) (hby : bytes ≤ 65536)
    (h : ∀ A' c' w', Ext W0 w' → w'.ownsRow W0.heap.size e size (.slice A' (n + 1) c') (n + 1) (xs ++ news) → w.grownBy w' v.ownBlock → ((Value.slice A' (n + 1) c').ownBlock = v.ownBlock ∨ (Value.slice A' (n + 1) c').ownBlock = some w.heap.size) → K (a.put o.dst (.slice A' (n + 1) c')) w') :
    if Region.wanted o (yielded ops a.tmps) = true then Oper.wp P o a w K Q else E := by
  have hw : Region.wanted o (yielded ops a.tmps) = true := by simp [Region.wanted, hgd]
  rw [if_pos hw]
  exact wp_append_w W0 hW hI s x ho v n xs hs hown g c news hx hr hn h1 hsmall hby h
/-- all that is known in the loop -/
structure SmA (w : World) (W0 H0 : Nat) (T : List Bool) (At : Option Addr) (ct wN hN : Nat) (px : Nat → Int) (p d l : Nat) (P D L : Value) (X : World) : Prop where
  box : Blk X w.heap.size 24 #[.int .i64 W0, .int .i64 H0, .slice At T.length ct]
  z14 : Blk X (w.heap.size + 1) 33 #[.int .i64 0, .int .i64 0, .slice none 0 0]
  z15 : Blk X (w.heap.size + 1 + 1) 35 #[.int .i64 0, .int .i64 0, .slice none 0 0, .slice none 0 0]
  b16 : Blk X (w.heap.size + 1 + 1 + 1) 33 #[.int .i64 wN, .int .i64 hN, P]
  b17 : Blk X (w.heap.size + 1 + 1 + 1 + 1) 35 #[.int .i64 wN, .int .i64 hN, D, L]
  own : SmO w.heap.size px p d l P D L X
  ext : Ext w X
theorem SmA.grow {w : World} {W0 H0 : Nat} {T : List Bool} {At : Option Addr} {ct wN hN : Nat} {px : Nat → Int} {p d l : Nat} {P D L : Value} {X X' : World} (h : SmA w W0 H0 T At ct wN hN px p d l P D L X) (k : Ext X X') : SmA w W0 H0 T At ct wN hN px p d l P D L X' :=
  ⟨h.box.grow k, h.z14.grow k, h.z15.grow k, h.b16.grow k, h.b17.grow k, h.own.grow k, h.ext.trans k⟩
section
variable {w : World} {W0 H0 : Nat} {T : List Bool} {At : Option Addr} {ct wN hN : Nat} {px : Nat → Int} {p d l d' l' : Nat} {P D L P' D' L' : Value} {X X' : World}
theorem SmA.storeP (h : SmA w W0 H0 T At ct wN hN px p d l P D L X) (k : Kp [5] w.heap.size X X') (ho : SmO w.heap.size px (p + 1) d l P' D L X') : SmA w W0 H0 T At ct wN hN px (p + 1) d l P' D L (X'.setCell ⟨w.heap.size + 1 + 1 + 1, 2, none⟩ P') := by
  have b16 := k.blk h.b16 (by simp)
  exact ⟨(k.blk h.box (by simp)).far (by show w.heap.size ≠ w.heap.size + 1 + 1 + 1; omega) _, (k.blk h.z14 (by simp)).far (by show w.heap.size + 1 ≠ w.heap.size + 1 + 1 + 1; omega) _, (k.blk h.z15 (by simp)).far (by show w.heap.size + 1 + 1 ≠ w.heap.size + 1 + 1 + 1; omega) _, b16.set_ 2 _, (k.blk h.b17 (by simp)).far (by show w.heap.size + 1 + 1 + 1 + 1 ≠ w.heap.size + 1 + 1 + 1; omega) _, ho.set_ b16 (by decide) 2 _, (k.ext h.ext (Nat.le_refl _)).setCell (by show w.heap.size ≤ w.heap.size + 1 + 1 + 1; omega) _⟩
theorem SmA.storeDL (h : SmA w W0 H0 T At ct wN hN px p d l P D L X) (k : Kp [5] w.heap.size X X') (ho : SmO w.heap.size px p d' l' P D' L' X') : SmA w W0 H0 T At ct wN hN px p d' l' P D' L' ((X'.setCell ⟨w.heap.size + 1 + 1 + 1 + 1, 2, none⟩ D').setCell ⟨w.heap.size + 1 + 1 + 1 + 1, 3, none⟩ L') := by
  have b17 := k.blk h.b17 (by simp)
  have n0 : w.heap.size ≠ w.heap.size + 1 + 1 + 1 + 1 := by omega
  have n1 : w.heap.size + 1 ≠ w.heap.size + 1 + 1 + 1 + 1 := by omega
  have n2 : w.heap.size + 1 + 1 ≠ w.heap.size + 1 + 1 + 1 + 1 := by omega
  have n3 : w.heap.size + 1 + 1 + 1 ≠ w.heap.size + 1 + 1 + 1 + 1 := by omega
  have le : w.heap.size ≤ w.heap.size + 1 + 1 + 1 + 1 := by omega
  exact ⟨((k.blk h.box (by simp)).far n0 _).far n0 _, ((k.blk h.z14 (by simp)).far n1 _).far n1 _, ((k.blk h.z15 (by simp)).far n2 _).far n2 _, ((k.blk h.b16 (by simp)).far n3 _).far n3 _, (b17.set_ 2 _).set_ 3 _, (ho.set_ b17 (by decide) 2 _).set_ (b17.set_ 2 _) (by decide) 3 _, ((k.ext h.ext (Nat.le_refl _)).setCell (p := ⟨w.heap.size + 1 + 1 + 1 + 1, 2, none⟩) le _).setCell (p := ⟨w.heap.size + 1 + 1 + 1 + 1, 3, none⟩) le _⟩
theorem blk_own {base n : Nat} {V : Value} {xs : List Value} (_ho : X.ownsRow base 5 1 V n xs) {Y : World} (hY : V.ownBlock = none ∨ ∃ g, V.ownBlock = some g ∧ g < Y.heap.size) (hg : X.grownBy X' V.ownBlock) {g : Nat} {t : TypeId} {cs : Array Value} (hgY : Y.heap.size ≤ g) (hb : Blk X g t cs) : Blk X' g t cs := by
  refine (hg.block g hb.lt fun e => ?_).trans hb
  rcases hY with h | ⟨g', h1, h2⟩
  · rw [h] at e; cases e
  · rw [h1] at e
    injection e with e
    omega
theorem own_lt {base n : Nat} {V : Value} {xs : List Value} (ho : X.ownsRow base 5 1 V n xs) : V.ownBlock = none ∨ ∃ g, V.ownBlock = some g ∧ g < X.heap.size := by
  cases h : V.ownBlock with
  | none => exact .inl rfl
  | some g => exact .inr ⟨g, rfl, (ho.lt g h).2⟩
end
/-- the region that appends to two slices and stores both -/
structure Rg where
  B : Nat
  M : Nat
  g : Nat
  k : Nat
  a0 : Value
  a1 : Value
  D : Value
  L : Value
namespace Rg
structure ok (x : Rg) : Prop where
  gM : x.g < x.M
  BM : x.B ≤ x.M
  Bg : x.B ≤ x.g
  d : ∀ g, x.D.ownBlock = some g → g < x.M
  l : ∀ g, x.L.ownBlock = some g → g < x.M
  dl : sepV x.D x.L
  dk : ∀ A c, x.D ≠ .slice A (x.k + 1) c
  k : x.k ≤ 60000
structure T (x : Rg) (W W' : World) : Prop where
  os : W'.os = W.os
  tape : W'.tape = W.tape
  output : W'.output = W.output
  size : W.heap.size ≤ W'.heap.size
  block : ∀ b, b < W.heap.size → b < x.M → b ≠ x.g → x.D.ownBlock ≠ some b → x.L.ownBlock ≠ some b → W'.heap[b]? = W.heap[b]?
variable {x : Rg} {W W' : World}
theorem T.of_ext (h : Ext W W') : x.T W W' := ⟨h.os, h.tape, h.output, h.size, fun b hb _ _ _ _ => h.block b hb⟩
theorem T.trans {W'' : World} (h : x.T W W') (k : x.T W' W'') : x.T W W'' :=
  ⟨k.os.trans h.os, k.tape.trans h.tape, k.output.trans h.output, Nat.le_trans h.size k.size, fun b hb h1 h2 h3 h4 => (k.block b (Nat.lt_of_lt_of_le hb h.size) h1 h2 h3 h4).trans (h.block b hb h1 h2 h3 h4)⟩
def BS (x : Rg) (f : Int) (v : Value) (W : World) : Prop := ∃ g, v = .slice (some ⟨g, 0, none⟩) 1 1 ∧ x.M ≤ g ∧ Blk W g 5 #[.int .u8 f]
def New (x : Rg) (f : Int) (D : Value) (v : Value) (W : World) : Prop := (∃ A c, v = .slice A (x.k + 1) c) ∧ W.ownsRow x.B 5 1 v (x.k + 1) (u8s (fun _ => f) (x.k + 1)) ∧ (v.ownBlock = D.ownBlock ∨ ∃ g, v.ownBlock = some g ∧ x.M ≤ g)
theorem BS.grow {f : Int} {v : Value} (h : x.BS f v W) (k : Ext W W') : x.BS f v W' := by
  obtain ⟨g, h1, h2, h3⟩ := h
  exact ⟨g, h1, h2, h3.grow k⟩
theorem New.grow {f : Int} {D v : Value} (h : x.New f D v W) (k : Ext W W') : x.New f D v W' := ⟨h.1, own_grow h.2.1 k, h.2.2⟩
def V (x : Rg) : Nat → Value → World → Prop
  | 0, v, _ => v = .pointer (some ⟨x.g, 2, none⟩)
  | 1, v, _ => v = x.D
  | 2, v, W => x.BS 40 v W
  | 3, v, W => x.New 40 x.D v W
  | 4, v, _ => v = .pointer (some ⟨x.g, 3, none⟩)
  | 5, v, _ => v = x.L
  | 6, v, W => x.BS 200 v W
  | 7, v, W => x.New 200 x.L v W
  | 8, v, _ => v = .pointer (some ⟨x.g, 2, none⟩)
  | 9, _, W => ∃ v3 u, x.New 40 x.D v3 W ∧ Blk W x.g 35 #[x.a0, x.a1, v3, u]
  | 10, v, _ => v = .pointer (some ⟨x.g, 3, none⟩)
  | 11, _, W => ∃ v3 v7, x.New 40 x.D v3 W ∧ x.New 200 x.L v7 W ∧ Blk W x.g 35 #[x.a0, x.a1, v3, v7]
  | _, _, _ => True
def N (x : Rg) : Nat → World → Prop
  | 3, W => W.ownsRow x.B 5 1 x.D x.k (u8s (fun _ => 40) x.k)
  | 7, W => W.ownsRow x.B 5 1 x.L x.k (u8s (fun _ => 200) x.k)
  | 9, W => Blk W x.g 35 #[x.a0, x.a1, x.D, x.L]
  | _, _ => True
theorem V_ext (i : Nat) (v : Value) (W W' : World) (h : x.V i v W) (k : Ext W W') : x.V i v W' := by
  unfold V at h ⊢
  split at h <;> first | exact h | exact BS.grow h k | exact New.grow h k | skip
  · obtain ⟨v3, u, h1, h2⟩ := h
    exact ⟨v3, u, h1.grow k, h2.grow k⟩
  · obtain ⟨v3, v7, h1, h2, h3⟩ := h
    exact ⟨v3, v7, h1.grow k, h2.grow k, h3.grow k⟩
theorem N_ext (i : Nat) (W W' : World) (h : x.N i W) (k : Ext W W') : x.N i W' := by
  unfold N at h ⊢
  split at h <;> first | exact own_grow h k | exact Blk.grow h k | trivial
/-- an append's step -/
structure Ap (x : Rg) (D : Value) (W W' : World) : Prop where
  g : W.grownBy W' D.ownBlock
  lt : ∀ g, D.ownBlock = some g → g < x.M
  c5 : ∀ g, D.ownBlock = some g → ∃ cur, W.heap[g]? = some (.cells cur 5 (0, 0))
theorem Ap.blk {D : Value} (h : x.Ap D W W') {g : Nat} {t : TypeId} {cs : Array Value} (hb : Blk W g t cs) (ht : t ≠ 5) : Blk W' g t cs := by
  refine (h.g.block g hb.lt fun e => ?_).trans hb
  obtain ⟨cur, hc⟩ := h.c5 g e.symm
  unfold Blk at hb
  rw [hb] at hc
  injection hc with hc
  injection hc with _ hc
  exact ht hc
theorem Ap.bs {D : Value} (h : x.Ap D W W') {f : Int} {v : Value} (hb : x.BS f v W) : x.BS f v W' := by
  obtain ⟨g, h1, h2, h3⟩ := hb
  refine ⟨g, h1, h2, (h.g.block g h3.lt fun e => ?_).trans h3⟩
  have := h.lt g e.symm
  omega
theorem Ap.own {D : Value} (h : x.Ap D W W') {b n : Nat} {v : Value} {xs : List Value} (ho : W.ownsRow b 5 1 v n xs) (hs : sepV D v) : W'.ownsRow b 5 1 v n xs := by
  refine ho.kept h.g ?_
  cases hv : v.ownBlock with
  | none => exact .inl rfl
  | some g => exact .inr fun e => hs g e.symm hv
theorem Ap.new {D E : Value} (h : x.Ap D W W') (hs : sepV D E) {f : Int} {v : Value} (ho : x.New f E v W) : x.New f E v W' := by
  refine ⟨ho.1, h.own ho.2.1 fun g hg hv => ?_, ho.2.2⟩
  rcases ho.2.2 with e | ⟨g', h1, h2⟩
  · exact hs g hg (e ▸ hv)
  · rw [h1] at hv
    injection hv with hv
    have := h.lt g hg
    omega
theorem Ap.t {D : Value} (h : x.Ap D W W') (hd : D = x.D ∨ D = x.L) : x.T W W' :=
  ⟨h.g.os, h.g.tape, h.g.output, h.g.size, fun b hb _ _ h1 h2 => h.g.block b hb fun e => by
    rcases hd with rfl | rfl
    · exact h1 e.symm
    · exact h2 e.symm⟩
/-- a store into the struct -/
theorem set_bs {f : Int} {v : Value} {cs : Array Value} (hg : Blk W x.g 35 cs) (i : Nat) (u : Value) (h : x.BS f v W) : x.BS f v (W.setCell ⟨x.g, i, none⟩ u) := by
  obtain ⟨g, h1, h2, h3⟩ := h
  refine ⟨g, h1, h2, h3.far (fun e => ?_) u⟩
  have e' : g = x.g := e
  subst e'
  unfold Blk at h3 hg
  rw [h3] at hg
  injection hg with hg
  injection hg with _ hg
  cases hg
theorem set_new {f : Int} {D v : Value} {cs : Array Value} (hg : Blk W x.g 35 cs) (i : Nat) (u : Value) (h : x.New f D v W) : x.New f D v (W.setCell ⟨x.g, i, none⟩ u) := ⟨h.1, own_set_blk h.2.1 hg (by decide) i u, h.2.2⟩
theorem set_t (i : Nat) (u : Value) : x.T W (W.setCell ⟨x.g, i, none⟩ u) := ⟨rfl, rfl, rfl, by simp [World.setCell], fun b _ _ hb _ _ => Below.heap_setCell _ _ _ _ hb⟩
theorem own_c5 {W : World} {b n : Nat} {v : Value} {xs : List Value} (h : W.ownsRow b 5 1 v n xs) : ∀ g, v.ownBlock = some g → ∃ cur, W.heap[g]? = some (.cells cur 5 (0, 0)) := by
  intro g hg
  rcases h.2 with ⟨rfl, -⟩ | ⟨k, cap, cur, rfl, -, hh, -⟩
  · cases hg
  · injection hg with hg
    subst hg
    exact ⟨cur, hh⟩
theorem blk_inj {W : World} {g : Nat} {t : TypeId} {xs ys : List Value} (h : Blk W g t xs.toArray) (k : Blk W g t ys.toArray) : xs = ys := by
  unfold Blk at h k
  rw [h] at k
  injection k with k
  injection k with k
  simpa using k
set_option maxRecDepth 100000 in
set_option maxHeartbeats 4000000 in
theorem run11 (x : Rg) (hok : x.ok) (w V : World) (hB : x.B = w.heap.size) (hM : x.M ≤ V.heap.size) (hEx : ∀ W, x.T V.drew W → Ext w W) (a0 : Act) (hsz0 : a0.tmps.size = 78) (h17 : a0.tmps.getD 17 undef = .pointer (some ⟨x.g, 0, none⟩)) (Q : Exit → Act → World → Prop)
    (hN3 : x.N 3 V) (hN7 : x.N 7 V) (hN9 : x.N 9 V)
    (hQ : ∀ (u0 u1 u2 u3 u4 u5 u6 u7 u8 u9 u10 u11 : Value) (W : World) (v3 v7 : Value), x.T V.drew W → x.New 40 x.D v3 W → x.New 200 x.L v7 W → Blk W x.g 35 #[x.a0, x.a1, v3, v7] → Q .normal ((((((((((((a0.put (some 65) u0).put (some 66) u1).put (some 67) u2).put (some 68) u3).put (some 69) u4).put (some 70) u5).put (some 71) u6).put (some 72) u7).put (some 73) u8).put none u9).put (some 74) u10).put none u11) W) :
    (subC [1, 1, 0, 1, 0, 0, 1, 1, 0, 0, 1, 1, 1, 1, 1] (Try.f7.body.getD .skip)).wp Try.prog Q a0 V := by
  conv => arg 2; whnf
  refine wp_region_rel3 x.V x.N x.T (by kernel_rfl) (by rw [hsz0]; kernel_rfl) (fun _ _ h => Rg.T.of_ext h) (fun _ _ _ h k => h.trans k) Rg.V_ext Rg.N_ext ?n0 ?op ?fin
  case n0 =>
    intro i
    match i with
    | 3 => exact own_grow hN3 (Ext.refl V).drew
    | 7 => exact own_grow hN7 (Ext.refl V).drew
    | 9 => exact Blk.drew hN9
    | 0 | 1 | 2 | 4 | 5 | 6 | 8 => trivial
    | i + 10 => trivial
  case fin =>
    intro vs W hT hV
    obtain ⟨v3, v7, h1, h2, h3⟩ := hV 11 (by decide)
    simp only [putAll]
    exact hQ (vs 0) (vs 1) (vs 2) (vs 3) (vs 4) (vs 5) (vs 6) (vs 7) (vs 8) (vs 9) (vs 10) (vs 11) W v3 v7 hT h1 h2 h3
  case op =>
    intro i o ho a W _ _ hfrm hT hNi hNd hdep
    match i, ho with
    | 0, ho =>
      injection ho with ho
      subst ho
      have e1 : a.tmps[17]?.getD undef = .pointer (some ⟨x.g, 0, none⟩) := slot_of ((hfrm 17 (frm_of 17 (by kernel_rfl))).trans h17)
      (unfold Oper.wp; rw [show (execOp a.eval _).run Try.prog W = .ok (.value (.pointer (some ⟨x.g, 2, none⟩))) W from by simp [execOp, go_sem, e1]]; exact ⟨_, rfl, rfl, .inl (Ext.refl _)⟩)
    | 1, ho =>
      injection ho with ho
      subst ho
      have e1 : a.tmps[65]?.getD undef = .pointer (some ⟨x.g, 2, none⟩) := slot_of (hdep ⟨0, .data⟩ (by simp) (by kernel_rfl))
      have c0 : W.cell? ⟨x.g, 2, none⟩ = some x.D := (show Blk W x.g 35 #[x.a0, x.a1, x.D, x.L] from hNd 9 (by kernel_rfl)).cell 2
      (unfold Oper.wp; rw [show (execOp a.eval _).run Try.prog W = .ok (.value (x.D)) W from by simp [execOp, go_sem, e1, c0]]; exact ⟨_, rfl, rfl, .inl (Ext.refl _)⟩)
    | 2, ho =>
      injection ho with ho
      subst ho
      have hsz2 := Nat.le_trans hM hT.size
      simp [Oper.wp, execOp, go_sem]
      exact ⟨_, rfl, ⟨_, rfl, hsz2, Blk.new _ _ _⟩, .inl ((Ext.refl _).alloc _)⟩
    | 3, ho =>
      injection ho with ho
      subst ho
      have e1 : a.tmps[66]?.getD undef = x.D := slot_of (hdep ⟨1, .data⟩ (by simp) (by kernel_rfl))
      obtain ⟨gn, hg1, hg2, hg3⟩ := hdep ⟨2, .data⟩ (by simp) (by kernel_rfl)
      have e2 : a.tmps[67]?.getD undef = .slice (some ⟨gn, 0, none⟩) 1 1 := slot_of hg1
      have hown : W.ownsRow w.heap.size 5 1 x.D x.k (u8s (fun _ => 40) x.k) := hB ▸ hNi
      refine wp_append_w w (hEx W hT) infoU8 (.tmp 66) (.tmp 67) rfl x.D x.k (u8s (fun _ => 40) x.k) (by simpa [Act.eval] using e1) hown gn 1 [.int .u8 40] (by simpa [Act.eval] using e2) hg3 rfl (by intro u hu; simp only [List.mem_cons, List.not_mem_nil, or_false] at hu; subst hu; rfl) (by have := hok.k; omega) (by decide) ?_
      intro A c W2 hE2 ho2 hg2 ha2
      have hap : x.Ap x.D W W2 := ⟨hg2, hok.d, own_c5 hown⟩
      refine ⟨_, rfl, ⟨⟨A, c, rfl⟩, by rw [hB, u8s_succ]; exact ho2, ha2.imp id fun h => ⟨_, h, Nat.le_trans hM hT.size⟩⟩, .inr ⟨hap.t (.inl rfl), ?_, ?_⟩⟩
      · intro j hj hn
        exact match j, hj, hn with
        | 0, _, _ => trivial
        | 1, _, _ => trivial
        | 2, _, _ => trivial
        | 3, hj, hn => absurd rfl hj
        | 4, _, _ => trivial
        | 5, _, _ => trivial
        | 6, _, _ => trivial
        | 7, hj, hn => hap.own hn hok.dl
        | 8, _, _ => trivial
        | 9, hj, hn => hap.blk hn (by decide)
        | j + 10, _, _ => trivial
      · intro j v hj hd hv
        exact match j, hj, hd, hv with
        | 0, hj, hd, hv => hv
        | 1, hj, hd, hv => hv
        | 2, hj, hd, hv => hap.bs hv
        | 3, hj, hd, hv => absurd rfl hj
        | 4, hj, hd, hv => hv
        | 5, hj, hd, hv => hv
        | 6, hj, hd, hv => hap.bs hv
        | 7, hj, hd, hv => absurd (hd.symm.trans (show depB _ 7 3 = true by kernel_rfl)) (by simp)
        | 8, hj, hd, hv => hv
        | 9, hj, hd, hv => absurd (hd.symm.trans (show depB _ 9 3 = true by kernel_rfl)) (by simp)
        | 10, hj, hd, hv => hv
        | 11, hj, hd, hv => absurd (hd.symm.trans (show depB _ 11 3 = true by kernel_rfl)) (by simp)
        | j + 12, _, _, _ => trivial
    | 4, ho =>
      injection ho with ho
      subst ho
      have e1 : a.tmps[17]?.getD undef = .pointer (some ⟨x.g, 0, none⟩) := slot_of ((hfrm 17 (frm_of 17 (by kernel_rfl))).trans h17)
      (unfold Oper.wp; rw [show (execOp a.eval _).run Try.prog W = .ok (.value (.pointer (some ⟨x.g, 3, none⟩))) W from by simp [execOp, go_sem, e1]]; exact ⟨_, rfl, rfl, .inl (Ext.refl _)⟩)
    | 5, ho =>
      injection ho with ho
      subst ho
      have e1 : a.tmps[69]?.getD undef = .pointer (some ⟨x.g, 3, none⟩) := slot_of (hdep ⟨4, .data⟩ (by simp) (by kernel_rfl))
      have c0 : W.cell? ⟨x.g, 3, none⟩ = some x.L := (show Blk W x.g 35 #[x.a0, x.a1, x.D, x.L] from hNd 9 (by kernel_rfl)).cell 3
      (unfold Oper.wp; rw [show (execOp a.eval _).run Try.prog W = .ok (.value (x.L)) W from by simp [execOp, go_sem, e1, c0]]; exact ⟨_, rfl, rfl, .inl (Ext.refl _)⟩)
    | 6, ho =>
      injection ho with ho
      subst ho
      have hsz2 := Nat.le_trans hM hT.size
      simp [Oper.wp, execOp, go_sem]
      exact ⟨_, rfl, ⟨_, rfl, hsz2, Blk.new _ _ _⟩, .inl ((Ext.refl _).alloc _)⟩
    | 7, ho =>
      injection ho with ho
      subst ho
      have e1 : a.tmps[70]?.getD undef = x.L := slot_of (hdep ⟨5, .data⟩ (by simp) (by kernel_rfl))
      obtain ⟨gn, hg1, hg2, hg3⟩ := hdep ⟨6, .data⟩ (by simp) (by kernel_rfl)
      have e2 : a.tmps[71]?.getD undef = .slice (some ⟨gn, 0, none⟩) 1 1 := slot_of hg1
      have hown : W.ownsRow w.heap.size 5 1 x.L x.k (u8s (fun _ => 200) x.k) := hB ▸ hNi
      refine wp_append_w w (hEx W hT) infoU8 (.tmp 70) (.tmp 71) rfl x.L x.k (u8s (fun _ => 200) x.k) (by simpa [Act.eval] using e1) hown gn 1 [.int .u8 200] (by simpa [Act.eval] using e2) hg3 rfl (by intro u hu; simp only [List.mem_cons, List.not_mem_nil, or_false] at hu; subst hu; rfl) (by have := hok.k; omega) (by decide) ?_
      intro A c W2 hE2 ho2 hg2 ha2
      have hap : x.Ap x.L W W2 := ⟨hg2, hok.l, own_c5 hown⟩
      refine ⟨_, rfl, ⟨⟨A, c, rfl⟩, by rw [hB, u8s_succ]; exact ho2, ha2.imp id fun h => ⟨_, h, Nat.le_trans hM hT.size⟩⟩, .inr ⟨hap.t (.inr rfl), ?_, ?_⟩⟩
      · intro j hj hn
        exact match j, hj, hn with
        | 0, _, _ => trivial
        | 1, _, _ => trivial
        | 2, _, _ => trivial
        | 3, hj, hn => hap.own hn (sep_symm hok.dl)
        | 4, _, _ => trivial
        | 5, _, _ => trivial
        | 6, _, _ => trivial
        | 7, hj, hn => absurd rfl hj
        | 8, _, _ => trivial
        | 9, hj, hn => hap.blk hn (by decide)
        | j + 10, _, _ => trivial
      · intro j v hj hd hv
        exact match j, hj, hd, hv with
        | 0, hj, hd, hv => hv
        | 1, hj, hd, hv => hv
        | 2, hj, hd, hv => hap.bs hv
        | 3, hj, hd, hv => hap.new (sep_symm hok.dl) hv
        | 4, hj, hd, hv => hv
        | 5, hj, hd, hv => hv
        | 6, hj, hd, hv => hap.bs hv
        | 7, hj, hd, hv => absurd rfl hj
        | 8, hj, hd, hv => hv
        | 9, hj, hd, hv => absurd (hd.symm.trans (show depB _ 9 7 = true by kernel_rfl)) (by simp)
        | 10, hj, hd, hv => hv
        | 11, hj, hd, hv => absurd (hd.symm.trans (show depB _ 11 7 = true by kernel_rfl)) (by simp)
        | j + 12, _, _, _ => trivial
    | 8, ho =>
      injection ho with ho
      subst ho
      have e1 : a.tmps[17]?.getD undef = .pointer (some ⟨x.g, 0, none⟩) := slot_of ((hfrm 17 (frm_of 17 (by kernel_rfl))).trans h17)
      (unfold Oper.wp; rw [show (execOp a.eval _).run Try.prog W = .ok (.value (.pointer (some ⟨x.g, 2, none⟩))) W from by simp [execOp, go_sem, e1]]; exact ⟨_, rfl, rfl, .inl (Ext.refl _)⟩)
    | 9, ho =>
      injection ho with ho
      subst ho
      have e1 : a.tmps[73]?.getD undef = .pointer (some ⟨x.g, 2, none⟩) := slot_of (hdep ⟨8, .data⟩ (by simp) (by kernel_rfl))
      have hv3 := hdep ⟨3, .data⟩ (by simp) (by kernel_rfl)
      obtain ⟨⟨A, c, hvv⟩, ho3, hal⟩ := hv3
      have e2 : a.tmps[68]?.getD undef = .slice A (x.k + 1) c := slot_of hvv
      have hb : Blk W x.g 35 #[x.a0, x.a1, x.D, x.L] := hNi
      have c0 : W.cell? ⟨x.g, 2, none⟩ = some x.D := hb.cell 2
      have f0 := hb.frozen
      unfold Oper.wp
      rw [show (execOp a.eval _).run Try.prog W = .ok .skip (W.setCell ⟨x.g, 2, none⟩ (.slice A (x.k + 1) c)) from by simp [execOp, go_sem, e1, e2, c0, f0]]
      have hn3 : x.New 40 x.D (.slice A (x.k + 1) c) W := ⟨⟨A, c, rfl⟩, hvv ▸ ho3, hvv ▸ hal⟩
      refine ⟨undef, rfl, ⟨_, x.L, set_new hb 2 _ hn3, hb.set_ 2 _⟩, .inr ⟨set_t 2 _, ?_, ?_⟩⟩
      · intro j hj hn
        exact match j, hj, hn with
        | 0, _, _ => trivial
        | 1, _, _ => trivial
        | 2, _, _ => trivial
        | 3, hj, hn => own_set_blk hn hb (by decide) 2 _
        | 4, _, _ => trivial
        | 5, _, _ => trivial
        | 6, _, _ => trivial
        | 7, hj, hn => own_set_blk hn hb (by decide) 2 _
        | 8, _, _ => trivial
        | 9, hj, hn => absurd rfl hj
        | j + 10, _, _ => trivial
      · intro j v hj hd hv
        exact match j, hj, hd, hv with
        | 0, hj, hd, hv => hv
        | 1, hj, hd, hv => hv
        | 2, hj, hd, hv => set_bs hb 2 _ hv
        | 3, hj, hd, hv => set_new hb 2 _ hv
        | 4, hj, hd, hv => hv
        | 5, hj, hd, hv => hv
        | 6, hj, hd, hv => set_bs hb 2 _ hv
        | 7, hj, hd, hv => set_new hb 2 _ hv
        | 8, hj, hd, hv => hv
        | 9, hj, hd, hv => absurd rfl hj
        | 10, hj, hd, hv => hv
        | 11, hj, hd, hv => absurd (hd.symm.trans (show depB _ 11 9 = true by kernel_rfl)) (by simp)
        | j + 12, _, _, _ => trivial
    | 10, ho =>
      injection ho with ho
      subst ho
      have e1 : a.tmps[17]?.getD undef = .pointer (some ⟨x.g, 0, none⟩) := slot_of ((hfrm 17 (frm_of 17 (by kernel_rfl))).trans h17)
      (unfold Oper.wp; rw [show (execOp a.eval _).run Try.prog W = .ok (.value (.pointer (some ⟨x.g, 3, none⟩))) W from by simp [execOp, go_sem, e1]]; exact ⟨_, rfl, rfl, .inl (Ext.refl _)⟩)
    | 11, ho =>
      injection ho with ho
      subst ho
      have e1 : a.tmps[74]?.getD undef = .pointer (some ⟨x.g, 3, none⟩) := slot_of (hdep ⟨10, .data⟩ (by simp) (by kernel_rfl))
      have hv7 := hdep ⟨7, .data⟩ (by simp) (by kernel_rfl)
      obtain ⟨v3, u, hn3, hb⟩ := hdep ⟨9, .chain⟩ (by simp) (by kernel_rfl)
      obtain ⟨⟨A, c, hvv⟩, ho7, hal⟩ := hv7
      have e2 : a.tmps[72]?.getD undef = .slice A (x.k + 1) c := slot_of hvv
      have c0 : W.cell? ⟨x.g, 3, none⟩ = some u := hb.cell 3
      have f0 := hb.frozen
      unfold Oper.wp
      rw [show (execOp a.eval _).run Try.prog W = .ok .skip (W.setCell ⟨x.g, 3, none⟩ (.slice A (x.k + 1) c)) from by simp [execOp, go_sem, e1, e2, c0, f0]]
      have hn7 : x.New 200 x.L (.slice A (x.k + 1) c) W := ⟨⟨A, c, rfl⟩, hvv ▸ ho7, hvv ▸ hal⟩
      refine ⟨undef, rfl, ⟨v3, _, set_new hb 3 _ hn3, set_new hb 3 _ hn7, hb.set_ 3 _⟩, .inr ⟨set_t 3 _, ?_, ?_⟩⟩
      · intro j hj hn
        exact match j, hj, hn with
        | 0, _, _ => trivial
        | 1, _, _ => trivial
        | 2, _, _ => trivial
        | 3, hj, hn => own_set_blk hn hb (by decide) 3 _
        | 4, _, _ => trivial
        | 5, _, _ => trivial
        | 6, _, _ => trivial
        | 7, hj, hn => own_set_blk hn hb (by decide) 3 _
        | 8, _, _ => trivial
        | 9, hj, hn => (by obtain ⟨A3, c3, e3⟩ := hn3.1; have e := blk_inj hn hb; injection e with _ e; injection e with _ e; injection e with e _; exact absurd (e.trans e3) (hok.dk A3 c3))
        | j + 10, _, _ => trivial
      · intro j v hj hd hv
        exact match j, hj, hd, hv with
        | 0, hj, hd, hv => hv
        | 1, hj, hd, hv => hv
        | 2, hj, hd, hv => set_bs hb 3 _ hv
        | 3, hj, hd, hv => set_new hb 3 _ hv
        | 4, hj, hd, hv => hv
        | 5, hj, hd, hv => hv
        | 6, hj, hd, hv => set_bs hb 3 _ hv
        | 7, hj, hd, hv => set_new hb 3 _ hv
        | 8, hj, hd, hv => hv
        | 9, hj, hd, hv => ⟨v3, _, set_new hb 3 _ hn3, hb.set_ 3 _⟩
        | 10, hj, hd, hv => hv
        | 11, hj, hd, hv => absurd rfl hj
        | j + 12, _, _, _ => trivial
    | k + 12, ho => exact absurd (List.getElem?_eq_some_iff.1 ho).1 (by simp)
end Rg
theorem sep_content {W : World} {b k : Nat} {v v' : Value} (h1 : W.ownsRow b 5 1 v (k + 1) (u8s (fun _ => 40) (k + 1))) (h2 : W.ownsRow b 5 1 v' (k + 1) (u8s (fun _ => 200) (k + 1))) : sepV v v' := by
  intro g hg hg'
  rcases h1.2 with ⟨rfl, -⟩ | ⟨g1, cap, cur, rfl, -, hh, -, -, -, ht⟩
  · cases hg
  rcases h2.2 with ⟨rfl, -⟩ | ⟨g2, cap', cur', rfl, -, hh', -, -, -, ht'⟩
  · cases hg'
  injection hg with hg
  injection hg' with hg'
  have e : g1 = g2 := hg.trans hg'.symm
  subst e
  rw [hh] at hh'
  injection hh' with hh'
  injection hh' with hh'
  subst hh'
  have h0 : (u8s (fun _ => 40) (k + 1))[0]? = (u8s (fun _ => 200) (k + 1))[0]? := by rw [← ht, ← ht']
  simp [u8s] at h0
namespace Rg
theorem keepB {x : Rg} {V W : World} (hT : x.T V W) {b m n : Nat} {xs ys : List Value} (hD : V.ownsRow m 5 1 x.D n xs) (hL : V.ownsRow m 5 1 x.L n ys) {t : TypeId} {cs : Array Value} (hb : Blk V b t cs) (ht : t ≠ 5) (hM : b < x.M) (hg : b ≠ x.g) : Blk W b t cs := by
  have no : ∀ {v : Value} {zs : List Value}, V.ownsRow m 5 1 v n zs → v.ownBlock ≠ some b := fun h e => by
    obtain ⟨cur, hc⟩ := own_c5 h b e
    unfold Blk at hb
    rw [hb] at hc
    injection hc with hc
    injection hc with _ hc
    exact ht hc
  exact (hT.block b hb.lt hM hg (no hD) (no hL)).trans hb
theorem keepO {x : Rg} {V W : World} (hT : x.T V W) {b n : Nat} {v : Value} {xs cs : List Value} (hg : Blk V x.g 35 cs.toArray) (ho : V.ownsRow b 5 1 v n xs) (hM : V.heap.size ≤ x.M) (hd : sepV v x.D) (hl : sepV v x.L) : W.ownsRow b 5 1 v n xs := by
  refine ⟨ho.1, ?_⟩
  rcases ho.2 with h2 | ⟨k, cap, cur, rfl, hb, hh, q⟩
  · exact .inl h2
  have hlt := (Array.getElem?_eq_some_iff.1 hh).1
  refine .inr ⟨k, cap, cur, rfl, hb, (hT.block k hlt (Nat.lt_of_lt_of_le hlt hM) (fun e => ?_) (hd k rfl) (hl k rfl)).trans hh, q⟩
  subst e
  unfold Blk at hg
  rw [hg] at hh
  injection hh with hh
  injection hh with _ hh
  cases hh
theorem newSep {x : Rg} {V W : World} {b n : Nat} {v D v3 : Value} {xs : List Value} {f : Int} (ho : V.ownsRow b 5 1 v n xs) (hM : V.heap.size ≤ x.M) (hs : sepV v D) (h : x.New f D v3 W) : sepV v v3 := by
  intro g hg hv
  rcases h.2.2 with e | ⟨g', h1, h2⟩
  · exact hs g hg (e ▸ hv)
  · rw [h1] at hv
    injection hv with hv
    have := (ho.lt g hg).2
    omega
end Rg
end Go.Proofs.Ytchplmenkdghcaa
