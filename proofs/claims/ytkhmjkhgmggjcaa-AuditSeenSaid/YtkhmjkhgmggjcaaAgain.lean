/- again: all links of a log made again. -/
import Derived.Test.YtkhmjkhgmggjcaaPure4
import Derived.Test.YtkhmjkhgmggjcaaAlive
namespace Go.Proofs.Ytkhmjkhgmggjcaa
open Go.RowKit

def relink (x : E) (k : Int) : E := ⟨x.time, x.kind, x.person, x.detail, x.salt, x.seal_, k⟩
theorem again_snoc (l : List E) (x : E) (a : Int) : againL a (l ++ [x]) = againL a l ++ [relink x (linkI (lnk a l) x)] := by
  rw [again_append]; rfl
theorem lnk_snoc (l : List E) (x : E) (a : Int) : lnk a (l ++ [x]) = linkI (lnk a l) x := by rw [lnk_append]; rfl

/-- the block of a slice of one's own lies in the world -/
theorem own_lt {w : World} {base : Nat} {e : TypeId} {sz n c : Nat} {A : Option Addr} {xs : List Value} (h : w.ownsRow base e sz (.slice A n c) n xs) : ∀ g, A = some ⟨g, 0, none⟩ → g < w.heap.size := by
  intro g hA
  rcases h.2 with ⟨h, h'⟩ | ⟨g', cap', cur, h, _, hh, _⟩
  · subst hA; cases h
  · subst hA
    obtain ⟨rfl, -⟩ : g = g' ∧ c = cap' := by simpa using h
    exact Blk.lt (t := e) hh
theorem own_other {w : World} {base : Nat} {e : TypeId} {sz n c N : Nat} {A : Option Addr} {xs : List Value} (h : w.ownsRow base e sz (.slice A n c) n xs) (hA : ∀ g, A = some ⟨g, 0, none⟩ → g < N) (u : Value) {j : Nat} :
    (w.setCell ⟨N, j, none⟩ u).ownsRow base e sz (.slice A n c) n xs := by
  refine ⟨h.1, ?_⟩
  rcases h.2 with h2 | ⟨g', cap, cur, hv, hb, hh, r⟩
  · exact .inl h2
  · have hA' : A = some ⟨g', 0, none⟩ := by injection hv
    have := hA g' hA'
    exact .inr ⟨g', cap, cur, hv, hb, Blk.far (t := e) (p := ⟨N, j, none⟩) hh (by show g' ≠ N; omega) u, r⟩

set_option maxRecDepth 100000 in
set_option maxHeartbeats 1000000 in
theorem again_any (A : Option Addr) (c : Nat) (l : List E) (w : World) (hl : Log w A l) (hn : l.length ≤ 100) :
    Calls Try.prog 41 #[.slice A l.length c] w (RetS 54 7 l.length (flat (againL 0 l)) w) := by
  have HL := Lib.hid hl
  clear hl
  go_enter Try.func41, Try.ntmps41
  go_wp2_with fail
  go_loopw [3, 4, 9] (fun out lk i wr => ∃ (k : Nat) (B : Option Addr) (d : Nat) (z : World), k ≤ l.length ∧ i = .int .i64 k ∧ lk = .int .u64 (lnk 0 (l.take k)) ∧ out = .slice B k d ∧ wr = ext w z ∧ (ext w z).ownsRow w.heap.size 54 7 (.slice B k d) k (flat (againL 0 (l.take k)))) (fun _ _ i _ => l.length - (intOf i).toNat)
  case atStart => exact ⟨0, none, 0, w, Nat.zero_le _, rfl, rfl, rfl, (ext_of (Ext.refl w)).symm, by simpa [againL, flat] using own_nil _ _ _ _⟩
  case round =>
    obtain ⟨k, B, d, z, hk, rfl, rfl, rfl, rfl, hown⟩ := hrel
    by_cases hlt : k < l.length
    · rcases HL.out with h | ⟨b, off, rfl, hb, hc⟩
      · subst h; simp at hlt
      have hbo := Old.mk hb
      obtain ⟨c0, c1, c2, c3, c4, c5, c6⟩ := hc k l[k] (List.getElem?_eq_getElem hlt)
      have HT := Lib.hid (List.take_succ_eq_append_getElem hlt)
      have HO := Lib.hid hown
      clear hc hb hown
      generalize l[k] = x at *
      go_wp2_with fail
      refine wp_region_ext (by kernel_rfl) (by kernel_rfl) ?_
      repeat (go_big_quiet_step ((go_at_call 61; exact Calls.quiet_same (mix_any _ _ _))))
      refine wpQuiet_nil ?_
      rintro _ ⟨z2, rfl⟩
      have HB := Lib.hid ((Blk.new (ext w z) 54 #[.int .i64 x.time, .int .i64 x.kind, .int .i64 x.person, .int .u64 x.detail, .int .u64 x.salt, .int .u64 x.seal_, .int .u64 x.link]).ext z2)
      have HE := Lib.hid ((((Ext.refl w).ext z).alloc (.cells #[.int .i64 x.time, .int .i64 x.kind, .int .i64 x.person, .int .u64 x.detail, .int .u64 x.salt, .int .u64 x.seal_, .int .u64 x.link] 54)).ext z2)
      have HO2 := Lib.hid (own_grow HO.out ((((Ext.refl (ext w z)).alloc (.cells #[.int .i64 x.time, .int .i64 x.kind, .int .i64 x.person, .int .u64 x.detail, .int .u64 x.salt, .int .u64 x.seal_, .int .u64 x.link] 54)).ext z2)))
      have hN : w.heap.size ≤ (ext w z).heap.size := ext_size w z
      have HF := Lib.hid (own_lt HO.out)
      generalize hlk : mixI (mixI (mixI (lnk 0 (l.take k)) (IntKind.u64.wrap x.time)) (IntKind.u64.wrap x.kind)) x.seal_ = lk
      have HLK : Hid (linkI (lnk 0 (l.take k)) x = lk) := Lib.hid hlk
      clear HO hlk
      generalize ext ((ext w z).alloc (.cells #[.int .i64 x.time, .int .i64 x.kind, .int .i64 x.person, .int .u64 x.detail, .int .u64 x.salt, .int .u64 x.seal_, .int .u64 x.link] 54)) z2 = W3 at *
      generalize (ext w z).heap.size = N at *
      have h0 := HB.out.cell 0
      have h1 := HB.out.cell 1
      have h2 := HB.out.cell 2
      have h3 := HB.out.cell 3
      have h4 := HB.out.cell 4
      have h5 := HB.out.cell 5
      have h6 := HB.out.cell 6
      have hf := HB.out.frozen
      simp only [List.getElem?_toArray, List.getElem?_cons_zero, List.getElem?_cons_succ] at h0 h1 h2 h3 h4 h5 h6
      have HE4 := Lib.hid (HE.out.setCell (p := ⟨N, 6, none⟩) hN (.int .u64 lk))
      have HO4 := Lib.hid (own_other HO2.out (N := N) (j := 6) HF.out (.int .u64 lk))
      go_wp2_with (at_builtin; refine wpList_append_ext rfl w (by exact HE4.out.alloc _) infoE (.tmp 27) (.tmp 29) rfl _ k (flat (againL 0 (l.take k))) rfl (by exact own_grow HO4.out ((Ext.refl _).alloc _)) _ 1 1 (relink x lk).cellsL rfl (Slc.of_blk (cs := #[.int .i64 x.time, .int .i64 x.kind, .int .i64 x.person, .int .u64 x.detail, .int .u64 x.salt, .int .u64 x.seal_, .int .u64 lk]) (t := 54) (Blk.new' _ _ _ _ (by simp)) rfl) (by simp [E.cellsL, Value.oneCell']) (by omega) (by omega) ?_; intro B' d' z3 hown2)
      go_roundw
      case rel =>
        refine ⟨k + 1, B', d', z3, by omega, by go_num, ?_, rfl, rfl, ?_⟩
        · rw [HT.out, lnk_snoc, HLK.out]
        · rw [HT.out, again_snoc, flat_append, flat_one, HLK.out]; exact hown2
      case measure => simp [intOf]; omega
    · have hkl : k = l.length := by omega
      subst hkl
      rw [List.take_of_length_le (Nat.le_refl _)] at hown
      go_wp2_with fail
      go_ret
      exact ⟨B, d, rfl, hown, Ext.ext_self _ _⟩
end Go.Proofs.Ytkhmjkhgmggjcaa
