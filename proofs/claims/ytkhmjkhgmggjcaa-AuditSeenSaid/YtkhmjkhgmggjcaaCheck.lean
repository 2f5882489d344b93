/- audit.Check: what it returns. -/
import Derived.Test.YtkhmjkhgmggjcaaLeaf
namespace Go.Proofs.Ytkhmjkhgmggjcaa
open Go.RowKit

def chkB : E → List E → Bool
  | _, [] => true
  | p, x :: r => fitsB x && !decide (x.time < p.time) && (x.link == linkI p.link x) && chkB x r
def checkI (l : List E) : Int := if decide (l.length ≤ 60) && chkB E.zero l then 0 else 110

/-- The cells of an entry. -/
abbrev E.cells (x : E) : Array Value := #[.int .i64 x.time, .int .i64 x.kind, .int .i64 x.person, .int .u64 x.detail, .int .u64 x.salt, .int .u64 x.seal_, .int .u64 x.link]

/-- A slice that starts at A has the entries l. -/
def Log (w : World) (A : Option Addr) (l : List E) : Prop :=
  l = [] ∨ ∃ b off, A = some ⟨b, off, none⟩ ∧ b < w.heap.size ∧ ∀ k x, l[k]? = some x →
    w.cell? ⟨b, off + k * 7, none⟩ = some (.int .i64 x.time) ∧ w.cell? ⟨b, off + k * 7 + 1, none⟩ = some (.int .i64 x.kind) ∧ w.cell? ⟨b, off + k * 7 + 2, none⟩ = some (.int .i64 x.person) ∧
    w.cell? ⟨b, off + k * 7 + 3, none⟩ = some (.int .u64 x.detail) ∧ w.cell? ⟨b, off + k * 7 + 4, none⟩ = some (.int .u64 x.salt) ∧ w.cell? ⟨b, off + k * 7 + 5, none⟩ = some (.int .u64 x.seal_) ∧ w.cell? ⟨b, off + k * 7 + 6, none⟩ = some (.int .u64 x.link)

set_option maxHeartbeats 1000000 in
theorem check_any (A : Option Addr) (c : Nat) (l : List E) (w : World) (hl : Log w A l) (hn : l.length ≤ 100) :
    Calls Try.prog 30 #[.slice A l.length c] w fun e w' => e = .returned (.int .i64 (checkI l)) ∧ Ext w w' := by
  by_cases h60 : l.length ≤ 60
  · go_enter Try.func30, Try.ntmps30
    go_wp2_with fail
    go_loopw [11] (fun i wr => ∃ (k : Nat) (z : World) (p : E), k ≤ l.length ∧ i = .int .i64 k ∧ wr = ext w z ∧ chkB E.zero l = chkB p (l.drop k) ∧ Blk wr w.heap.size 54 p.cells)
      (fun i _ => l.length - (intOf i).toNat)
    case atStart => exact ⟨0, _, E.zero, Nat.zero_le _, rfl, (ext_of ((Ext.refl w).alloc _)).symm, rfl, Blk.new _ _ _⟩
    case round =>
      obtain ⟨k, z, p, hk, rfl, rfl, hp, hB⟩ := hrel
      have hz := Old.mk hB.lt
      have h0 := hB.cell 0
      have h1 := hB.cell 1
      have h2 := hB.cell 2
      have h3 := hB.cell 3
      have h4 := hB.cell 4
      have h5 := hB.cell 5
      have h6 := hB.cell 6
      have hF := hB.frozen
      simp only [E.cells, List.getElem?_toArray, List.getElem?_cons_zero, List.getElem?_cons_succ] at h0 h1 h2 h3 h4 h5 h6
      have HB := Lib.hid hB; clear hB
      have Hp := Lib.hid hp; clear hp
      by_cases hlt : k < l.length
      · rcases hl with rfl | ⟨b, off, rfl, hb, hc⟩
        · simp at hlt
        · have hb' := Old.mk hb
          obtain ⟨c0, c1, c2, c3, c4, c5, c6⟩ := hc k l[k] (List.getElem?_eq_getElem hlt)
          clear hc
          have hd : l.drop k = l[k] :: l.drop (k + 1) := List.drop_eq_getElem_cons hlt
          generalize l[k] = x at *
          have Hd := Lib.hid (Hp.out.trans (by rw [hd])); clear hd Hp
          by_cases hf : fitsB x = true ∧ ¬ x.time < p.time ∧ x.link = linkI p.link x
          · obtain ⟨hf, ht, hk⟩ := hf
            have Hv := Lib.hid (show chkB p (x :: l.drop (k + 1)) = chkB x (l.drop (k + 1)) by simp [chkB, hf, ht, ← hk])
            have ht' : decide (x.time < p.time) = false := by simpa using ht
            have hk' : (x.link != linkI p.link x) = false := by simpa using hk
            clear hk
            go_wp2_with fail
            refine wp_region_ext (by kernel_rfl) (by kernel_rfl) ?_
            repeat (go_big_quiet_step ((first | (go_at_call 56; exact Calls.quiet_ext (fits_any x _)) | (go_at_call 53; exact Calls.quiet_ext (linked_any _ x _)))))
            refine wpQuiet_nil ?_
            rintro _ ⟨z2, rfl⟩
            go_wp2_with fail
            go_roundw
            case rel =>
              refine ⟨k + 1, _, x, by omega, by go_num, (ext_of ?_).symm, Hd.out.trans Hv.out, ?_⟩
              · exact ((((((((((Ext.refl w).ext z).alloc _).ext z2).setCell (by simp) _).setCell (by simp) _).setCell (by simp) _).setCell (by simp) _).setCell (by simp) _).setCell (by simp) _).setCell (by simp) _
              · exact ((((((((HB.out.alloc _).ext z2).set_ 0 _).set_ 1 _).set_ 2 _).set_ 3 _).set_ 4 _).set_ 5 _).set_ 6 _
            case measure => simp [intOf]; omega
          · have Hv := Lib.hid (show checkI l = 110 by
              have : chkB E.zero l = false := by
                rw [Hd.out]; simp only [chkB, Bool.and_eq_false_iff, Bool.not_eq_false', decide_eq_true_eq, beq_eq_false_iff_ne]
                by_cases h1 : fitsB x = true <;> by_cases h2 : x.time < p.time <;> by_cases h3 : x.link = linkI p.link x <;> simp_all
              simp [checkI, this])
            have hf' : fitsB x = false ∨ (fitsB x = true ∧ decide (x.time < p.time) = true) ∨ (fitsB x = true ∧ decide (x.time < p.time) = false ∧ (x.link != linkI p.link x) = true) := by
              by_cases h1 : fitsB x = true <;> by_cases h2 : x.time < p.time <;> by_cases h3 : x.link = linkI p.link x <;> simp_all
            clear hf
            rcases hf' with hf | ⟨hf, ht'⟩ | ⟨hf, ht', hk'⟩
            all_goals
              go_wp2_with fail
              refine wp_region_ext (by kernel_rfl) (by kernel_rfl) ?_
              repeat (go_big_quiet_step ((first | (go_at_call 56; exact Calls.quiet_ext (fits_any x _)) | (go_at_call 53; exact Calls.quiet_ext (linked_any _ x _)))))
              refine wpQuiet_nil ?_
              rintro _ ⟨z2, rfl⟩
              go_wp2_with fail
              go_ret
              exact ⟨ret_of (by rw [Hv.out]; rfl), (((Ext.refl w).ext z).alloc _).ext z2⟩
      · have Hv := Lib.hid (show checkI l = 0 by
          have : chkB E.zero l = true := by rw [Hp.out, List.drop_of_length_le (by omega)]; simp [chkB]
          simp [checkI, this, h60])
        go_wp2_with fail
        go_ret
        exact ⟨ret_of (by rw [Hv.out]; rfl), (Ext.refl w).ext z⟩
  · have Hv := Lib.hid (show checkI l = 110 by simp [checkI, h60])
    go_enter Try.func30, Try.ntmps30
    go_wp2_with fail
    go_ret
    exact ⟨ret_of (by rw [Hv.out]; rfl), Ext.refl w⟩
end Go.Proofs.Ytkhmjkhgmggjcaa
