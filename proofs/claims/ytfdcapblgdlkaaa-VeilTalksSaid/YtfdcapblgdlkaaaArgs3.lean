/- How parties are read. -/
import Derived.Test.YtfdcapblgdlkaaaEq
import Derived.Test.YtfdcapblgdlkaaaArgs
import Derived.Test.YtfdcapblgdlkaaaOpen
import Derived.Test.YtfdcapblgdlkaaaDeal2
namespace Go.Proofs.Ytfdcapblgdlkaaa
open Go.Joins Go.ChangeShapes Go.WideShapes Go.RowKit Go.Deep Go.ChangeAt

theorem wf_u8' {n : Int} (h : (Lit.int .u8 n).wf = true) : 0 ≤ n ∧ n < 256 := by
  simp [Lit.wf, IntKind.min, IntKind.max, IntKind.signed, IntKind.bits] at h; omega
theorem wf_u32' {n : Int} (h : (Lit.int .u32 n).wf = true) : 0 ≤ n ∧ n < 4294967296 := by
  simp [Lit.wf, IntKind.min, IntKind.max, IntKind.signed, IntKind.bits] at h; omega
def pks : List IntKind := List.replicate 31 .u8 ++ List.replicate 31 .u32
theorem pks_u8 (i : Nat) (h : i < 31) : pks[i]? = some .u8 := by
  unfold pks
  rw [List.getElem?_append_left (by simpa using h), List.getElem?_replicate, if_pos h]
theorem pks_u32 (i : Nat) (h : i < 31) : pks[31 + i]? = some .u32 := by
  unfold pks
  rw [List.getElem?_append_right (by simp), List.length_replicate, show 31 + i - 31 = i by omega, List.getElem?_replicate, if_pos h]
theorem zip_at {ks : List IntKind} {ns : List Int} (hl : ns.length = ks.length) (i : Nat) (k : IntKind) (h : ks[i]? = some k) : (List.zipWith Value.int ks ns)[i]? = some (.int k (ns.getD i 0)) := by
  have hi := (List.getElem?_eq_some_iff.1 h).1
  rw [List.getElem?_zipWith, h, List.getElem?_eq_getElem (by omega), List.getD_eq_getElem?_getD, List.getElem?_eq_getElem (by omega)]
  rfl
theorem nth_wf {ks : List IntKind} {ns : List Int} (hl : ns.length = ks.length) (wf : ∀ (i : Nat) k n, ks[i]? = some k → ns[i]? = some n → (Lit.int k n).wf = true) (i : Nat) (k : IntKind) (h : ks[i]? = some k) : (Lit.int k (ns.getD i 0)).wf = true := by
  have hi := (List.getElem?_eq_some_iff.1 h).1
  refine wf i k _ h ?_
  rw [List.getD_eq_getElem?_getD, List.getElem?_eq_getElem (by omega)]
  rfl
theorem pty_cells {ns : List Int} (hl : ns.length = pks.length) (p : Pty) (hm : ∀ i, p.m i = ns.getD i 0) (hs : ∀ i, p.s i = ns.getD (15 + i) 0) (hh : p.sh = ns.getD 30 0) (ht : ∀ i, p.t i = ns.getD (31 + i) 0) : (List.zipWith Value.int pks ns).toArray = p.cells := by
  have hk : pks.length = 62 := rfl
  have hz := p.size
  refine Array.ext_getElem? fun j => ?_
  rw [List.getElem?_toArray]
  rcases Nat.lt_or_ge j 15 with h | h
  · rw [Pty.at_m _ j h, hm]; exact zip_at hl j _ (pks_u8 j (by omega))
  · rcases Nat.lt_or_ge j 30 with h2 | h2
    · obtain ⟨i, rfl⟩ : ∃ i, j = 15 + i := ⟨j - 15, by omega⟩
      rw [Pty.at_s _ i (by omega), hs]; exact zip_at hl _ _ (pks_u8 _ (by omega))
    · rcases Nat.lt_or_ge j 31 with h3 | h3
      · obtain rfl : j = 30 := by omega
        rw [Pty.at_sh, hh]; exact zip_at hl _ _ (pks_u8 _ (by omega))
      · rcases Nat.lt_or_ge j 62 with h4 | h4
        · obtain ⟨i, rfl⟩ : ∃ i, j = 31 + i := ⟨j - 31, by omega⟩
          rw [Pty.at_t _ i (by omega), ht]; exact zip_at hl _ _ (pks_u32 _ (by omega))
        · rw [List.getElem?_eq_none (by simp; omega), Array.getElem?_eq_none (by omega)]
theorem pty_of {ns : List Int} (hl : ns.length = pks.length) (wf : ∀ (i : Nat) k n, pks[i]? = some k → ns[i]? = some n → (Lit.int k n).wf = true) :
    ∃ p : Pty, Value.agg (List.zipWith Value.int pks ns).toArray = p.val ∧ p.ok :=
  ⟨⟨fun i => ns.getD i 0, fun i => ns.getD (15 + i) 0, ns.getD 30 0, fun i => ns.getD (31 + i) 0⟩, congrArg Value.agg (pty_cells hl _ (fun _ => rfl) (fun _ => rfl) rfl (fun _ => rfl)), ⟨fun i hi => wf_u8' (nth_wf hl wf i _ (pks_u8 i (by omega))), fun i hi => wf_u8' (nth_wf hl wf (15 + i) _ (pks_u8 _ (by omega))), wf_u8' (nth_wf hl wf 30 _ (pks_u8 _ (by omega))), fun i hi => wf_u32' (nth_wf hl wf (31 + i) _ (pks_u32 i hi))⟩⟩
end Go.Proofs.Ytfdcapblgdlkaaa
/- How deals are read. -/
namespace Go.Proofs.Ytfdcapblgdlkaaa
open Go.Joins Go.ChangeShapes Go.WideShapes Go.RowKit Go.Deep Go.ChangeAt

def dks : List IntKind := List.replicate 47 .u8 ++ List.replicate 31 .u32
theorem dks_u8 (i : Nat) (h : i < 47) : dks[i]? = some .u8 := by
  unfold dks
  rw [List.getElem?_append_left (by simpa using h), List.getElem?_replicate, if_pos h]
theorem dks_u32 (i : Nat) (h : i < 31) : dks[47 + i]? = some .u32 := by
  unfold dks
  rw [List.getElem?_append_right (by simp), List.length_replicate, show 47 + i - 47 = i by omega, List.getElem?_replicate, if_pos h]
theorem deal_cells {ns : List Int} (hl : ns.length = dks.length) (d : Dl) (ha : ∀ i, d.a i = ns.getD i 0) (hb : ∀ i, d.b i = ns.getD (15 + i) 0) (hu : ∀ i, d.u i = ns.getD (30 + i) 0) (hc : d.rc = ns.getD 45 0) (hs : d.rs = ns.getD 46 0) (ht : ∀ i, d.t i = ns.getD (47 + i) 0) : (List.zipWith Value.int dks ns).toArray = d.cells := by
  have hk : dks.length = 78 := rfl
  have hz := d.size
  refine Array.ext_getElem? fun j => ?_
  rw [List.getElem?_toArray]
  rcases Nat.lt_or_ge j 15 with h | h
  · rw [Dl.at_a _ j h, ha]; exact zip_at hl j _ (dks_u8 j (by omega))
  · rcases Nat.lt_or_ge j 30 with h2 | h2
    · obtain ⟨i, rfl⟩ : ∃ i, j = 15 + i := ⟨j - 15, by omega⟩
      rw [Dl.at_b _ i (by omega), hb]; exact zip_at hl _ _ (dks_u8 _ (by omega))
    · rcases Nat.lt_or_ge j 45 with h3 | h3
      · obtain ⟨i, rfl⟩ : ∃ i, j = 30 + i := ⟨j - 30, by omega⟩
        rw [Dl.at_u _ i (by omega), hu]; exact zip_at hl _ _ (dks_u8 _ (by omega))
      · rcases Nat.lt_or_ge j 46 with h4 | h4
        · obtain rfl : j = 45 := by omega
          rw [Dl.at_rc, hc]; exact zip_at hl _ _ (dks_u8 _ (by omega))
        · rcases Nat.lt_or_ge j 47 with h5 | h5
          · obtain rfl : j = 46 := by omega
            rw [Dl.at_rs, hs]; exact zip_at hl _ _ (dks_u8 _ (by omega))
          · rcases Nat.lt_or_ge j 78 with h6 | h6
            · obtain ⟨i, rfl⟩ : ∃ i, j = 47 + i := ⟨j - 47, by omega⟩
              rw [Dl.at_t _ i (by omega), ht]; exact zip_at hl _ _ (dks_u32 _ (by omega))
            · rw [List.getElem?_eq_none (by simp; omega), Array.getElem?_eq_none (by omega)]
theorem deal_of {ns : List Int} (hl : ns.length = dks.length) (wf : ∀ (i : Nat) k n, dks[i]? = some k → ns[i]? = some n → (Lit.int k n).wf = true) :
    ∃ d : Dl, Value.agg (List.zipWith Value.int dks ns).toArray = d.val ∧ d.ok :=
  ⟨⟨fun i => ns.getD i 0, fun i => ns.getD (15 + i) 0, fun i => ns.getD (30 + i) 0, ns.getD 45 0, ns.getD 46 0, fun i => ns.getD (47 + i) 0⟩, congrArg Value.agg (deal_cells hl _ (fun _ => rfl) (fun _ => rfl) (fun _ => rfl) rfl rfl (fun _ => rfl)), ⟨fun i hi => wf_u8' (nth_wf hl wf i _ (dks_u8 i (by omega))), fun i hi => wf_u8' (nth_wf hl wf (15 + i) _ (dks_u8 _ (by omega))), fun i hi => wf_u8' (nth_wf hl wf (30 + i) _ (dks_u8 _ (by omega))), wf_u8' (nth_wf hl wf 45 _ (dks_u8 _ (by omega))), wf_u8' (nth_wf hl wf 46 _ (dks_u8 _ (by omega))), fun i hi => wf_u32' (nth_wf hl wf (47 + i) _ (dks_u32 i hi))⟩⟩
end Go.Proofs.Ytfdcapblgdlkaaa
