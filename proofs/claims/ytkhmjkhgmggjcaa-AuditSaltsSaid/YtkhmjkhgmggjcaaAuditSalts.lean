/- Proved: for all numbers seal, detail and salt, the call of whorllaw11.AuditSalts returns true. No conditions. -/
import Derived.Test.YtkhmjkhgmggjcaaAlive
import Derived.Test.YtkhmjkhgmggjcaaLogs
namespace Go.Proofs.Ytkhmjkhgmggjcaa
open Go.Joins Go.ChangeShapes Go.WideShapes Go.RowKit Go.Deep Go.ChangeAt

theorem xor_back (a d : Int) (h0 : 0 ≤ a) (h1 : a < 18446744073709551616) (h2 : 0 ≤ d) (h3 : d < 18446744073709551616) : bits .xor .u64 d (bits .xor .u64 a d) = a := by
  have hab : a.toNat ^^^ d.toNat < 18446744073709551616 := Nat.xor_lt_two_pow (n := 64) (by omega) (by omega)
  rw [u64_xor a d h0 h1 h2 h3, u64_xor d _ h2 h3 (by omega) (by omega), Int.toNat_natCast, Nat.xor_comm a.toNat d.toNat, ← Nat.xor_assoc, Nat.xor_self, Nat.zero_xor]
  omega
theorem xor_one (a d s : Int) (h0 : 0 ≤ a) (h1 : a < 18446744073709551616) (h2 : 0 ≤ d) (h3 : d < 18446744073709551616) (h4 : 0 ≤ s) (h5 : s < 18446744073709551616) :
    (bits .xor .u64 d s == a) = (s == bits .xor .u64 a d) := by
  rw [u64_xor a d h0 h1 h2 h3, u64_xor d s h2 h3 h4 h5, Bool.eq_iff_iff]
  simp only [beq_iff_eq]
  have : (d.toNat ^^^ s.toNat = a.toNat) ↔ (s.toNat = a.toNat ^^^ d.toNat) := by
    constructor
    · intro h; rw [← h, Nat.xor_comm, ← Nat.xor_assoc, Nat.xor_self, Nat.zero_xor]
    · intro h; rw [h, Nat.xor_comm a.toNat, ← Nat.xor_assoc, Nat.xor_self, Nat.zero_xor]
  omega
theorem write_first (d s : Int) : writeL [] 0 0 0 d s = [newE [] 0 0 0 d s] ∧ writeI [] 0 0 0 = 0 := ⟨rfl, rfl⟩
theorem seal_first (d s : Int) : (newE [] 0 0 0 d s).seal_ = bits .xor .u64 d s := rfl

/-- The cells of a log of one entry. -/
theorem cells1 {w : World} {A : Option Addr} {x : E} (h : Log w A [x]) : ∃ b off, A = some ⟨b, off, none⟩ ∧ b < w.heap.size ∧ w.cell? ⟨b, off + 5, none⟩ = some (.int .u64 x.seal_) := by
  rcases h with h | ⟨b, off, rfl, hb, hc⟩
  · cases h
  · have h0 := hc 0 x rfl
    simp only [Nat.zero_mul, Nat.add_zero] at h0
    exact ⟨b, off, rfl, hb, h0.2.2.2.2.2.1⟩

set_option maxRecDepth 100000 in
set_option maxHeartbeats 2000000 in
theorem auditSalts_walk (a d s : Int) (w : World) (h0 : 0 ≤ a) (h1 : a < 18446744073709551616) (h2 : 0 ≤ d) (h3 : d < 18446744073709551616) (h4 : 0 ≤ s) (h5 : s < 18446744073709551616) :
    Calls Try.prog 7 #[.int .u64 a, .int .u64 d, .int .u64 s] w fun e w' => e = .returned (.bool true) ∧ Ext w w' := by
  have C1 := Lib.hid (fun w => (write_first d (bits .xor .u64 a d)).1 ▸ (write_first d (bits .xor .u64 a d)).2 ▸ write_any none 0 [] 0 0 0 d (bits .xor .u64 a d) w (.inl rfl) (by decide))
  have C2 := Lib.hid (fun w => (write_first d s).1 ▸ (write_first d s).2 ▸ write_any none 0 [] 0 0 0 d s w (.inl rfl) (by decide))
  have hs1 : (newE [] 0 0 0 d (bits .xor .u64 a d)).seal_ = a := by rw [seal_first, xor_back a d h0 h1 h2 h3]
  have hs2 := seal_first d s
  have hx := xor_one a d s h0 h1 h2 h3 h4 h5
  generalize newE [] 0 0 0 d (bits .xor .u64 a d) = x at *
  generalize newE [] 0 0 0 d s = y at *
  have HS1 := Lib.hid hs1
  have HS2 := Lib.hid hs2
  have HX := Lib.hid hx
  clear hs1 hs2 hx
  go_enter Try.func7, Try.ntmps7
  go_wp2_with (go_at_call 40; refine Calls.ext (alive_any _) fun z1 => ?_)
  refine Calls.same (salt_any a d _) ?_
  go_wp2_with fail
  refine calls_slice2 (C1.out _) fun A1 c1 z2 hown1 => ?_
  obtain ⟨b, off, rfl, hb, hc⟩ := cells1 (Slc.of_own (n := [x].length) hown1).log
  rw [HS1.out] at hc
  have hbo := Old.mk hb
  clear hown1 hb
  go_wp2_with fail
  refine calls_slice2 (C2.out _) fun A2 c2 z3 hown2 => ?_
  obtain ⟨b2, off2, rfl, hb2, hc2⟩ := cells1 (Slc.of_own (n := [y].length) hown2).log
  rw [HS2.out] at hc2
  have hbo2 := Old.mk hb2
  clear hown2 hb2
  have hbo3 : Nonempty (Old b (ext (ext (ext w z1) z2) z3)) := inferInstance
  have hc3 : (ext (ext (ext w z1) z2) z3).cell? ⟨b, off + 5, none⟩ = some (.int .u64 a) := ((Ext.ext_self _ z3).cell (old_lt hbo)).trans hc
  have HE := Lib.hid ((((Ext.refl w).ext z1).ext z2).ext z3)
  generalize ext (ext (ext w z1) z2) z3 = W at *
  clear hc hbo
  go_wp2_with fail
  refine wp_region_ext (by kernel_rfl) (by kernel_rfl) ?_
  repeat (go_big_quiet_step ((go_at_call 26; exact Calls.quiet_same (salt_any _ _ _))))
  refine wpQuiet_nil ?_
  rintro _ ⟨z5, rfl⟩
  go_wp2_with fail
  go_ret
  refine ⟨ret_of ?_, HE.out.ext _⟩
  show Value.bool ((bits .xor .u64 d s == a) == (s == bits .xor .u64 a d)) = .bool true
  rw [HX.out]; simp

set_option maxRecDepth 100000 in
theorem auditSalts_lifted (os : Os) (started : os.Started) (H : Type) (enc : TypeId × Value → H) :
    ReturnsInHanded {} Try.checked os 7 .any (Rows.auditSaltsSpec.pre6 enc Try.prog Try.f7 Rows.auditSaltsRow.domain false) (Rows.auditSaltsSpec.post enc Try.prog Try.f7 false true false false) := by
  refine returnsInHanded_of_change (C := Try.checked) own started (by kernel_rfl) Try.func7
    (ChangeSpec.witness6 (enc := enc) (C := Try.checked) false ⟨#[], #[.int .u64 0, .int .u64 0, .int .u64 0], []⟩ 8 (by kernel_rfl) (by kernel_rfl) (by kernel_rfl) (by kernel_rfl)) ?_
  intro W base args ds gs before hval0 hW hcnd _
  have hval : ∀ (j : Nat) t v, Try.f7.params[j]? = some t → args[j]? = some v → Value.okWide Try.prog W .any base t v := hval0
  have hW' := hW
  obtain ⟨p, q, hA0, hV, rfl, hfz, hnd⟩ := hW
  have hA : DataW.TrodAll enc Try.prog W 0 (fun _ => true) true Try.f7.params.toList args.toList ds p := hA0
  rw [Try.params7] at hA hval
  obtain ⟨v0, vs0, d0, ds0, p0, q0, hargs, rfl, rfl, h0, r0⟩ := trodAll_cons hA
  obtain ⟨v1, vs1, d1, ds1, p1, q1, rfl, rfl, rfl, h1, r1⟩ := trodAll_cons r0
  obtain ⟨v2, vs2, d2, ds2, p2, q2, rfl, rfl, rfl, h2, r2⟩ := trodAll_cons r1
  obtain ⟨rfl, rfl, rfl⟩ := trodAll_nil r2
  obtain rfl : args = #[v0, v1, v2] := by cases args; simp_all
  obtain ⟨rfl, rfl⟩ := trodVars_none hV
  have k0 := h0
  have lt0 : ∀ x ∈ p0, x.block < W.heap.size := by obtain ⟨m, hm⟩ := k0; exact DataW.trod_lt m _ _ _ hm
  obtain ⟨a0, rfl, _, _, w0⟩ := open_int Try.underlying24 (hval 0 24 v0 rfl rfl) h0
  have k1 := h1
  have lt1 : ∀ x ∈ p1, x.block < W.heap.size := by obtain ⟨m, hm⟩ := k1; exact DataW.trod_lt m _ _ _ hm
  obtain ⟨a1, rfl, _, _, w1⟩ := open_int Try.underlying24 (hval 1 24 v1 rfl rfl) h1
  have k2 := h2
  have lt2 : ∀ x ∈ p2, x.block < W.heap.size := by obtain ⟨m, hm⟩ := k2; exact DataW.trod_lt m _ _ _ hm
  obtain ⟨a2, rfl, _, _, w2⟩ := open_int Try.underlying24 (hval 2 24 v2 rfl rfl) h2
  clear hA0 hval0
  have x0 := wf_u64 w0
  have x1 := wf_u64 w1
  have x2 := wf_u64 w2
  refine (auditSalts_walk a0 a1 a2 W x0.1 x0.2 x1.1 x1.2 x2.1 x2.2).mono fun e W' ⟨he, bel⟩ => ?_
  subst he
  exact ⟨_, rfl, _, _, _, [], _, [], hW', trodAll_mk1 (shut_bool Try.underlying4 _), (trodAll_cons_mk (Below.trod laidOut (by kernel_rfl) (of_decide_eq_true (by kernel_rfl)) k0 bel lt0) (trodAll_cons_mk (Below.trod laidOut (by kernel_rfl) (of_decide_eq_true (by kernel_rfl)) k1 bel lt1) (trodAll_cons_mk (Below.trod laidOut (by kernel_rfl) (of_decide_eq_true (by kernel_rfl)) k2 bel lt2) trodAll_mk0))), rfl, Below.frame bel _, fun h => by cases h⟩

theorem auditSalts_holds : Rows.AuditSaltsSaid :=
  OpenClaim.holds_of_wide 7 Try.f7 rfl rfl rfl rfl rfl rfl rfl ⟨rfl, rfl, rfl, rfl, rfl⟩ rfl rfl rfl rfl rfl (by kernel_rfl) Try.func7 (by kernel_rfl)
    (of_decide_eq_true (by kernel_rfl)) (by unfold Func.isWrapper; first | (rw [if_pos (by decide +kernel)]; kernel_rfl) | (rw [if_neg (by decide +kernel)]; exact ⟨rfl, rfl⟩))
    (fun os started H enc _ => auditSalts_lifted os started H enc)
end Go.Proofs.Ytkhmjkhgmggjcaa
