/-
  No cell of these rows narrows 'for every input' (looked for: loops, veiled, ifaces, maps, wideKeys, modest, calm, conditions, laid).
  DERIVED. THE GIVEN ROWS OF THIS SEAT. 14 by the template 'for every input the law returns true; each argument reads behind the call as it read before'; 0 by the template 'total and deterministic' (their statements: YtfdcapblgdlkaaaTotals.lean).
  GIVEN WITH THE SEED: the statements are not yours to turn. If you find one false, say at which input.
  Laid BY PROGRAM, IN A SANDBOX (cutbox-rows.mjs): the forced cells as the released guide's own fill.sh prints them over the translation ad8c2e3613d474eb… (all of the seat's roots in one cut). By AI agents, Wed Nov 11 2026. No macro, syntax, notation, axiom, sorry.
-/
import Derived.Test.YtfdcapblgdlkaaaChecked
import GoSem.Claim
import GoSem.ClaimJoined
import GoSem.ClaimMapViews
import Derived.JoinedTies
import Derived.KernelRfl
namespace Go.Proofs.Ytfdcapblgdlkaaa
/- THE CELL 'sum', in the pinned program and in every row, IS THE sha256 OF THE DUMP (.gsa) THAT YtfdcapblgdlkaaaProg.lean LOADS. Nothing in Lean hashes anything: it is a label: what it is worth is what the hold of that sum in a sandbox is worth. -/
noncomputable def Try.pinned : Pinned := { name := "ytfdcapblgdlkaaa", sum := "ad8c2e3613d474ebb45f1c2abcb46082850151129f5038c0bb66ae5e2af817b4", checked := Try.checked }
namespace Rows
def none {H : Type} : Left H := { results := [], args := [] }

/-- 'whorllaw06.VeilParties': WHATEVER THE INPUT: true; the input reads as it did. -/
def veilPartiesSpec : ChangeSpec := { name := "veilParties", fn := fun _ => fun
  | [d1, d2, d3, d4] => { results := [.lit (.bool true)], args := [d1, d2, d3, d4] }
  | _ => none }
def veilPartiesRow : OpenClaim := { program := "ytfdcapblgdlkaaa", sum := "ad8c2e3613d474ebb45f1c2abcb46082850151129f5038c0bb66ae5e2af817b4", func := "whorl/whorllaw06.VeilParties", spec := "veilParties", unfollowed := true, recurses := true, apart := false }
def VeilPartiesSaid : Prop := veilPartiesRow.holds Try.pinned (OpenSpec.ofChange veilPartiesSpec)

/-- ITS FALSE NEIGHBOUR: 'it returns false'. Refute it at one input. -/
def veilPartiesWrong : ChangeSpec := { name := "veilParties", fn := fun _ => fun
  | [d1, d2, d3, d4] => { results := [.lit (.bool false)], args := [d1, d2, d3, d4] }
  | _ => none }
def VeilPartiesWrongFalsely : Prop := veilPartiesRow.holds Try.pinned (OpenSpec.ofChange veilPartiesWrong)

/-- 'whorllaw06.VeilCounts': WHATEVER THE INPUT: true; the input reads as it did. -/
def veilCountsSpec : ChangeSpec := { name := "veilCounts", fn := fun _ => fun
  | [d1, d2, d3] => { results := [.lit (.bool true)], args := [d1, d2, d3] }
  | _ => none }
def veilCountsRow : OpenClaim := { program := "ytfdcapblgdlkaaa", sum := "ad8c2e3613d474ebb45f1c2abcb46082850151129f5038c0bb66ae5e2af817b4", func := "whorl/whorllaw06.VeilCounts", spec := "veilCounts", apart := false }
def VeilCountsSaid : Prop := veilCountsRow.holds Try.pinned (OpenSpec.ofChange veilCountsSpec)

/-- ITS FALSE NEIGHBOUR: 'it returns false'. Refute it at one input. -/
def veilCountsWrong : ChangeSpec := { name := "veilCounts", fn := fun _ => fun
  | [d1, d2, d3] => { results := [.lit (.bool false)], args := [d1, d2, d3] }
  | _ => none }
def VeilCountsWrongFalsely : Prop := veilCountsRow.holds Try.pinned (OpenSpec.ofChange veilCountsWrong)

/-- 'whorllaw06.VeilTalks': WHATEVER THE INPUT: true; the input reads as it did. -/
def veilTalksSpec : ChangeSpec := { name := "veilTalks", fn := fun _ => fun
  | [d1, d2, d3, d4, d5, d6] => { results := [.lit (.bool true)], args := [d1, d2, d3, d4, d5, d6] }
  | _ => none }
def veilTalksRow : OpenClaim := { program := "ytfdcapblgdlkaaa", sum := "ad8c2e3613d474ebb45f1c2abcb46082850151129f5038c0bb66ae5e2af817b4", func := "whorl/whorllaw06.VeilTalks", spec := "veilTalks", unfollowed := true, recurses := true, apart := false }
def VeilTalksSaid : Prop := veilTalksRow.holds Try.pinned (OpenSpec.ofChange veilTalksSpec)

/-- ITS FALSE NEIGHBOUR: 'it returns false'. Refute it at one input. -/
def veilTalksWrong : ChangeSpec := { name := "veilTalks", fn := fun _ => fun
  | [d1, d2, d3, d4, d5, d6] => { results := [.lit (.bool false)], args := [d1, d2, d3, d4, d5, d6] }
  | _ => none }
def VeilTalksWrongFalsely : Prop := veilTalksRow.holds Try.pinned (OpenSpec.ofChange veilTalksWrong)

/-- 'whorllaw06.VeilKeys': WHATEVER THE INPUT: true; the input reads as it did. -/
def veilKeysSpec : ChangeSpec := { name := "veilKeys", fn := fun _ => fun
  | [d1, d2, d3] => { results := [.lit (.bool true)], args := [d1, d2, d3] }
  | _ => none }
def veilKeysRow : OpenClaim := { program := "ytfdcapblgdlkaaa", sum := "ad8c2e3613d474ebb45f1c2abcb46082850151129f5038c0bb66ae5e2af817b4", func := "whorl/whorllaw06.VeilKeys", spec := "veilKeys", apart := false }
def VeilKeysSaid : Prop := veilKeysRow.holds Try.pinned (OpenSpec.ofChange veilKeysSpec)

/-- ITS FALSE NEIGHBOUR: 'it returns false'. Refute it at one input. -/
def veilKeysWrong : ChangeSpec := { name := "veilKeys", fn := fun _ => fun
  | [d1, d2, d3] => { results := [.lit (.bool false)], args := [d1, d2, d3] }
  | _ => none }
def VeilKeysWrongFalsely : Prop := veilKeysRow.holds Try.pinned (OpenSpec.ofChange veilKeysWrong)

/-- 'whorllaw06.VeilDistance': WHATEVER THE INPUT: true; the input reads as it did. -/
def veilDistanceSpec : ChangeSpec := { name := "veilDistance", fn := fun _ => fun
  | [d1, d2, d3] => { results := [.lit (.bool true)], args := [d1, d2, d3] }
  | _ => none }
def veilDistanceRow : OpenClaim := { program := "ytfdcapblgdlkaaa", sum := "ad8c2e3613d474ebb45f1c2abcb46082850151129f5038c0bb66ae5e2af817b4", func := "whorl/whorllaw06.VeilDistance", spec := "veilDistance", unfollowed := true, recurses := true, apart := false }
def VeilDistanceSaid : Prop := veilDistanceRow.holds Try.pinned (OpenSpec.ofChange veilDistanceSpec)

/-- ITS FALSE NEIGHBOUR: 'it returns false'. Refute it at one input. -/
def veilDistanceWrong : ChangeSpec := { name := "veilDistance", fn := fun _ => fun
  | [d1, d2, d3] => { results := [.lit (.bool false)], args := [d1, d2, d3] }
  | _ => none }
def VeilDistanceWrongFalsely : Prop := veilDistanceRow.holds Try.pinned (OpenSpec.ofChange veilDistanceWrong)

/-- 'whorllaw06.VeilViews': WHATEVER THE INPUT: true; the input reads as it did. -/
def veilViewsSpec : ChangeSpec := { name := "veilViews", fn := fun _ => fun
  | [d1, d2, d3, d4, d5] => { results := [.lit (.bool true)], args := [d1, d2, d3, d4, d5] }
  | _ => none }
def veilViewsRow : OpenClaim := { program := "ytfdcapblgdlkaaa", sum := "ad8c2e3613d474ebb45f1c2abcb46082850151129f5038c0bb66ae5e2af817b4", func := "whorl/whorllaw06.VeilViews", spec := "veilViews", unfollowed := true, recurses := true, apart := false }
def VeilViewsSaid : Prop := veilViewsRow.holds Try.pinned (OpenSpec.ofChange veilViewsSpec)

/-- ITS FALSE NEIGHBOUR: 'it returns false'. Refute it at one input. -/
def veilViewsWrong : ChangeSpec := { name := "veilViews", fn := fun _ => fun
  | [d1, d2, d3, d4, d5] => { results := [.lit (.bool false)], args := [d1, d2, d3, d4, d5] }
  | _ => none }
def VeilViewsWrongFalsely : Prop := veilViewsRow.holds Try.pinned (OpenSpec.ofChange veilViewsWrong)

/-- 'whorllaw06.VeilPads': WHATEVER THE INPUT: true; the input reads as it did. -/
def veilPadsSpec : ChangeSpec := { name := "veilPads", fn := fun _ => fun
  | [d1, d2, d3, d4] => { results := [.lit (.bool true)], args := [d1, d2, d3, d4] }
  | _ => none }
def veilPadsRow : OpenClaim := { program := "ytfdcapblgdlkaaa", sum := "ad8c2e3613d474ebb45f1c2abcb46082850151129f5038c0bb66ae5e2af817b4", func := "whorl/whorllaw06.VeilPads", spec := "veilPads", unfollowed := true, recurses := true, apart := false }
def VeilPadsSaid : Prop := veilPadsRow.holds Try.pinned (OpenSpec.ofChange veilPadsSpec)

/-- ITS FALSE NEIGHBOUR: 'it returns false'. Refute it at one input. -/
def veilPadsWrong : ChangeSpec := { name := "veilPads", fn := fun _ => fun
  | [d1, d2, d3, d4] => { results := [.lit (.bool false)], args := [d1, d2, d3, d4] }
  | _ => none }
def VeilPadsWrongFalsely : Prop := veilPadsRow.holds Try.pinned (OpenSpec.ofChange veilPadsWrong)

/-- 'whorllaw06.VeilRight': WHATEVER THE INPUT: true; the input reads as it did. -/
def veilRightSpec : ChangeSpec := { name := "veilRight", fn := fun _ => fun
  | [d1, d2, d3, d4] => { results := [.lit (.bool true)], args := [d1, d2, d3, d4] }
  | _ => none }
def veilRightRow : OpenClaim := { program := "ytfdcapblgdlkaaa", sum := "ad8c2e3613d474ebb45f1c2abcb46082850151129f5038c0bb66ae5e2af817b4", func := "whorl/whorllaw06.VeilRight", spec := "veilRight", unfollowed := true, recurses := true, apart := false }
def VeilRightSaid : Prop := veilRightRow.holds Try.pinned (OpenSpec.ofChange veilRightSpec)

/-- ITS FALSE NEIGHBOUR: 'it returns false'. Refute it at one input. -/
def veilRightWrong : ChangeSpec := { name := "veilRight", fn := fun _ => fun
  | [d1, d2, d3, d4] => { results := [.lit (.bool false)], args := [d1, d2, d3, d4] }
  | _ => none }
def VeilRightWrongFalsely : Prop := veilRightRow.holds Try.pinned (OpenSpec.ofChange veilRightWrong)

/-- 'whorllaw06.VeilUniform': WHATEVER THE INPUT: true; the input reads as it did. -/
def veilUniformSpec : ChangeSpec := { name := "veilUniform", fn := fun _ => fun
  | [d1, d2, d3, d4, d5, d6, d7] => { results := [.lit (.bool true)], args := [d1, d2, d3, d4, d5, d6, d7] }
  | _ => none }
def veilUniformRow : OpenClaim := { program := "ytfdcapblgdlkaaa", sum := "ad8c2e3613d474ebb45f1c2abcb46082850151129f5038c0bb66ae5e2af817b4", func := "whorl/whorllaw06.VeilUniform", spec := "veilUniform", unfollowed := true, recurses := true, apart := false }
def VeilUniformSaid : Prop := veilUniformRow.holds Try.pinned (OpenSpec.ofChange veilUniformSpec)

/-- ITS FALSE NEIGHBOUR: 'it returns false'. Refute it at one input. -/
def veilUniformWrong : ChangeSpec := { name := "veilUniform", fn := fun _ => fun
  | [d1, d2, d3, d4, d5, d6, d7] => { results := [.lit (.bool false)], args := [d1, d2, d3, d4, d5, d6, d7] }
  | _ => none }
def VeilUniformWrongFalsely : Prop := veilUniformRow.holds Try.pinned (OpenSpec.ofChange veilUniformWrong)

/-- 'whorllaw06.VeilLimits': WHATEVER THE INPUT: true; the input reads as it did. -/
def veilLimitsSpec : ChangeSpec := { name := "veilLimits", fn := fun _ => fun
  | [d1, d2, d3, d4, d5, d6, d7] => { results := [.lit (.bool true)], args := [d1, d2, d3, d4, d5, d6, d7] }
  | _ => none }
def veilLimitsRow : OpenClaim := { program := "ytfdcapblgdlkaaa", sum := "ad8c2e3613d474ebb45f1c2abcb46082850151129f5038c0bb66ae5e2af817b4", func := "whorl/whorllaw06.VeilLimits", spec := "veilLimits", unfollowed := true, recurses := true, apart := false }
def VeilLimitsSaid : Prop := veilLimitsRow.holds Try.pinned (OpenSpec.ofChange veilLimitsSpec)

/-- ITS FALSE NEIGHBOUR: 'it returns false'. Refute it at one input. -/
def veilLimitsWrong : ChangeSpec := { name := "veilLimits", fn := fun _ => fun
  | [d1, d2, d3, d4, d5, d6, d7] => { results := [.lit (.bool false)], args := [d1, d2, d3, d4, d5, d6, d7] }
  | _ => none }
def VeilLimitsWrongFalsely : Prop := veilLimitsRow.holds Try.pinned (OpenSpec.ofChange veilLimitsWrong)

/-- 'whorllaw06.VeilGroup': WHATEVER THE INPUT: true; the input reads as it did. -/
def veilGroupSpec : ChangeSpec := { name := "veilGroup", fn := fun _ => fun
  | [d1, d2, d3, d4] => { results := [.lit (.bool true)], args := [d1, d2, d3, d4] }
  | _ => none }
def veilGroupRow : OpenClaim := { program := "ytfdcapblgdlkaaa", sum := "ad8c2e3613d474ebb45f1c2abcb46082850151129f5038c0bb66ae5e2af817b4", func := "whorl/whorllaw06.VeilGroup", spec := "veilGroup", unfollowed := true, recurses := true, apart := false }
def VeilGroupSaid : Prop := veilGroupRow.holds Try.pinned (OpenSpec.ofChange veilGroupSpec)

/-- ITS FALSE NEIGHBOUR: 'it returns false'. Refute it at one input. -/
def veilGroupWrong : ChangeSpec := { name := "veilGroup", fn := fun _ => fun
  | [d1, d2, d3, d4] => { results := [.lit (.bool false)], args := [d1, d2, d3, d4] }
  | _ => none }
def VeilGroupWrongFalsely : Prop := veilGroupRow.holds Try.pinned (OpenSpec.ofChange veilGroupWrong)

/-- 'whorllaw06.VeilRenewed': WHATEVER THE INPUT: true; the input reads as it did. -/
def veilRenewedSpec : ChangeSpec := { name := "veilRenewed", fn := fun _ => fun
  | [d1, d2, d3, d4] => { results := [.lit (.bool true)], args := [d1, d2, d3, d4] }
  | _ => none }
def veilRenewedRow : OpenClaim := { program := "ytfdcapblgdlkaaa", sum := "ad8c2e3613d474ebb45f1c2abcb46082850151129f5038c0bb66ae5e2af817b4", func := "whorl/whorllaw06.VeilRenewed", spec := "veilRenewed", unfollowed := true, recurses := true, apart := false }
def VeilRenewedSaid : Prop := veilRenewedRow.holds Try.pinned (OpenSpec.ofChange veilRenewedSpec)

/-- ITS FALSE NEIGHBOUR: 'it returns false'. Refute it at one input. -/
def veilRenewedWrong : ChangeSpec := { name := "veilRenewed", fn := fun _ => fun
  | [d1, d2, d3, d4] => { results := [.lit (.bool false)], args := [d1, d2, d3, d4] }
  | _ => none }
def VeilRenewedWrongFalsely : Prop := veilRenewedRow.holds Try.pinned (OpenSpec.ofChange veilRenewedWrong)

/-- 'whorllaw06.VeilBlind': WHATEVER THE INPUT: true; the input reads as it did. -/
def veilBlindSpec : ChangeSpec := { name := "veilBlind", fn := fun _ => fun
  | [d1, d2, d3, d4, d5, d6] => { results := [.lit (.bool true)], args := [d1, d2, d3, d4, d5, d6] }
  | _ => none }
def veilBlindRow : OpenClaim := { program := "ytfdcapblgdlkaaa", sum := "ad8c2e3613d474ebb45f1c2abcb46082850151129f5038c0bb66ae5e2af817b4", func := "whorl/whorllaw06.VeilBlind", spec := "veilBlind", unfollowed := true, recurses := true, apart := false }
def VeilBlindSaid : Prop := veilBlindRow.holds Try.pinned (OpenSpec.ofChange veilBlindSpec)

/-- ITS FALSE NEIGHBOUR: 'it returns false'. Refute it at one input. -/
def veilBlindWrong : ChangeSpec := { name := "veilBlind", fn := fun _ => fun
  | [d1, d2, d3, d4, d5, d6] => { results := [.lit (.bool false)], args := [d1, d2, d3, d4, d5, d6] }
  | _ => none }
def VeilBlindWrongFalsely : Prop := veilBlindRow.holds Try.pinned (OpenSpec.ofChange veilBlindWrong)

/-- 'whorllaw06.VeilExamples': WHATEVER THE INPUT: true; the input reads as it did. -/
def veilExamplesSpec : ChangeSpec := { name := "veilExamples", fn := fun _ => fun
  | [] => { results := [.lit (.bool true)], args := [] }
  | _ => none }
def veilExamplesRow : OpenClaim := { program := "ytfdcapblgdlkaaa", sum := "ad8c2e3613d474ebb45f1c2abcb46082850151129f5038c0bb66ae5e2af817b4", func := "whorl/whorllaw06.VeilExamples", spec := "veilExamples", unfollowed := true, recurses := true, apart := false }
def VeilExamplesSaid : Prop := veilExamplesRow.holds Try.pinned (OpenSpec.ofChange veilExamplesSpec)

/-- ITS FALSE NEIGHBOUR: 'it returns false'. Refute it at one input. -/
def veilExamplesWrong : ChangeSpec := { name := "veilExamples", fn := fun _ => fun
  | [] => { results := [.lit (.bool false)], args := [] }
  | _ => none }
def VeilExamplesWrongFalsely : Prop := veilExamplesRow.holds Try.pinned (OpenSpec.ofChange veilExamplesWrong)

/- THE SECOND FORM. 'bulk': how many values and letters a reading holds, each counted each time it is reached (what is shared counts as often as it is met; a slice's spare places count too). A statement '..UptoSaid' is the law's where the arguments, and the package variables that the reading takes, are together of bulk at most 1048576: NARROWER than '..Said'. Prove '..Said' where nothing that the law and all that it calls make is longer than what came in: it says more and counts as full. Else prove '..UptoSaid'. A law counts once. -/
mutual
def uptoBulk {H : Type} : DataW H → Nat
  | .lit (.string bytes) => bytes.length + 1
  | .lit _ => 1
  | .nil => 1
  | .ptr d => uptoBulk d + 1
  | .slice elems spare => uptoBulkAll elems + uptoBulkAll spare + 1
  | .agg parts => uptoBulkAll parts + 1
  | .iface _ d => uptoBulk d + 1
  | .map entries => uptoBulkEntries entries + 1
  | .held _ => 1
def uptoBulkAll {H : Type} : List (DataW H) → Nat
  | [] => 0
  | d :: r => uptoBulk d + uptoBulkAll r
def uptoBulkEntries {H : Type} : List (Lit × DataW H) → Nat
  | [] => 0
  | x :: r => uptoBulkEntry x + uptoBulkEntries r
def uptoBulkEntry {H : Type} : Lit × DataW H → Nat
  | (.string bytes, d) => bytes.length + uptoBulk d + 1
  | (_, d) => uptoBulk d + 1
 end
def uptoSmall : (H : Type) → List (DataW H) → Bool := fun _ ds => decide (uptoBulkAll ds ≤ 1048576)
def OpenSpec.upto (s : _root_.Go.ChangeSpec) : _root_.Go.OpenSpec := { _root_.Go.OpenSpec.ofChange s with cond := some uptoSmall }

/-- 'whorllaw06.VeilParties', WHERE WHAT IT READS IS OF BULK AT MOST 1048576: true; the input reads as it did. -/
def veilPartiesUptoRow : OpenClaim := { program := "ytfdcapblgdlkaaa", sum := "ad8c2e3613d474ebb45f1c2abcb46082850151129f5038c0bb66ae5e2af817b4", func := "whorl/whorllaw06.VeilParties", spec := "veilParties", unfollowed := true, recurses := true, apart := false, narrowed := true }
def VeilPartiesUptoSaid : Prop := veilPartiesUptoRow.holds Try.pinned (OpenSpec.upto veilPartiesSpec)

/-- 'whorllaw06.VeilCounts', WHERE WHAT IT READS IS OF BULK AT MOST 1048576: true; the input reads as it did. -/
def veilCountsUptoRow : OpenClaim := { program := "ytfdcapblgdlkaaa", sum := "ad8c2e3613d474ebb45f1c2abcb46082850151129f5038c0bb66ae5e2af817b4", func := "whorl/whorllaw06.VeilCounts", spec := "veilCounts", apart := false, narrowed := true }
def VeilCountsUptoSaid : Prop := veilCountsUptoRow.holds Try.pinned (OpenSpec.upto veilCountsSpec)

/-- 'whorllaw06.VeilTalks', WHERE WHAT IT READS IS OF BULK AT MOST 1048576: true; the input reads as it did. -/
def veilTalksUptoRow : OpenClaim := { program := "ytfdcapblgdlkaaa", sum := "ad8c2e3613d474ebb45f1c2abcb46082850151129f5038c0bb66ae5e2af817b4", func := "whorl/whorllaw06.VeilTalks", spec := "veilTalks", unfollowed := true, recurses := true, apart := false, narrowed := true }
def VeilTalksUptoSaid : Prop := veilTalksUptoRow.holds Try.pinned (OpenSpec.upto veilTalksSpec)

/-- 'whorllaw06.VeilKeys', WHERE WHAT IT READS IS OF BULK AT MOST 1048576: true; the input reads as it did. -/
def veilKeysUptoRow : OpenClaim := { program := "ytfdcapblgdlkaaa", sum := "ad8c2e3613d474ebb45f1c2abcb46082850151129f5038c0bb66ae5e2af817b4", func := "whorl/whorllaw06.VeilKeys", spec := "veilKeys", apart := false, narrowed := true }
def VeilKeysUptoSaid : Prop := veilKeysUptoRow.holds Try.pinned (OpenSpec.upto veilKeysSpec)

/-- 'whorllaw06.VeilDistance', WHERE WHAT IT READS IS OF BULK AT MOST 1048576: true; the input reads as it did. -/
def veilDistanceUptoRow : OpenClaim := { program := "ytfdcapblgdlkaaa", sum := "ad8c2e3613d474ebb45f1c2abcb46082850151129f5038c0bb66ae5e2af817b4", func := "whorl/whorllaw06.VeilDistance", spec := "veilDistance", unfollowed := true, recurses := true, apart := false, narrowed := true }
def VeilDistanceUptoSaid : Prop := veilDistanceUptoRow.holds Try.pinned (OpenSpec.upto veilDistanceSpec)

/-- 'whorllaw06.VeilViews', WHERE WHAT IT READS IS OF BULK AT MOST 1048576: true; the input reads as it did. -/
def veilViewsUptoRow : OpenClaim := { program := "ytfdcapblgdlkaaa", sum := "ad8c2e3613d474ebb45f1c2abcb46082850151129f5038c0bb66ae5e2af817b4", func := "whorl/whorllaw06.VeilViews", spec := "veilViews", unfollowed := true, recurses := true, apart := false, narrowed := true }
def VeilViewsUptoSaid : Prop := veilViewsUptoRow.holds Try.pinned (OpenSpec.upto veilViewsSpec)

/-- 'whorllaw06.VeilPads', WHERE WHAT IT READS IS OF BULK AT MOST 1048576: true; the input reads as it did. -/
def veilPadsUptoRow : OpenClaim := { program := "ytfdcapblgdlkaaa", sum := "ad8c2e3613d474ebb45f1c2abcb46082850151129f5038c0bb66ae5e2af817b4", func := "whorl/whorllaw06.VeilPads", spec := "veilPads", unfollowed := true, recurses := true, apart := false, narrowed := true }
def VeilPadsUptoSaid : Prop := veilPadsUptoRow.holds Try.pinned (OpenSpec.upto veilPadsSpec)

/-- 'whorllaw06.VeilRight', WHERE WHAT IT READS IS OF BULK AT MOST 1048576: true; the input reads as it did. -/
def veilRightUptoRow : OpenClaim := { program := "ytfdcapblgdlkaaa", sum := "ad8c2e3613d474ebb45f1c2abcb46082850151129f5038c0bb66ae5e2af817b4", func := "whorl/whorllaw06.VeilRight", spec := "veilRight", unfollowed := true, recurses := true, apart := false, narrowed := true }
def VeilRightUptoSaid : Prop := veilRightUptoRow.holds Try.pinned (OpenSpec.upto veilRightSpec)

/-- 'whorllaw06.VeilUniform', WHERE WHAT IT READS IS OF BULK AT MOST 1048576: true; the input reads as it did. -/
def veilUniformUptoRow : OpenClaim := { program := "ytfdcapblgdlkaaa", sum := "ad8c2e3613d474ebb45f1c2abcb46082850151129f5038c0bb66ae5e2af817b4", func := "whorl/whorllaw06.VeilUniform", spec := "veilUniform", unfollowed := true, recurses := true, apart := false, narrowed := true }
def VeilUniformUptoSaid : Prop := veilUniformUptoRow.holds Try.pinned (OpenSpec.upto veilUniformSpec)

/-- 'whorllaw06.VeilLimits', WHERE WHAT IT READS IS OF BULK AT MOST 1048576: true; the input reads as it did. -/
def veilLimitsUptoRow : OpenClaim := { program := "ytfdcapblgdlkaaa", sum := "ad8c2e3613d474ebb45f1c2abcb46082850151129f5038c0bb66ae5e2af817b4", func := "whorl/whorllaw06.VeilLimits", spec := "veilLimits", unfollowed := true, recurses := true, apart := false, narrowed := true }
def VeilLimitsUptoSaid : Prop := veilLimitsUptoRow.holds Try.pinned (OpenSpec.upto veilLimitsSpec)

/-- 'whorllaw06.VeilGroup', WHERE WHAT IT READS IS OF BULK AT MOST 1048576: true; the input reads as it did. -/
def veilGroupUptoRow : OpenClaim := { program := "ytfdcapblgdlkaaa", sum := "ad8c2e3613d474ebb45f1c2abcb46082850151129f5038c0bb66ae5e2af817b4", func := "whorl/whorllaw06.VeilGroup", spec := "veilGroup", unfollowed := true, recurses := true, apart := false, narrowed := true }
def VeilGroupUptoSaid : Prop := veilGroupUptoRow.holds Try.pinned (OpenSpec.upto veilGroupSpec)

/-- 'whorllaw06.VeilRenewed', WHERE WHAT IT READS IS OF BULK AT MOST 1048576: true; the input reads as it did. -/
def veilRenewedUptoRow : OpenClaim := { program := "ytfdcapblgdlkaaa", sum := "ad8c2e3613d474ebb45f1c2abcb46082850151129f5038c0bb66ae5e2af817b4", func := "whorl/whorllaw06.VeilRenewed", spec := "veilRenewed", unfollowed := true, recurses := true, apart := false, narrowed := true }
def VeilRenewedUptoSaid : Prop := veilRenewedUptoRow.holds Try.pinned (OpenSpec.upto veilRenewedSpec)

/-- 'whorllaw06.VeilBlind', WHERE WHAT IT READS IS OF BULK AT MOST 1048576: true; the input reads as it did. -/
def veilBlindUptoRow : OpenClaim := { program := "ytfdcapblgdlkaaa", sum := "ad8c2e3613d474ebb45f1c2abcb46082850151129f5038c0bb66ae5e2af817b4", func := "whorl/whorllaw06.VeilBlind", spec := "veilBlind", unfollowed := true, recurses := true, apart := false, narrowed := true }
def VeilBlindUptoSaid : Prop := veilBlindUptoRow.holds Try.pinned (OpenSpec.upto veilBlindSpec)

/-- 'whorllaw06.VeilExamples', WHERE WHAT IT READS IS OF BULK AT MOST 1048576: true; the input reads as it did. -/
def veilExamplesUptoRow : OpenClaim := { program := "ytfdcapblgdlkaaa", sum := "ad8c2e3613d474ebb45f1c2abcb46082850151129f5038c0bb66ae5e2af817b4", func := "whorl/whorllaw06.VeilExamples", spec := "veilExamples", unfollowed := true, recurses := true, apart := false, narrowed := true }
def VeilExamplesUptoSaid : Prop := veilExamplesUptoRow.holds Try.pinned (OpenSpec.upto veilExamplesSpec)

end Rows
end Go.Proofs.Ytfdcapblgdlkaaa
