/-
  No cell of these rows narrows 'for every input' (looked for: loops, veiled, ifaces, maps, wideKeys, modest, calm, conditions, laid).
  DERIVED. THE GIVEN ROWS OF THIS SEAT. 14 by the template 'for every input the law returns true; each argument reads behind the call as it read before'; 0 by the template 'total and deterministic' (their statements: YthejomcibobieaaTotals.lean).
  GIVEN WITH THE SEED: the statements are not yours to turn. If you find one false, say at which input.
  Laid BY PROGRAM, IN A SANDBOX (cutbox-rows.mjs): the forced cells as the released guide's own fill.sh prints them over the translation c9e5bdcbf2e127a7… (all of the seat's roots in one cut). By AI agents, Wed Nov 11 2026. No macro, syntax, notation, axiom, sorry.
-/
import Derived.Test.YthejomcibobieaaChecked
import GoSem.Claim
import GoSem.ClaimJoined
import GoSem.ClaimMapViews
import Derived.JoinedTies
import Derived.KernelRfl
namespace Go.Proofs.Ythejomcibobieaa
/- THE CELL 'sum', in the pinned program and in every row, IS THE sha256 OF THE DUMP (.gsa) THAT YthejomcibobieaaProg.lean LOADS. Nothing in Lean hashes anything: it is a label: what it is worth is what the hold of that sum in a sandbox is worth. -/
noncomputable def Try.pinned : Pinned := { name := "ythejomcibobieaa", sum := "c9e5bdcbf2e127a79d0ba391956cfd82e3ade3bbd72900f26e0f505d1c4da321", checked := Try.checked }
namespace Rows
def none {H : Type} : Left H := { results := [], args := [] }

/-- 'whorllaw02.AlignPlaces': WHATEVER THE INPUT: true; the input reads as it did. -/
def alignPlacesSpec : ChangeSpec := { name := "alignPlaces", fn := fun _ => fun
  | [d1, d2, d3, d4] => { results := [.lit (.bool true)], args := [d1, d2, d3, d4] }
  | _ => none }
def alignPlacesRow : OpenClaim := { program := "ythejomcibobieaa", sum := "c9e5bdcbf2e127a79d0ba391956cfd82e3ade3bbd72900f26e0f505d1c4da321", func := "whorl/whorllaw02.AlignPlaces", spec := "alignPlaces", plainKeys := false, apart := false }
def AlignPlacesSaid : Prop := alignPlacesRow.holds Try.pinned (OpenSpec.ofChange alignPlacesSpec)

/-- ITS FALSE NEIGHBOUR: 'it returns false'. Refute it at one input. -/
def alignPlacesWrong : ChangeSpec := { name := "alignPlaces", fn := fun _ => fun
  | [d1, d2, d3, d4] => { results := [.lit (.bool false)], args := [d1, d2, d3, d4] }
  | _ => none }
def AlignPlacesWrongFalsely : Prop := alignPlacesRow.holds Try.pinned (OpenSpec.ofChange alignPlacesWrong)

/-- 'whorllaw02.AlignScores': WHATEVER THE INPUT: true; the input reads as it did. -/
def alignScoresSpec : ChangeSpec := { name := "alignScores", fn := fun _ => fun
  | [d1, d2, d3, d4, d5, d6] => { results := [.lit (.bool true)], args := [d1, d2, d3, d4, d5, d6] }
  | _ => none }
def alignScoresRow : OpenClaim := { program := "ythejomcibobieaa", sum := "c9e5bdcbf2e127a79d0ba391956cfd82e3ade3bbd72900f26e0f505d1c4da321", func := "whorl/whorllaw02.AlignScores", spec := "alignScores", unfollowed := true, recurses := true, plainKeys := false, apart := false }
def AlignScoresSaid : Prop := alignScoresRow.holds Try.pinned (OpenSpec.ofChange alignScoresSpec)

/-- ITS FALSE NEIGHBOUR: 'it returns false'. Refute it at one input. -/
def alignScoresWrong : ChangeSpec := { name := "alignScores", fn := fun _ => fun
  | [d1, d2, d3, d4, d5, d6] => { results := [.lit (.bool false)], args := [d1, d2, d3, d4, d5, d6] }
  | _ => none }
def AlignScoresWrongFalsely : Prop := alignScoresRow.holds Try.pinned (OpenSpec.ofChange alignScoresWrong)

/-- 'whorllaw02.AlignChecks': WHATEVER THE INPUT: true; the input reads as it did. -/
def alignChecksSpec : ChangeSpec := { name := "alignChecks", fn := fun _ => fun
  | [d1, d2, d3, d4] => { results := [.lit (.bool true)], args := [d1, d2, d3, d4] }
  | _ => none }
def alignChecksRow : OpenClaim := { program := "ythejomcibobieaa", sum := "c9e5bdcbf2e127a79d0ba391956cfd82e3ade3bbd72900f26e0f505d1c4da321", func := "whorl/whorllaw02.AlignChecks", spec := "alignChecks", unfollowed := true, recurses := true, plainKeys := false, apart := false }
def AlignChecksSaid : Prop := alignChecksRow.holds Try.pinned (OpenSpec.ofChange alignChecksSpec)

/-- ITS FALSE NEIGHBOUR: 'it returns false'. Refute it at one input. -/
def alignChecksWrong : ChangeSpec := { name := "alignChecks", fn := fun _ => fun
  | [d1, d2, d3, d4] => { results := [.lit (.bool false)], args := [d1, d2, d3, d4] }
  | _ => none }
def AlignChecksWrongFalsely : Prop := alignChecksRow.holds Try.pinned (OpenSpec.ofChange alignChecksWrong)

/-- 'whorllaw02.AlignSearches': WHATEVER THE INPUT: true; the input reads as it did. -/
def alignSearchesSpec : ChangeSpec := { name := "alignSearches", fn := fun _ => fun
  | [d1, d2, d3, d4] => { results := [.lit (.bool true)], args := [d1, d2, d3, d4] }
  | _ => none }
def alignSearchesRow : OpenClaim := { program := "ythejomcibobieaa", sum := "c9e5bdcbf2e127a79d0ba391956cfd82e3ade3bbd72900f26e0f505d1c4da321", func := "whorl/whorllaw02.AlignSearches", spec := "alignSearches", unfollowed := true, recurses := true, plainKeys := false, apart := false }
def AlignSearchesSaid : Prop := alignSearchesRow.holds Try.pinned (OpenSpec.ofChange alignSearchesSpec)

/-- ITS FALSE NEIGHBOUR: 'it returns false'. Refute it at one input. -/
def alignSearchesWrong : ChangeSpec := { name := "alignSearches", fn := fun _ => fun
  | [d1, d2, d3, d4] => { results := [.lit (.bool false)], args := [d1, d2, d3, d4] }
  | _ => none }
def AlignSearchesWrongFalsely : Prop := alignSearchesRow.holds Try.pinned (OpenSpec.ofChange alignSearchesWrong)

/-- 'whorllaw02.AlignExamples': WHATEVER THE INPUT: true; the input reads as it did. -/
def alignExamplesSpec : ChangeSpec := { name := "alignExamples", fn := fun _ => fun
  | [] => { results := [.lit (.bool true)], args := [] }
  | _ => none }
def alignExamplesRow : OpenClaim := { program := "ythejomcibobieaa", sum := "c9e5bdcbf2e127a79d0ba391956cfd82e3ade3bbd72900f26e0f505d1c4da321", func := "whorl/whorllaw02.AlignExamples", spec := "alignExamples", unfollowed := true, recurses := true, plainKeys := false, apart := false }
def AlignExamplesSaid : Prop := alignExamplesRow.holds Try.pinned (OpenSpec.ofChange alignExamplesSpec)

/-- ITS FALSE NEIGHBOUR: 'it returns false'. Refute it at one input. -/
def alignExamplesWrong : ChangeSpec := { name := "alignExamples", fn := fun _ => fun
  | [] => { results := [.lit (.bool false)], args := [] }
  | _ => none }
def AlignExamplesWrongFalsely : Prop := alignExamplesRow.holds Try.pinned (OpenSpec.ofChange alignExamplesWrong)

/-- 'whorllaw02.AlignBest': WHATEVER THE INPUT: true; the input reads as it did. -/
def alignBestSpec : ChangeSpec := { name := "alignBest", fn := fun _ => fun
  | [d1, d2, d3, d4] => { results := [.lit (.bool true)], args := [d1, d2, d3, d4] }
  | _ => none }
def alignBestRow : OpenClaim := { program := "ythejomcibobieaa", sum := "c9e5bdcbf2e127a79d0ba391956cfd82e3ade3bbd72900f26e0f505d1c4da321", func := "whorl/whorllaw02.AlignBest", spec := "alignBest", unfollowed := true, recurses := true, plainKeys := false, apart := false }
def AlignBestSaid : Prop := alignBestRow.holds Try.pinned (OpenSpec.ofChange alignBestSpec)

/-- ITS FALSE NEIGHBOUR: 'it returns false'. Refute it at one input. -/
def alignBestWrong : ChangeSpec := { name := "alignBest", fn := fun _ => fun
  | [d1, d2, d3, d4] => { results := [.lit (.bool false)], args := [d1, d2, d3, d4] }
  | _ => none }
def AlignBestWrongFalsely : Prop := alignBestRow.holds Try.pinned (OpenSpec.ofChange alignBestWrong)

/-- 'whorllaw02.AlignProved': WHATEVER THE INPUT: true; the input reads as it did. -/
def alignProvedSpec : ChangeSpec := { name := "alignProved", fn := fun _ => fun
  | [d1, d2, d3, d4] => { results := [.lit (.bool true)], args := [d1, d2, d3, d4] }
  | _ => none }
def alignProvedRow : OpenClaim := { program := "ythejomcibobieaa", sum := "c9e5bdcbf2e127a79d0ba391956cfd82e3ade3bbd72900f26e0f505d1c4da321", func := "whorl/whorllaw02.AlignProved", spec := "alignProved", unfollowed := true, recurses := true, plainKeys := false, apart := false }
def AlignProvedSaid : Prop := alignProvedRow.holds Try.pinned (OpenSpec.ofChange alignProvedSpec)

/-- ITS FALSE NEIGHBOUR: 'it returns false'. Refute it at one input. -/
def alignProvedWrong : ChangeSpec := { name := "alignProved", fn := fun _ => fun
  | [d1, d2, d3, d4] => { results := [.lit (.bool false)], args := [d1, d2, d3, d4] }
  | _ => none }
def AlignProvedWrongFalsely : Prop := alignProvedRow.holds Try.pinned (OpenSpec.ofChange alignProvedWrong)

/-- 'whorllaw02.AlignMore': WHATEVER THE INPUT: true; the input reads as it did. -/
def alignMoreSpec : ChangeSpec := { name := "alignMore", fn := fun _ => fun
  | [d1, d2, d3, d4, d5] => { results := [.lit (.bool true)], args := [d1, d2, d3, d4, d5] }
  | _ => none }
def alignMoreRow : OpenClaim := { program := "ythejomcibobieaa", sum := "c9e5bdcbf2e127a79d0ba391956cfd82e3ade3bbd72900f26e0f505d1c4da321", func := "whorl/whorllaw02.AlignMore", spec := "alignMore", unfollowed := true, recurses := true, plainKeys := false, apart := false }
def AlignMoreSaid : Prop := alignMoreRow.holds Try.pinned (OpenSpec.ofChange alignMoreSpec)

/-- ITS FALSE NEIGHBOUR: 'it returns false'. Refute it at one input. -/
def alignMoreWrong : ChangeSpec := { name := "alignMore", fn := fun _ => fun
  | [d1, d2, d3, d4, d5] => { results := [.lit (.bool false)], args := [d1, d2, d3, d4, d5] }
  | _ => none }
def AlignMoreWrongFalsely : Prop := alignMoreRow.holds Try.pinned (OpenSpec.ofChange alignMoreWrong)

/-- 'whorllaw02.AlignFirst': WHATEVER THE INPUT: true; the input reads as it did. -/
def alignFirstSpec : ChangeSpec := { name := "alignFirst", fn := fun _ => fun
  | [d1, d2, d3, d4] => { results := [.lit (.bool true)], args := [d1, d2, d3, d4] }
  | _ => none }
def alignFirstRow : OpenClaim := { program := "ythejomcibobieaa", sum := "c9e5bdcbf2e127a79d0ba391956cfd82e3ade3bbd72900f26e0f505d1c4da321", func := "whorl/whorllaw02.AlignFirst", spec := "alignFirst", unfollowed := true, recurses := true, plainKeys := false, apart := false }
def AlignFirstSaid : Prop := alignFirstRow.holds Try.pinned (OpenSpec.ofChange alignFirstSpec)

/-- ITS FALSE NEIGHBOUR: 'it returns false'. Refute it at one input. -/
def alignFirstWrong : ChangeSpec := { name := "alignFirst", fn := fun _ => fun
  | [d1, d2, d3, d4] => { results := [.lit (.bool false)], args := [d1, d2, d3, d4] }
  | _ => none }
def AlignFirstWrongFalsely : Prop := alignFirstRow.holds Try.pinned (OpenSpec.ofChange alignFirstWrong)

/-- 'whorllaw02.AlignOne': WHATEVER THE INPUT: true; the input reads as it did. -/
def alignOneSpec : ChangeSpec := { name := "alignOne", fn := fun _ => fun
  | [d1, d2, d3, d4, d5, d6] => { results := [.lit (.bool true)], args := [d1, d2, d3, d4, d5, d6] }
  | _ => none }
def alignOneRow : OpenClaim := { program := "ythejomcibobieaa", sum := "c9e5bdcbf2e127a79d0ba391956cfd82e3ade3bbd72900f26e0f505d1c4da321", func := "whorl/whorllaw02.AlignOne", spec := "alignOne", unfollowed := true, recurses := true, plainKeys := false, apart := false }
def AlignOneSaid : Prop := alignOneRow.holds Try.pinned (OpenSpec.ofChange alignOneSpec)

/-- ITS FALSE NEIGHBOUR: 'it returns false'. Refute it at one input. -/
def alignOneWrong : ChangeSpec := { name := "alignOne", fn := fun _ => fun
  | [d1, d2, d3, d4, d5, d6] => { results := [.lit (.bool false)], args := [d1, d2, d3, d4, d5, d6] }
  | _ => none }
def AlignOneWrongFalsely : Prop := alignOneRow.holds Try.pinned (OpenSpec.ofChange alignOneWrong)

/-- 'whorllaw02.AlignGrows': WHATEVER THE INPUT: true; the input reads as it did. -/
def alignGrowsSpec : ChangeSpec := { name := "alignGrows", fn := fun _ => fun
  | [d1, d2, d3, d4, d5, d6] => { results := [.lit (.bool true)], args := [d1, d2, d3, d4, d5, d6] }
  | _ => none }
def alignGrowsRow : OpenClaim := { program := "ythejomcibobieaa", sum := "c9e5bdcbf2e127a79d0ba391956cfd82e3ade3bbd72900f26e0f505d1c4da321", func := "whorl/whorllaw02.AlignGrows", spec := "alignGrows", unfollowed := true, recurses := true, plainKeys := false, apart := false }
def AlignGrowsSaid : Prop := alignGrowsRow.holds Try.pinned (OpenSpec.ofChange alignGrowsSpec)

/-- ITS FALSE NEIGHBOUR: 'it returns false'. Refute it at one input. -/
def alignGrowsWrong : ChangeSpec := { name := "alignGrows", fn := fun _ => fun
  | [d1, d2, d3, d4, d5, d6] => { results := [.lit (.bool false)], args := [d1, d2, d3, d4, d5, d6] }
  | _ => none }
def AlignGrowsWrongFalsely : Prop := alignGrowsRow.holds Try.pinned (OpenSpec.ofChange alignGrowsWrong)

/-- 'whorllaw02.AlignFound': WHATEVER THE INPUT: true; the input reads as it did. -/
def alignFoundSpec : ChangeSpec := { name := "alignFound", fn := fun _ => fun
  | [d1, d2, d3, d4, d5] => { results := [.lit (.bool true)], args := [d1, d2, d3, d4, d5] }
  | _ => none }
def alignFoundRow : OpenClaim := { program := "ythejomcibobieaa", sum := "c9e5bdcbf2e127a79d0ba391956cfd82e3ade3bbd72900f26e0f505d1c4da321", func := "whorl/whorllaw02.AlignFound", spec := "alignFound", unfollowed := true, recurses := true, plainKeys := false, apart := false }
def AlignFoundSaid : Prop := alignFoundRow.holds Try.pinned (OpenSpec.ofChange alignFoundSpec)

/-- ITS FALSE NEIGHBOUR: 'it returns false'. Refute it at one input. -/
def alignFoundWrong : ChangeSpec := { name := "alignFound", fn := fun _ => fun
  | [d1, d2, d3, d4, d5] => { results := [.lit (.bool false)], args := [d1, d2, d3, d4, d5] }
  | _ => none }
def AlignFoundWrongFalsely : Prop := alignFoundRow.holds Try.pinned (OpenSpec.ofChange alignFoundWrong)

/-- 'whorllaw02.AlignBack': WHATEVER THE INPUT: true; the input reads as it did. -/
def alignBackSpec : ChangeSpec := { name := "alignBack", fn := fun _ => fun
  | [d1, d2, d3, d4, d5] => { results := [.lit (.bool true)], args := [d1, d2, d3, d4, d5] }
  | _ => none }
def alignBackRow : OpenClaim := { program := "ythejomcibobieaa", sum := "c9e5bdcbf2e127a79d0ba391956cfd82e3ade3bbd72900f26e0f505d1c4da321", func := "whorl/whorllaw02.AlignBack", spec := "alignBack", unfollowed := true, recurses := true, plainKeys := false, apart := false }
def AlignBackSaid : Prop := alignBackRow.holds Try.pinned (OpenSpec.ofChange alignBackSpec)

/-- ITS FALSE NEIGHBOUR: 'it returns false'. Refute it at one input. -/
def alignBackWrong : ChangeSpec := { name := "alignBack", fn := fun _ => fun
  | [d1, d2, d3, d4, d5] => { results := [.lit (.bool false)], args := [d1, d2, d3, d4, d5] }
  | _ => none }
def AlignBackWrongFalsely : Prop := alignBackRow.holds Try.pinned (OpenSpec.ofChange alignBackWrong)

/-- 'whorllaw02.AlignBounds': WHATEVER THE INPUT: true; the input reads as it did. -/
def alignBoundsSpec : ChangeSpec := { name := "alignBounds", fn := fun _ => fun
  | [d1, d2, d3, d4, d5, d6, d7, d8, d9] => { results := [.lit (.bool true)], args := [d1, d2, d3, d4, d5, d6, d7, d8, d9] }
  | _ => none }
def alignBoundsRow : OpenClaim := { program := "ythejomcibobieaa", sum := "c9e5bdcbf2e127a79d0ba391956cfd82e3ade3bbd72900f26e0f505d1c4da321", func := "whorl/whorllaw02.AlignBounds", spec := "alignBounds", unfollowed := true, recurses := true, plainKeys := false, apart := false }
def AlignBoundsSaid : Prop := alignBoundsRow.holds Try.pinned (OpenSpec.ofChange alignBoundsSpec)

/-- ITS FALSE NEIGHBOUR: 'it returns false'. Refute it at one input. -/
def alignBoundsWrong : ChangeSpec := { name := "alignBounds", fn := fun _ => fun
  | [d1, d2, d3, d4, d5, d6, d7, d8, d9] => { results := [.lit (.bool false)], args := [d1, d2, d3, d4, d5, d6, d7, d8, d9] }
  | _ => none }
def AlignBoundsWrongFalsely : Prop := alignBoundsRow.holds Try.pinned (OpenSpec.ofChange alignBoundsWrong)

/- THE SECOND FORM. 'bulk': how many values and letters a reading holds, each counted each time it is reached (what is shared counts as often as it is met; a slice's spare places count too). A statement '..UptoSaid' is the law's where the arguments, and the package variables that the reading takes, are together of bulk at most 1048576: NARROWER than '..Said'. Prove '..Said' where nothing that the law and all that it calls make is longer than what came in: it says more and counts as full. Else prove '..UptoSaid'. A law counts once. -/
mutual
def uptoBulk {H : Type} : DataW H → Nat
  | .lit (.string bytes) => bytes.length + 1
  | .lit _ => 1
  | .nil => 1
  | .ptr d => uptoBulk d + 1
  | .slice elems spare => uptoBulkAll elems + uptoBulkAll spare + 1
  | .agg parts => uptoBulkAll parts + 1
  | .iface _ d => uptoBulk d + 1
  | .map entries => uptoBulkEntries entries + 1
  | .held _ => 1
def uptoBulkAll {H : Type} : List (DataW H) → Nat
  | [] => 0
  | d :: r => uptoBulk d + uptoBulkAll r
def uptoBulkEntries {H : Type} : List (Lit × DataW H) → Nat
  | [] => 0
  | x :: r => uptoBulkEntry x + uptoBulkEntries r
def uptoBulkEntry {H : Type} : Lit × DataW H → Nat
  | (.string bytes, d) => bytes.length + uptoBulk d + 1
  | (_, d) => uptoBulk d + 1
 end
def uptoSmall : (H : Type) → List (DataW H) → Bool := fun _ ds => decide (uptoBulkAll ds ≤ 1048576)
def OpenSpec.upto (s : _root_.Go.ChangeSpec) : _root_.Go.OpenSpec := { _root_.Go.OpenSpec.ofChange s with cond := some uptoSmall }

/-- 'whorllaw02.AlignPlaces', WHERE WHAT IT READS IS OF BULK AT MOST 1048576: true; the input reads as it did. -/
def alignPlacesUptoRow : OpenClaim := { program := "ythejomcibobieaa", sum := "c9e5bdcbf2e127a79d0ba391956cfd82e3ade3bbd72900f26e0f505d1c4da321", func := "whorl/whorllaw02.AlignPlaces", spec := "alignPlaces", plainKeys := false, apart := false, narrowed := true }
def AlignPlacesUptoSaid : Prop := alignPlacesUptoRow.holds Try.pinned (OpenSpec.upto alignPlacesSpec)

/-- 'whorllaw02.AlignScores', WHERE WHAT IT READS IS OF BULK AT MOST 1048576: true; the input reads as it did. -/
def alignScoresUptoRow : OpenClaim := { program := "ythejomcibobieaa", sum := "c9e5bdcbf2e127a79d0ba391956cfd82e3ade3bbd72900f26e0f505d1c4da321", func := "whorl/whorllaw02.AlignScores", spec := "alignScores", unfollowed := true, recurses := true, plainKeys := false, apart := false, narrowed := true }
def AlignScoresUptoSaid : Prop := alignScoresUptoRow.holds Try.pinned (OpenSpec.upto alignScoresSpec)

/-- 'whorllaw02.AlignChecks', WHERE WHAT IT READS IS OF BULK AT MOST 1048576: true; the input reads as it did. -/
def alignChecksUptoRow : OpenClaim := { program := "ythejomcibobieaa", sum := "c9e5bdcbf2e127a79d0ba391956cfd82e3ade3bbd72900f26e0f505d1c4da321", func := "whorl/whorllaw02.AlignChecks", spec := "alignChecks", unfollowed := true, recurses := true, plainKeys := false, apart := false, narrowed := true }
def AlignChecksUptoSaid : Prop := alignChecksUptoRow.holds Try.pinned (OpenSpec.upto alignChecksSpec)

/-- 'whorllaw02.AlignSearches', WHERE WHAT IT READS IS OF BULK AT MOST 1048576: true; the input reads as it did. -/
def alignSearchesUptoRow : OpenClaim := { program := "ythejomcibobieaa", sum := "c9e5bdcbf2e127a79d0ba391956cfd82e3ade3bbd72900f26e0f505d1c4da321", func := "whorl/whorllaw02.AlignSearches", spec := "alignSearches", unfollowed := true, recurses := true, plainKeys := false, apart := false, narrowed := true }
def AlignSearchesUptoSaid : Prop := alignSearchesUptoRow.holds Try.pinned (OpenSpec.upto alignSearchesSpec)

/-- 'whorllaw02.AlignExamples', WHERE WHAT IT READS IS OF BULK AT MOST 1048576: true; the input reads as it did. -/
def alignExamplesUptoRow : OpenClaim := { program := "ythejomcibobieaa", sum := "c9e5bdcbf2e127a79d0ba391956cfd82e3ade3bbd72900f26e0f505d1c4da321", func := "whorl/whorllaw02.AlignExamples", spec := "alignExamples", unfollowed := true, recurses := true, plainKeys := false, apart := false, narrowed := true }
def AlignExamplesUptoSaid : Prop := alignExamplesUptoRow.holds Try.pinned (OpenSpec.upto alignExamplesSpec)

/-- 'whorllaw02.AlignBest', WHERE WHAT IT READS IS OF BULK AT MOST 1048576: true; the input reads as it did. -/
def alignBestUptoRow : OpenClaim := { program := "ythejomcibobieaa", sum := "c9e5bdcbf2e127a79d0ba391956cfd82e3ade3bbd72900f26e0f505d1c4da321", func := "whorl/whorllaw02.AlignBest", spec := "alignBest", unfollowed := true, recurses := true, plainKeys := false, apart := false, narrowed := true }
def AlignBestUptoSaid : Prop := alignBestUptoRow.holds Try.pinned (OpenSpec.upto alignBestSpec)

/-- 'whorllaw02.AlignProved', WHERE WHAT IT READS IS OF BULK AT MOST 1048576: true; the input reads as it did. -/
def alignProvedUptoRow : OpenClaim := { program := "ythejomcibobieaa", sum := "c9e5bdcbf2e127a79d0ba391956cfd82e3ade3bbd72900f26e0f505d1c4da321", func := "whorl/whorllaw02.AlignProved", spec := "alignProved", unfollowed := true, recurses := true, plainKeys := false, apart := false, narrowed := true }
def AlignProvedUptoSaid : Prop := alignProvedUptoRow.holds Try.pinned (OpenSpec.upto alignProvedSpec)

/-- 'whorllaw02.AlignMore', WHERE WHAT IT READS IS OF BULK AT MOST 1048576: true; the input reads as it did. -/
def alignMoreUptoRow : OpenClaim := { program := "ythejomcibobieaa", sum := "c9e5bdcbf2e127a79d0ba391956cfd82e3ade3bbd72900f26e0f505d1c4da321", func := "whorl/whorllaw02.AlignMore", spec := "alignMore", unfollowed := true, recurses := true, plainKeys := false, apart := false, narrowed := true }
def AlignMoreUptoSaid : Prop := alignMoreUptoRow.holds Try.pinned (OpenSpec.upto alignMoreSpec)

/-- 'whorllaw02.AlignFirst', WHERE WHAT IT READS IS OF BULK AT MOST 1048576: true; the input reads as it did. -/
def alignFirstUptoRow : OpenClaim := { program := "ythejomcibobieaa", sum := "c9e5bdcbf2e127a79d0ba391956cfd82e3ade3bbd72900f26e0f505d1c4da321", func := "whorl/whorllaw02.AlignFirst", spec := "alignFirst", unfollowed := true, recurses := true, plainKeys := false, apart := false, narrowed := true }
def AlignFirstUptoSaid : Prop := alignFirstUptoRow.holds Try.pinned (OpenSpec.upto alignFirstSpec)

/-- 'whorllaw02.AlignOne', WHERE WHAT IT READS IS OF BULK AT MOST 1048576: true; the input reads as it did. -/
def alignOneUptoRow : OpenClaim := { program := "ythejomcibobieaa", sum := "c9e5bdcbf2e127a79d0ba391956cfd82e3ade3bbd72900f26e0f505d1c4da321", func := "whorl/whorllaw02.AlignOne", spec := "alignOne", unfollowed := true, recurses := true, plainKeys := false, apart := false, narrowed := true }
def AlignOneUptoSaid : Prop := alignOneUptoRow.holds Try.pinned (OpenSpec.upto alignOneSpec)

/-- 'whorllaw02.AlignGrows', WHERE WHAT IT READS IS OF BULK AT MOST 1048576: true; the input reads as it did. -/
def alignGrowsUptoRow : OpenClaim := { program := "ythejomcibobieaa", sum := "c9e5bdcbf2e127a79d0ba391956cfd82e3ade3bbd72900f26e0f505d1c4da321", func := "whorl/whorllaw02.AlignGrows", spec := "alignGrows", unfollowed := true, recurses := true, plainKeys := false, apart := false, narrowed := true }
def AlignGrowsUptoSaid : Prop := alignGrowsUptoRow.holds Try.pinned (OpenSpec.upto alignGrowsSpec)

/-- 'whorllaw02.AlignFound', WHERE WHAT IT READS IS OF BULK AT MOST 1048576: true; the input reads as it did. -/
def alignFoundUptoRow : OpenClaim := { program := "ythejomcibobieaa", sum := "c9e5bdcbf2e127a79d0ba391956cfd82e3ade3bbd72900f26e0f505d1c4da321", func := "whorl/whorllaw02.AlignFound", spec := "alignFound", unfollowed := true, recurses := true, plainKeys := false, apart := false, narrowed := true }
def AlignFoundUptoSaid : Prop := alignFoundUptoRow.holds Try.pinned (OpenSpec.upto alignFoundSpec)

/-- 'whorllaw02.AlignBack', WHERE WHAT IT READS IS OF BULK AT MOST 1048576: true; the input reads as it did. -/
def alignBackUptoRow : OpenClaim := { program := "ythejomcibobieaa", sum := "c9e5bdcbf2e127a79d0ba391956cfd82e3ade3bbd72900f26e0f505d1c4da321", func := "whorl/whorllaw02.AlignBack", spec := "alignBack", unfollowed := true, recurses := true, plainKeys := false, apart := false, narrowed := true }
def AlignBackUptoSaid : Prop := alignBackUptoRow.holds Try.pinned (OpenSpec.upto alignBackSpec)

/-- 'whorllaw02.AlignBounds', WHERE WHAT IT READS IS OF BULK AT MOST 1048576: true; the input reads as it did. -/
def alignBoundsUptoRow : OpenClaim := { program := "ythejomcibobieaa", sum := "c9e5bdcbf2e127a79d0ba391956cfd82e3ade3bbd72900f26e0f505d1c4da321", func := "whorl/whorllaw02.AlignBounds", spec := "alignBounds", unfollowed := true, recurses := true, plainKeys := false, apart := false, narrowed := true }
def AlignBoundsUptoSaid : Prop := alignBoundsUptoRow.holds Try.pinned (OpenSpec.upto alignBoundsSpec)

end Rows
end Go.Proofs.Ythejomcibobieaa
