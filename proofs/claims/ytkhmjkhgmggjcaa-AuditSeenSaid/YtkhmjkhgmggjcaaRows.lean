/-
  No cell of these rows narrows 'for every input' (looked for: loops, veiled, ifaces, maps, wideKeys, modest, calm, conditions, laid).
  DERIVED. THE GIVEN ROWS OF THIS SEAT. 13 by the template 'for every input the law returns true; each argument reads behind the call as it read before'; 0 by the template 'total and deterministic' (their statements: YtkhmjkhgmggjcaaTotals.lean).
  GIVEN WITH THE SEED: the statements are not yours to turn. If you find one false, say at which input.
  Laid BY PROGRAM, IN A SANDBOX (cutbox-rows.mjs): the forced cells as the released guide's own fill.sh prints them over the translation e09077ad108d7ea7… (all of the seat's roots in one cut). By AI agents, Wed Nov 11 2026. No macro, syntax, notation, axiom, sorry.
-/
import Derived.Test.YtkhmjkhgmggjcaaChecked
import GoSem.Claim
import GoSem.ClaimJoined
import GoSem.ClaimMapViews
import Derived.JoinedTies
import Derived.KernelRfl
namespace Go.Proofs.Ytkhmjkhgmggjcaa
/- THE CELL 'sum', in the pinned program and in every row, IS THE sha256 OF THE DUMP (.gsa) THAT YtkhmjkhgmggjcaaProg.lean LOADS. Nothing in Lean hashes anything: it is a label: what it is worth is what the hold of that sum in a sandbox is worth. -/
noncomputable def Try.pinned : Pinned := { name := "ytkhmjkhgmggjcaa", sum := "e09077ad108d7ea7d457525941f63d152db3402a046f7fc4ed3973d558d33e41", checked := Try.checked }
namespace Rows
def none {H : Type} : Left H := { results := [], args := [] }

/-- 'whorllaw11.AuditReasons': WHATEVER THE INPUT: true; the input reads as it did. -/
def auditReasonsSpec : ChangeSpec := { name := "auditReasons", fn := fun _ => fun
  | [d1, d2] => { results := [.lit (.bool true)], args := [d1, d2] }
  | _ => none }
def auditReasonsRow : OpenClaim := { program := "ytkhmjkhgmggjcaa", sum := "e09077ad108d7ea7d457525941f63d152db3402a046f7fc4ed3973d558d33e41", func := "whorl/whorllaw11.AuditReasons", spec := "auditReasons", apart := false }
def AuditReasonsSaid : Prop := auditReasonsRow.holds Try.pinned (OpenSpec.ofChange auditReasonsSpec)

/-- ITS FALSE NEIGHBOUR: 'it returns false'. Refute it at one input. -/
def auditReasonsWrong : ChangeSpec := { name := "auditReasons", fn := fun _ => fun
  | [d1, d2] => { results := [.lit (.bool false)], args := [d1, d2] }
  | _ => none }
def AuditReasonsWrongFalsely : Prop := auditReasonsRow.holds Try.pinned (OpenSpec.ofChange auditReasonsWrong)

/-- 'whorllaw11.AuditTips': WHATEVER THE INPUT: true; the input reads as it did. -/
def auditTipsSpec : ChangeSpec := { name := "auditTips", fn := fun _ => fun
  | [d1, d2, d3, d4] => { results := [.lit (.bool true)], args := [d1, d2, d3, d4] }
  | _ => none }
def auditTipsRow : OpenClaim := { program := "ytkhmjkhgmggjcaa", sum := "e09077ad108d7ea7d457525941f63d152db3402a046f7fc4ed3973d558d33e41", func := "whorl/whorllaw11.AuditTips", spec := "auditTips", apart := false }
def AuditTipsSaid : Prop := auditTipsRow.holds Try.pinned (OpenSpec.ofChange auditTipsSpec)

/-- ITS FALSE NEIGHBOUR: 'it returns false'. Refute it at one input. -/
def auditTipsWrong : ChangeSpec := { name := "auditTips", fn := fun _ => fun
  | [d1, d2, d3, d4] => { results := [.lit (.bool false)], args := [d1, d2, d3, d4] }
  | _ => none }
def AuditTipsWrongFalsely : Prop := auditTipsRow.holds Try.pinned (OpenSpec.ofChange auditTipsWrong)

/-- 'whorllaw11.AuditWrites': WHATEVER THE INPUT: true; the input reads as it did. -/
def auditWritesSpec : ChangeSpec := { name := "auditWrites", fn := fun _ => fun
  | [d1, d2, d3, d4, d5, d6] => { results := [.lit (.bool true)], args := [d1, d2, d3, d4, d5, d6] }
  | _ => none }
def auditWritesRow : OpenClaim := { program := "ytkhmjkhgmggjcaa", sum := "e09077ad108d7ea7d457525941f63d152db3402a046f7fc4ed3973d558d33e41", func := "whorl/whorllaw11.AuditWrites", spec := "auditWrites", apart := false }
def AuditWritesSaid : Prop := auditWritesRow.holds Try.pinned (OpenSpec.ofChange auditWritesSpec)

/-- ITS FALSE NEIGHBOUR: 'it returns false'. Refute it at one input. -/
def auditWritesWrong : ChangeSpec := { name := "auditWrites", fn := fun _ => fun
  | [d1, d2, d3, d4, d5, d6] => { results := [.lit (.bool false)], args := [d1, d2, d3, d4, d5, d6] }
  | _ => none }
def AuditWritesWrongFalsely : Prop := auditWritesRow.holds Try.pinned (OpenSpec.ofChange auditWritesWrong)

/-- 'whorllaw11.AuditErases': WHATEVER THE INPUT: true; the input reads as it did. -/
def auditErasesSpec : ChangeSpec := { name := "auditErases", fn := fun _ => fun
  | [d1, d2, d3] => { results := [.lit (.bool true)], args := [d1, d2, d3] }
  | _ => none }
def auditErasesRow : OpenClaim := { program := "ytkhmjkhgmggjcaa", sum := "e09077ad108d7ea7d457525941f63d152db3402a046f7fc4ed3973d558d33e41", func := "whorl/whorllaw11.AuditErases", spec := "auditErases", unfollowed := true, recurses := true, apart := false }
def AuditErasesSaid : Prop := auditErasesRow.holds Try.pinned (OpenSpec.ofChange auditErasesSpec)

/-- ITS FALSE NEIGHBOUR: 'it returns false'. Refute it at one input. -/
def auditErasesWrong : ChangeSpec := { name := "auditErases", fn := fun _ => fun
  | [d1, d2, d3] => { results := [.lit (.bool false)], args := [d1, d2, d3] }
  | _ => none }
def AuditErasesWrongFalsely : Prop := auditErasesRow.holds Try.pinned (OpenSpec.ofChange auditErasesWrong)

/-- 'whorllaw11.AuditSalts': WHATEVER THE INPUT: true; the input reads as it did. -/
def auditSaltsSpec : ChangeSpec := { name := "auditSalts", fn := fun _ => fun
  | [d1, d2, d3] => { results := [.lit (.bool true)], args := [d1, d2, d3] }
  | _ => none }
def auditSaltsRow : OpenClaim := { program := "ytkhmjkhgmggjcaa", sum := "e09077ad108d7ea7d457525941f63d152db3402a046f7fc4ed3973d558d33e41", func := "whorl/whorllaw11.AuditSalts", spec := "auditSalts", unfollowed := true, recurses := true, apart := false }
def AuditSaltsSaid : Prop := auditSaltsRow.holds Try.pinned (OpenSpec.ofChange auditSaltsSpec)

/-- ITS FALSE NEIGHBOUR: 'it returns false'. Refute it at one input. -/
def auditSaltsWrong : ChangeSpec := { name := "auditSalts", fn := fun _ => fun
  | [d1, d2, d3] => { results := [.lit (.bool false)], args := [d1, d2, d3] }
  | _ => none }
def AuditSaltsWrongFalsely : Prop := auditSaltsRow.holds Try.pinned (OpenSpec.ofChange auditSaltsWrong)

/-- 'whorllaw11.AuditPacked': WHATEVER THE INPUT: true; the input reads as it did. -/
def auditPackedSpec : ChangeSpec := { name := "auditPacked", fn := fun _ => fun
  | [d1, d2, d3] => { results := [.lit (.bool true)], args := [d1, d2, d3] }
  | _ => none }
def auditPackedRow : OpenClaim := { program := "ytkhmjkhgmggjcaa", sum := "e09077ad108d7ea7d457525941f63d152db3402a046f7fc4ed3973d558d33e41", func := "whorl/whorllaw11.AuditPacked", spec := "auditPacked", unfollowed := true, recurses := true, apart := false }
def AuditPackedSaid : Prop := auditPackedRow.holds Try.pinned (OpenSpec.ofChange auditPackedSpec)

/-- ITS FALSE NEIGHBOUR: 'it returns false'. Refute it at one input. -/
def auditPackedWrong : ChangeSpec := { name := "auditPacked", fn := fun _ => fun
  | [d1, d2, d3] => { results := [.lit (.bool false)], args := [d1, d2, d3] }
  | _ => none }
def AuditPackedWrongFalsely : Prop := auditPackedRow.holds Try.pinned (OpenSpec.ofChange auditPackedWrong)

/-- 'whorllaw11.AuditFollows': WHATEVER THE INPUT: true; the input reads as it did. -/
def auditFollowsSpec : ChangeSpec := { name := "auditFollows", fn := fun _ => fun
  | [d1, d2] => { results := [.lit (.bool true)], args := [d1, d2] }
  | _ => none }
def auditFollowsRow : OpenClaim := { program := "ytkhmjkhgmggjcaa", sum := "e09077ad108d7ea7d457525941f63d152db3402a046f7fc4ed3973d558d33e41", func := "whorl/whorllaw11.AuditFollows", spec := "auditFollows", unfollowed := true, recurses := true, apart := false }
def AuditFollowsSaid : Prop := auditFollowsRow.holds Try.pinned (OpenSpec.ofChange auditFollowsSpec)

/-- ITS FALSE NEIGHBOUR: 'it returns false'. Refute it at one input. -/
def auditFollowsWrong : ChangeSpec := { name := "auditFollows", fn := fun _ => fun
  | [d1, d2] => { results := [.lit (.bool false)], args := [d1, d2] }
  | _ => none }
def AuditFollowsWrongFalsely : Prop := auditFollowsRow.holds Try.pinned (OpenSpec.ofChange auditFollowsWrong)

/-- 'whorllaw11.AuditErased': WHATEVER THE INPUT: true; the input reads as it did. -/
def auditErasedSpec : ChangeSpec := { name := "auditErased", fn := fun _ => fun
  | [d1, d2, d3] => { results := [.lit (.bool true)], args := [d1, d2, d3] }
  | _ => none }
def auditErasedRow : OpenClaim := { program := "ytkhmjkhgmggjcaa", sum := "e09077ad108d7ea7d457525941f63d152db3402a046f7fc4ed3973d558d33e41", func := "whorl/whorllaw11.AuditErased", spec := "auditErased", unfollowed := true, recurses := true, apart := false }
def AuditErasedSaid : Prop := auditErasedRow.holds Try.pinned (OpenSpec.ofChange auditErasedSpec)

/-- ITS FALSE NEIGHBOUR: 'it returns false'. Refute it at one input. -/
def auditErasedWrong : ChangeSpec := { name := "auditErased", fn := fun _ => fun
  | [d1, d2, d3] => { results := [.lit (.bool false)], args := [d1, d2, d3] }
  | _ => none }
def AuditErasedWrongFalsely : Prop := auditErasedRow.holds Try.pinned (OpenSpec.ofChange auditErasedWrong)

/-- 'whorllaw11.AuditSeen': WHATEVER THE INPUT: true; the input reads as it did. -/
def auditSeenSpec : ChangeSpec := { name := "auditSeen", fn := fun _ => fun
  | [d1, d2, d3, d4, d5, d6] => { results := [.lit (.bool true)], args := [d1, d2, d3, d4, d5, d6] }
  | _ => none }
def auditSeenRow : OpenClaim := { program := "ytkhmjkhgmggjcaa", sum := "e09077ad108d7ea7d457525941f63d152db3402a046f7fc4ed3973d558d33e41", func := "whorl/whorllaw11.AuditSeen", spec := "auditSeen", unfollowed := true, recurses := true, apart := false }
def AuditSeenSaid : Prop := auditSeenRow.holds Try.pinned (OpenSpec.ofChange auditSeenSpec)

/-- ITS FALSE NEIGHBOUR: 'it returns false'. Refute it at one input. -/
def auditSeenWrong : ChangeSpec := { name := "auditSeen", fn := fun _ => fun
  | [d1, d2, d3, d4, d5, d6] => { results := [.lit (.bool false)], args := [d1, d2, d3, d4, d5, d6] }
  | _ => none }
def AuditSeenWrongFalsely : Prop := auditSeenRow.holds Try.pinned (OpenSpec.ofChange auditSeenWrong)

/-- 'whorllaw11.AuditKept': WHATEVER THE INPUT: true; the input reads as it did. -/
def auditKeptSpec : ChangeSpec := { name := "auditKept", fn := fun _ => fun
  | [d1, d2, d3, d4, d5, d6] => { results := [.lit (.bool true)], args := [d1, d2, d3, d4, d5, d6] }
  | _ => none }
def auditKeptRow : OpenClaim := { program := "ytkhmjkhgmggjcaa", sum := "e09077ad108d7ea7d457525941f63d152db3402a046f7fc4ed3973d558d33e41", func := "whorl/whorllaw11.AuditKept", spec := "auditKept", unfollowed := true, recurses := true, apart := false }
def AuditKeptSaid : Prop := auditKeptRow.holds Try.pinned (OpenSpec.ofChange auditKeptSpec)

/-- ITS FALSE NEIGHBOUR: 'it returns false'. Refute it at one input. -/
def auditKeptWrong : ChangeSpec := { name := "auditKept", fn := fun _ => fun
  | [d1, d2, d3, d4, d5, d6] => { results := [.lit (.bool false)], args := [d1, d2, d3, d4, d5, d6] }
  | _ => none }
def AuditKeptWrongFalsely : Prop := auditKeptRow.holds Try.pinned (OpenSpec.ofChange auditKeptWrong)

/-- 'whorllaw11.AuditWritten': WHATEVER THE INPUT: true; the input reads as it did. -/
def auditWrittenSpec : ChangeSpec := { name := "auditWritten", fn := fun _ => fun
  | [d1, d2, d3, d4, d5, d6] => { results := [.lit (.bool true)], args := [d1, d2, d3, d4, d5, d6] }
  | _ => none }
def auditWrittenRow : OpenClaim := { program := "ytkhmjkhgmggjcaa", sum := "e09077ad108d7ea7d457525941f63d152db3402a046f7fc4ed3973d558d33e41", func := "whorl/whorllaw11.AuditWritten", spec := "auditWritten", unfollowed := true, recurses := true, apart := false }
def AuditWrittenSaid : Prop := auditWrittenRow.holds Try.pinned (OpenSpec.ofChange auditWrittenSpec)

/-- ITS FALSE NEIGHBOUR: 'it returns false'. Refute it at one input. -/
def auditWrittenWrong : ChangeSpec := { name := "auditWritten", fn := fun _ => fun
  | [d1, d2, d3, d4, d5, d6] => { results := [.lit (.bool false)], args := [d1, d2, d3, d4, d5, d6] }
  | _ => none }
def AuditWrittenWrongFalsely : Prop := auditWrittenRow.holds Try.pinned (OpenSpec.ofChange auditWrittenWrong)

/-- 'whorllaw11.AuditAbout': WHATEVER THE INPUT: true; the input reads as it did. -/
def auditAboutSpec : ChangeSpec := { name := "auditAbout", fn := fun _ => fun
  | [d1, d2] => { results := [.lit (.bool true)], args := [d1, d2] }
  | _ => none }
def auditAboutRow : OpenClaim := { program := "ytkhmjkhgmggjcaa", sum := "e09077ad108d7ea7d457525941f63d152db3402a046f7fc4ed3973d558d33e41", func := "whorl/whorllaw11.AuditAbout", spec := "auditAbout", unfollowed := true, recurses := true, apart := false }
def AuditAboutSaid : Prop := auditAboutRow.holds Try.pinned (OpenSpec.ofChange auditAboutSpec)

/-- ITS FALSE NEIGHBOUR: 'it returns false'. Refute it at one input. -/
def auditAboutWrong : ChangeSpec := { name := "auditAbout", fn := fun _ => fun
  | [d1, d2] => { results := [.lit (.bool false)], args := [d1, d2] }
  | _ => none }
def AuditAboutWrongFalsely : Prop := auditAboutRow.holds Try.pinned (OpenSpec.ofChange auditAboutWrong)

/-- 'whorllaw11.AuditExamples': WHATEVER THE INPUT: true; the input reads as it did. -/
def auditExamplesSpec : ChangeSpec := { name := "auditExamples", fn := fun _ => fun
  | [] => { results := [.lit (.bool true)], args := [] }
  | _ => none }
def auditExamplesRow : OpenClaim := { program := "ytkhmjkhgmggjcaa", sum := "e09077ad108d7ea7d457525941f63d152db3402a046f7fc4ed3973d558d33e41", func := "whorl/whorllaw11.AuditExamples", spec := "auditExamples", unfollowed := true, recurses := true, apart := false }
def AuditExamplesSaid : Prop := auditExamplesRow.holds Try.pinned (OpenSpec.ofChange auditExamplesSpec)

/-- ITS FALSE NEIGHBOUR: 'it returns false'. Refute it at one input. -/
def auditExamplesWrong : ChangeSpec := { name := "auditExamples", fn := fun _ => fun
  | [] => { results := [.lit (.bool false)], args := [] }
  | _ => none }
def AuditExamplesWrongFalsely : Prop := auditExamplesRow.holds Try.pinned (OpenSpec.ofChange auditExamplesWrong)

/- THE SECOND FORM. 'bulk': how many values and letters a reading holds, each counted each time it is reached (what is shared counts as often as it is met; a slice's spare places count too). A statement '..UptoSaid' is the law's where the arguments, and the package variables that the reading takes, are together of bulk at most 1048576: NARROWER than '..Said'. Prove '..Said' where nothing that the law and all that it calls make is longer than what came in: it says more and counts as full. Else prove '..UptoSaid'. A law counts once. -/
mutual
def uptoBulk {H : Type} : DataW H → Nat
  | .lit (.string bytes) => bytes.length + 1
  | .lit _ => 1
  | .nil => 1
  | .ptr d => uptoBulk d + 1
  | .slice elems spare => uptoBulkAll elems + uptoBulkAll spare + 1
  | .agg parts => uptoBulkAll parts + 1
  | .iface _ d => uptoBulk d + 1
  | .map entries => uptoBulkEntries entries + 1
  | .held _ => 1
def uptoBulkAll {H : Type} : List (DataW H) → Nat
  | [] => 0
  | d :: r => uptoBulk d + uptoBulkAll r
def uptoBulkEntries {H : Type} : List (Lit × DataW H) → Nat
  | [] => 0
  | x :: r => uptoBulkEntry x + uptoBulkEntries r
def uptoBulkEntry {H : Type} : Lit × DataW H → Nat
  | (.string bytes, d) => bytes.length + uptoBulk d + 1
  | (_, d) => uptoBulk d + 1
 end
def uptoSmall : (H : Type) → List (DataW H) → Bool := fun _ ds => decide (uptoBulkAll ds ≤ 1048576)
def OpenSpec.upto (s : _root_.Go.ChangeSpec) : _root_.Go.OpenSpec := { _root_.Go.OpenSpec.ofChange s with cond := some uptoSmall }

/-- 'whorllaw11.AuditReasons', WHERE WHAT IT READS IS OF BULK AT MOST 1048576: true; the input reads as it did. -/
def auditReasonsUptoRow : OpenClaim := { program := "ytkhmjkhgmggjcaa", sum := "e09077ad108d7ea7d457525941f63d152db3402a046f7fc4ed3973d558d33e41", func := "whorl/whorllaw11.AuditReasons", spec := "auditReasons", apart := false, narrowed := true }
def AuditReasonsUptoSaid : Prop := auditReasonsUptoRow.holds Try.pinned (OpenSpec.upto auditReasonsSpec)

/-- 'whorllaw11.AuditTips', WHERE WHAT IT READS IS OF BULK AT MOST 1048576: true; the input reads as it did. -/
def auditTipsUptoRow : OpenClaim := { program := "ytkhmjkhgmggjcaa", sum := "e09077ad108d7ea7d457525941f63d152db3402a046f7fc4ed3973d558d33e41", func := "whorl/whorllaw11.AuditTips", spec := "auditTips", apart := false, narrowed := true }
def AuditTipsUptoSaid : Prop := auditTipsUptoRow.holds Try.pinned (OpenSpec.upto auditTipsSpec)

/-- 'whorllaw11.AuditWrites', WHERE WHAT IT READS IS OF BULK AT MOST 1048576: true; the input reads as it did. -/
def auditWritesUptoRow : OpenClaim := { program := "ytkhmjkhgmggjcaa", sum := "e09077ad108d7ea7d457525941f63d152db3402a046f7fc4ed3973d558d33e41", func := "whorl/whorllaw11.AuditWrites", spec := "auditWrites", apart := false, narrowed := true }
def AuditWritesUptoSaid : Prop := auditWritesUptoRow.holds Try.pinned (OpenSpec.upto auditWritesSpec)

/-- 'whorllaw11.AuditErases', WHERE WHAT IT READS IS OF BULK AT MOST 1048576: true; the input reads as it did. -/
def auditErasesUptoRow : OpenClaim := { program := "ytkhmjkhgmggjcaa", sum := "e09077ad108d7ea7d457525941f63d152db3402a046f7fc4ed3973d558d33e41", func := "whorl/whorllaw11.AuditErases", spec := "auditErases", unfollowed := true, recurses := true, apart := false, narrowed := true }
def AuditErasesUptoSaid : Prop := auditErasesUptoRow.holds Try.pinned (OpenSpec.upto auditErasesSpec)

/-- 'whorllaw11.AuditSalts', WHERE WHAT IT READS IS OF BULK AT MOST 1048576: true; the input reads as it did. -/
def auditSaltsUptoRow : OpenClaim := { program := "ytkhmjkhgmggjcaa", sum := "e09077ad108d7ea7d457525941f63d152db3402a046f7fc4ed3973d558d33e41", func := "whorl/whorllaw11.AuditSalts", spec := "auditSalts", unfollowed := true, recurses := true, apart := false, narrowed := true }
def AuditSaltsUptoSaid : Prop := auditSaltsUptoRow.holds Try.pinned (OpenSpec.upto auditSaltsSpec)

/-- 'whorllaw11.AuditPacked', WHERE WHAT IT READS IS OF BULK AT MOST 1048576: true; the input reads as it did. -/
def auditPackedUptoRow : OpenClaim := { program := "ytkhmjkhgmggjcaa", sum := "e09077ad108d7ea7d457525941f63d152db3402a046f7fc4ed3973d558d33e41", func := "whorl/whorllaw11.AuditPacked", spec := "auditPacked", unfollowed := true, recurses := true, apart := false, narrowed := true }
def AuditPackedUptoSaid : Prop := auditPackedUptoRow.holds Try.pinned (OpenSpec.upto auditPackedSpec)

/-- 'whorllaw11.AuditFollows', WHERE WHAT IT READS IS OF BULK AT MOST 1048576: true; the input reads as it did. -/
def auditFollowsUptoRow : OpenClaim := { program := "ytkhmjkhgmggjcaa", sum := "e09077ad108d7ea7d457525941f63d152db3402a046f7fc4ed3973d558d33e41", func := "whorl/whorllaw11.AuditFollows", spec := "auditFollows", unfollowed := true, recurses := true, apart := false, narrowed := true }
def AuditFollowsUptoSaid : Prop := auditFollowsUptoRow.holds Try.pinned (OpenSpec.upto auditFollowsSpec)

/-- 'whorllaw11.AuditErased', WHERE WHAT IT READS IS OF BULK AT MOST 1048576: true; the input reads as it did. -/
def auditErasedUptoRow : OpenClaim := { program := "ytkhmjkhgmggjcaa", sum := "e09077ad108d7ea7d457525941f63d152db3402a046f7fc4ed3973d558d33e41", func := "whorl/whorllaw11.AuditErased", spec := "auditErased", unfollowed := true, recurses := true, apart := false, narrowed := true }
def AuditErasedUptoSaid : Prop := auditErasedUptoRow.holds Try.pinned (OpenSpec.upto auditErasedSpec)

/-- 'whorllaw11.AuditSeen', WHERE WHAT IT READS IS OF BULK AT MOST 1048576: true; the input reads as it did. -/
def auditSeenUptoRow : OpenClaim := { program := "ytkhmjkhgmggjcaa", sum := "e09077ad108d7ea7d457525941f63d152db3402a046f7fc4ed3973d558d33e41", func := "whorl/whorllaw11.AuditSeen", spec := "auditSeen", unfollowed := true, recurses := true, apart := false, narrowed := true }
def AuditSeenUptoSaid : Prop := auditSeenUptoRow.holds Try.pinned (OpenSpec.upto auditSeenSpec)

/-- 'whorllaw11.AuditKept', WHERE WHAT IT READS IS OF BULK AT MOST 1048576: true; the input reads as it did. -/
def auditKeptUptoRow : OpenClaim := { program := "ytkhmjkhgmggjcaa", sum := "e09077ad108d7ea7d457525941f63d152db3402a046f7fc4ed3973d558d33e41", func := "whorl/whorllaw11.AuditKept", spec := "auditKept", unfollowed := true, recurses := true, apart := false, narrowed := true }
def AuditKeptUptoSaid : Prop := auditKeptUptoRow.holds Try.pinned (OpenSpec.upto auditKeptSpec)

/-- 'whorllaw11.AuditWritten', WHERE WHAT IT READS IS OF BULK AT MOST 1048576: true; the input reads as it did. -/
def auditWrittenUptoRow : OpenClaim := { program := "ytkhmjkhgmggjcaa", sum := "e09077ad108d7ea7d457525941f63d152db3402a046f7fc4ed3973d558d33e41", func := "whorl/whorllaw11.AuditWritten", spec := "auditWritten", unfollowed := true, recurses := true, apart := false, narrowed := true }
def AuditWrittenUptoSaid : Prop := auditWrittenUptoRow.holds Try.pinned (OpenSpec.upto auditWrittenSpec)

/-- 'whorllaw11.AuditAbout', WHERE WHAT IT READS IS OF BULK AT MOST 1048576: true; the input reads as it did. -/
def auditAboutUptoRow : OpenClaim := { program := "ytkhmjkhgmggjcaa", sum := "e09077ad108d7ea7d457525941f63d152db3402a046f7fc4ed3973d558d33e41", func := "whorl/whorllaw11.AuditAbout", spec := "auditAbout", unfollowed := true, recurses := true, apart := false, narrowed := true }
def AuditAboutUptoSaid : Prop := auditAboutUptoRow.holds Try.pinned (OpenSpec.upto auditAboutSpec)

/-- 'whorllaw11.AuditExamples', WHERE WHAT IT READS IS OF BULK AT MOST 1048576: true; the input reads as it did. -/
def auditExamplesUptoRow : OpenClaim := { program := "ytkhmjkhgmggjcaa", sum := "e09077ad108d7ea7d457525941f63d152db3402a046f7fc4ed3973d558d33e41", func := "whorl/whorllaw11.AuditExamples", spec := "auditExamples", unfollowed := true, recurses := true, apart := false, narrowed := true }
def AuditExamplesUptoSaid : Prop := auditExamplesUptoRow.holds Try.pinned (OpenSpec.upto auditExamplesSpec)

end Rows
end Go.Proofs.Ytkhmjkhgmggjcaa
