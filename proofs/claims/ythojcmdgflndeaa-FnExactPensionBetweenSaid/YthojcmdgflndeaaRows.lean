/-
  No cell of these rows narrows 'for every input' (looked for: loops, veiled, ifaces, maps, wideKeys, modest, calm, conditions, laid).
  DERIVED. THE GIVEN ROWS OF THIS SEAT. 10 by the template 'for every input the law returns true; each argument reads behind the call as it read before'; 0 by the template 'total and deterministic' (their statements: YthojcmdgflndeaaTotals.lean).
  GIVEN WITH THE SEED: the statements are not yours to turn. If you find one false, say at which input.
  Laid BY PROGRAM, IN A SANDBOX (cutbox-rows.mjs): the forced cells as the released guide's own fill.sh prints them over the translation 3e46457b7c906f11… (all of the seat's roots in one cut). By AI agents, Wed Nov 11 2026. No macro, syntax, notation, axiom, sorry.
-/
import Derived.Test.YthojcmdgflndeaaChecked
import GoSem.Claim
import GoSem.ClaimJoined
import GoSem.ClaimMapViews
import Derived.JoinedTies
import Derived.KernelRfl
namespace Go.Proofs.Ythojcmdgflndeaa
/- THE CELL 'sum', in the pinned program and in every row, IS THE sha256 OF THE DUMP (.gsa) THAT YthojcmdgflndeaaProg.lean LOADS. Nothing in Lean hashes anything: it is a label: what it is worth is what the hold of that sum in a sandbox is worth. -/
noncomputable def Try.pinned : Pinned := { name := "ythojcmdgflndeaa", sum := "3e46457b7c906f11d7a55432b413c7c8c23dec31dfef5103d9181708eef1fee2", checked := Try.checked }
namespace Rows
def none {H : Type} : Left H := { results := [], args := [] }

/-- 'laws.FnExactIsFamily': WHATEVER THE INPUT: true; the input reads as it did. -/
def fnExactIsFamilySpec : ChangeSpec := { name := "fnExactIsFamily", fn := fun _ => fun
  | [d] => { results := [.lit (.bool true)], args := [d] }
  | _ => none }
def fnExactIsFamilyRow : OpenClaim := { program := "ythojcmdgflndeaa", sum := "3e46457b7c906f11d7a55432b413c7c8c23dec31dfef5103d9181708eef1fee2", func := "loop.example/g01025/laws.FnExactIsFamily", spec := "fnExactIsFamily", unfollowed := true, recurses := true, apart := false }
def FnExactIsFamilySaid : Prop := fnExactIsFamilyRow.holds Try.pinned (OpenSpec.ofChange fnExactIsFamilySpec)

/-- ITS FALSE NEIGHBOUR: 'it returns false'. Refute it at one input. -/
def fnExactIsFamilyWrong : ChangeSpec := { name := "fnExactIsFamily", fn := fun _ => fun
  | [d] => { results := [.lit (.bool false)], args := [d] }
  | _ => none }
def FnExactIsFamilyWrongFalsely : Prop := fnExactIsFamilyRow.holds Try.pinned (OpenSpec.ofChange fnExactIsFamilyWrong)

/-- 'laws.FnExactEndOfPensions': WHATEVER THE INPUT: true; the input reads as it did. -/
def fnExactEndOfPensionsSpec : ChangeSpec := { name := "fnExactEndOfPensions", fn := fun _ => fun
  | [d] => { results := [.lit (.bool true)], args := [d] }
  | _ => none }
def fnExactEndOfPensionsRow : OpenClaim := { program := "ythojcmdgflndeaa", sum := "3e46457b7c906f11d7a55432b413c7c8c23dec31dfef5103d9181708eef1fee2", func := "loop.example/g01025/laws.FnExactEndOfPensions", spec := "fnExactEndOfPensions", unfollowed := true, recurses := true, apart := false }
def FnExactEndOfPensionsSaid : Prop := fnExactEndOfPensionsRow.holds Try.pinned (OpenSpec.ofChange fnExactEndOfPensionsSpec)

/-- ITS FALSE NEIGHBOUR: 'it returns false'. Refute it at one input. -/
def fnExactEndOfPensionsWrong : ChangeSpec := { name := "fnExactEndOfPensions", fn := fun _ => fun
  | [d] => { results := [.lit (.bool false)], args := [d] }
  | _ => none }
def FnExactEndOfPensionsWrongFalsely : Prop := fnExactEndOfPensionsRow.holds Try.pinned (OpenSpec.ofChange fnExactEndOfPensionsWrong)

/-- 'laws.FnExactGetsWidow': WHATEVER THE INPUT: true; the input reads as it did. -/
def fnExactGetsWidowSpec : ChangeSpec := { name := "fnExactGetsWidow", fn := fun _ => fun
  | [d1, d2] => { results := [.lit (.bool true)], args := [d1, d2] }
  | _ => none }
def fnExactGetsWidowRow : OpenClaim := { program := "ythojcmdgflndeaa", sum := "3e46457b7c906f11d7a55432b413c7c8c23dec31dfef5103d9181708eef1fee2", func := "loop.example/g01025/laws.FnExactGetsWidow", spec := "fnExactGetsWidow", unfollowed := true, recurses := true, apart := false }
def FnExactGetsWidowSaid : Prop := fnExactGetsWidowRow.holds Try.pinned (OpenSpec.ofChange fnExactGetsWidowSpec)

/-- ITS FALSE NEIGHBOUR: 'it returns false'. Refute it at one input. -/
def fnExactGetsWidowWrong : ChangeSpec := { name := "fnExactGetsWidow", fn := fun _ => fun
  | [d1, d2] => { results := [.lit (.bool false)], args := [d1, d2] }
  | _ => none }
def FnExactGetsWidowWrongFalsely : Prop := fnExactGetsWidowRow.holds Try.pinned (OpenSpec.ofChange fnExactGetsWidowWrong)

/-- 'laws.FnExactOrphansIn': WHATEVER THE INPUT: true; the input reads as it did. -/
def fnExactOrphansInSpec : ChangeSpec := { name := "fnExactOrphansIn", fn := fun _ => fun
  | [d1, d2] => { results := [.lit (.bool true)], args := [d1, d2] }
  | _ => none }
def fnExactOrphansInRow : OpenClaim := { program := "ythojcmdgflndeaa", sum := "3e46457b7c906f11d7a55432b413c7c8c23dec31dfef5103d9181708eef1fee2", func := "loop.example/g01025/laws.FnExactOrphansIn", spec := "fnExactOrphansIn", unfollowed := true, recurses := true, apart := false }
def FnExactOrphansInSaid : Prop := fnExactOrphansInRow.holds Try.pinned (OpenSpec.ofChange fnExactOrphansInSpec)

/-- ITS FALSE NEIGHBOUR: 'it returns false'. Refute it at one input. -/
def fnExactOrphansInWrong : ChangeSpec := { name := "fnExactOrphansIn", fn := fun _ => fun
  | [d1, d2] => { results := [.lit (.bool false)], args := [d1, d2] }
  | _ => none }
def FnExactOrphansInWrongFalsely : Prop := fnExactOrphansInRow.holds Try.pinned (OpenSpec.ofChange fnExactOrphansInWrong)

/-- 'laws.FnExactNextChange': WHATEVER THE INPUT: true; the input reads as it did. -/
def fnExactNextChangeSpec : ChangeSpec := { name := "fnExactNextChange", fn := fun _ => fun
  | [d1, d2] => { results := [.lit (.bool true)], args := [d1, d2] }
  | _ => none }
def fnExactNextChangeRow : OpenClaim := { program := "ythojcmdgflndeaa", sum := "3e46457b7c906f11d7a55432b413c7c8c23dec31dfef5103d9181708eef1fee2", func := "loop.example/g01025/laws.FnExactNextChange", spec := "fnExactNextChange", unfollowed := true, recurses := true, apart := false }
def FnExactNextChangeSaid : Prop := fnExactNextChangeRow.holds Try.pinned (OpenSpec.ofChange fnExactNextChangeSpec)

/-- ITS FALSE NEIGHBOUR: 'it returns false'. Refute it at one input. -/
def fnExactNextChangeWrong : ChangeSpec := { name := "fnExactNextChange", fn := fun _ => fun
  | [d1, d2] => { results := [.lit (.bool false)], args := [d1, d2] }
  | _ => none }
def FnExactNextChangeWrongFalsely : Prop := fnExactNextChangeRow.holds Try.pinned (OpenSpec.ofChange fnExactNextChangeWrong)

/-- 'laws.FnExactPensionIn': WHATEVER THE INPUT: true; the input reads as it did. -/
def fnExactPensionInSpec : ChangeSpec := { name := "fnExactPensionIn", fn := fun _ => fun
  | [d1, d2, d3, d4] => { results := [.lit (.bool true)], args := [d1, d2, d3, d4] }
  | _ => none }
def fnExactPensionInRow : OpenClaim := { program := "ythojcmdgflndeaa", sum := "3e46457b7c906f11d7a55432b413c7c8c23dec31dfef5103d9181708eef1fee2", func := "loop.example/g01025/laws.FnExactPensionIn", spec := "fnExactPensionIn", unfollowed := true, recurses := true, apart := false }
def FnExactPensionInSaid : Prop := fnExactPensionInRow.holds Try.pinned (OpenSpec.ofChange fnExactPensionInSpec)

/-- ITS FALSE NEIGHBOUR: 'it returns false'. Refute it at one input. -/
def fnExactPensionInWrong : ChangeSpec := { name := "fnExactPensionIn", fn := fun _ => fun
  | [d1, d2, d3, d4] => { results := [.lit (.bool false)], args := [d1, d2, d3, d4] }
  | _ => none }
def FnExactPensionInWrongFalsely : Prop := fnExactPensionInRow.holds Try.pinned (OpenSpec.ofChange fnExactPensionInWrong)

/-- 'laws.FnExactRemarry': WHATEVER THE INPUT: true; the input reads as it did. -/
def fnExactRemarrySpec : ChangeSpec := { name := "fnExactRemarry", fn := fun _ => fun
  | [d1, d2] => { results := [.lit (.bool true)], args := [d1, d2] }
  | _ => none }
def fnExactRemarryRow : OpenClaim := { program := "ythojcmdgflndeaa", sum := "3e46457b7c906f11d7a55432b413c7c8c23dec31dfef5103d9181708eef1fee2", func := "loop.example/g01025/laws.FnExactRemarry", spec := "fnExactRemarry", unfollowed := true, recurses := true, apart := false }
def FnExactRemarrySaid : Prop := fnExactRemarryRow.holds Try.pinned (OpenSpec.ofChange fnExactRemarrySpec)

/-- ITS FALSE NEIGHBOUR: 'it returns false'. Refute it at one input. -/
def fnExactRemarryWrong : ChangeSpec := { name := "fnExactRemarry", fn := fun _ => fun
  | [d1, d2] => { results := [.lit (.bool false)], args := [d1, d2] }
  | _ => none }
def FnExactRemarryWrongFalsely : Prop := fnExactRemarryRow.holds Try.pinned (OpenSpec.ofChange fnExactRemarryWrong)

/-- 'laws.FnExactPensionBetween': WHATEVER THE INPUT: true; the input reads as it did. -/
def fnExactPensionBetweenSpec : ChangeSpec := { name := "fnExactPensionBetween", fn := fun _ => fun
  | [d1, d2, d3, d4, d5] => { results := [.lit (.bool true)], args := [d1, d2, d3, d4, d5] }
  | _ => none }
def fnExactPensionBetweenRow : OpenClaim := { program := "ythojcmdgflndeaa", sum := "3e46457b7c906f11d7a55432b413c7c8c23dec31dfef5103d9181708eef1fee2", func := "loop.example/g01025/laws.FnExactPensionBetween", spec := "fnExactPensionBetween", unfollowed := true, recurses := true, apart := false }
def FnExactPensionBetweenSaid : Prop := fnExactPensionBetweenRow.holds Try.pinned (OpenSpec.ofChange fnExactPensionBetweenSpec)

/-- ITS FALSE NEIGHBOUR: 'it returns false'. Refute it at one input. -/
def fnExactPensionBetweenWrong : ChangeSpec := { name := "fnExactPensionBetween", fn := fun _ => fun
  | [d1, d2, d3, d4, d5] => { results := [.lit (.bool false)], args := [d1, d2, d3, d4, d5] }
  | _ => none }
def FnExactPensionBetweenWrongFalsely : Prop := fnExactPensionBetweenRow.holds Try.pinned (OpenSpec.ofChange fnExactPensionBetweenWrong)

/-- 'laws.FnFamilies': WHATEVER THE INPUT: true; the input reads as it did. -/
def fnFamiliesSpec : ChangeSpec := { name := "fnFamilies", fn := fun _ => fun
  | [d] => { results := [.lit (.bool true)], args := [d] }
  | _ => none }
def fnFamiliesRow : OpenClaim := { program := "ythojcmdgflndeaa", sum := "3e46457b7c906f11d7a55432b413c7c8c23dec31dfef5103d9181708eef1fee2", func := "loop.example/g01025/laws.FnFamilies", spec := "fnFamilies", unfollowed := true, recurses := true, apart := false }
def FnFamiliesSaid : Prop := fnFamiliesRow.holds Try.pinned (OpenSpec.ofChange fnFamiliesSpec)

/-- ITS FALSE NEIGHBOUR: 'it returns false'. Refute it at one input. -/
def fnFamiliesWrong : ChangeSpec := { name := "fnFamilies", fn := fun _ => fun
  | [d] => { results := [.lit (.bool false)], args := [d] }
  | _ => none }
def FnFamiliesWrongFalsely : Prop := fnFamiliesRow.holds Try.pinned (OpenSpec.ofChange fnFamiliesWrong)

/-- 'laws.FnFamilyChanges': WHATEVER THE INPUT: true; the input reads as it did. -/
def fnFamilyChangesSpec : ChangeSpec := { name := "fnFamilyChanges", fn := fun _ => fun
  | [d] => { results := [.lit (.bool true)], args := [d] }
  | _ => none }
def fnFamilyChangesRow : OpenClaim := { program := "ythojcmdgflndeaa", sum := "3e46457b7c906f11d7a55432b413c7c8c23dec31dfef5103d9181708eef1fee2", func := "loop.example/g01025/laws.FnFamilyChanges", spec := "fnFamilyChanges", unfollowed := true, recurses := true, apart := false }
def FnFamilyChangesSaid : Prop := fnFamilyChangesRow.holds Try.pinned (OpenSpec.ofChange fnFamilyChangesSpec)

/-- ITS FALSE NEIGHBOUR: 'it returns false'. Refute it at one input. -/
def fnFamilyChangesWrong : ChangeSpec := { name := "fnFamilyChanges", fn := fun _ => fun
  | [d] => { results := [.lit (.bool false)], args := [d] }
  | _ => none }
def FnFamilyChangesWrongFalsely : Prop := fnFamilyChangesRow.holds Try.pinned (OpenSpec.ofChange fnFamilyChangesWrong)

/- THE SECOND FORM. 'bulk': how many values and letters a reading holds, each counted each time it is reached (what is shared counts as often as it is met; a slice's spare places count too). A statement '..UptoSaid' is the law's where the arguments, and the package variables that the reading takes, are together of bulk at most 1048576: NARROWER than '..Said'. Prove '..Said' where nothing that the law and all that it calls make is longer than what came in: it says more and counts as full. Else prove '..UptoSaid'. A law counts once. -/
mutual
def uptoBulk {H : Type} : DataW H → Nat
  | .lit (.string bytes) => bytes.length + 1
  | .lit _ => 1
  | .nil => 1
  | .ptr d => uptoBulk d + 1
  | .slice elems spare => uptoBulkAll elems + uptoBulkAll spare + 1
  | .agg parts => uptoBulkAll parts + 1
  | .iface _ d => uptoBulk d + 1
  | .map entries => uptoBulkEntries entries + 1
  | .held _ => 1
def uptoBulkAll {H : Type} : List (DataW H) → Nat
  | [] => 0
  | d :: r => uptoBulk d + uptoBulkAll r
def uptoBulkEntries {H : Type} : List (Lit × DataW H) → Nat
  | [] => 0
  | x :: r => uptoBulkEntry x + uptoBulkEntries r
def uptoBulkEntry {H : Type} : Lit × DataW H → Nat
  | (.string bytes, d) => bytes.length + uptoBulk d + 1
  | (_, d) => uptoBulk d + 1
 end
def uptoSmall : (H : Type) → List (DataW H) → Bool := fun _ ds => decide (uptoBulkAll ds ≤ 1048576)
def OpenSpec.upto (s : _root_.Go.ChangeSpec) : _root_.Go.OpenSpec := { _root_.Go.OpenSpec.ofChange s with cond := some uptoSmall }

/-- 'laws.FnExactIsFamily', WHERE WHAT IT READS IS OF BULK AT MOST 1048576: true; the input reads as it did. -/
def fnExactIsFamilyUptoRow : OpenClaim := { program := "ythojcmdgflndeaa", sum := "3e46457b7c906f11d7a55432b413c7c8c23dec31dfef5103d9181708eef1fee2", func := "loop.example/g01025/laws.FnExactIsFamily", spec := "fnExactIsFamily", unfollowed := true, recurses := true, apart := false, narrowed := true }
def FnExactIsFamilyUptoSaid : Prop := fnExactIsFamilyUptoRow.holds Try.pinned (OpenSpec.upto fnExactIsFamilySpec)

/-- 'laws.FnExactEndOfPensions', WHERE WHAT IT READS IS OF BULK AT MOST 1048576: true; the input reads as it did. -/
def fnExactEndOfPensionsUptoRow : OpenClaim := { program := "ythojcmdgflndeaa", sum := "3e46457b7c906f11d7a55432b413c7c8c23dec31dfef5103d9181708eef1fee2", func := "loop.example/g01025/laws.FnExactEndOfPensions", spec := "fnExactEndOfPensions", unfollowed := true, recurses := true, apart := false, narrowed := true }
def FnExactEndOfPensionsUptoSaid : Prop := fnExactEndOfPensionsUptoRow.holds Try.pinned (OpenSpec.upto fnExactEndOfPensionsSpec)

/-- 'laws.FnExactGetsWidow', WHERE WHAT IT READS IS OF BULK AT MOST 1048576: true; the input reads as it did. -/
def fnExactGetsWidowUptoRow : OpenClaim := { program := "ythojcmdgflndeaa", sum := "3e46457b7c906f11d7a55432b413c7c8c23dec31dfef5103d9181708eef1fee2", func := "loop.example/g01025/laws.FnExactGetsWidow", spec := "fnExactGetsWidow", unfollowed := true, recurses := true, apart := false, narrowed := true }
def FnExactGetsWidowUptoSaid : Prop := fnExactGetsWidowUptoRow.holds Try.pinned (OpenSpec.upto fnExactGetsWidowSpec)

/-- 'laws.FnExactOrphansIn', WHERE WHAT IT READS IS OF BULK AT MOST 1048576: true; the input reads as it did. -/
def fnExactOrphansInUptoRow : OpenClaim := { program := "ythojcmdgflndeaa", sum := "3e46457b7c906f11d7a55432b413c7c8c23dec31dfef5103d9181708eef1fee2", func := "loop.example/g01025/laws.FnExactOrphansIn", spec := "fnExactOrphansIn", unfollowed := true, recurses := true, apart := false, narrowed := true }
def FnExactOrphansInUptoSaid : Prop := fnExactOrphansInUptoRow.holds Try.pinned (OpenSpec.upto fnExactOrphansInSpec)

/-- 'laws.FnExactNextChange', WHERE WHAT IT READS IS OF BULK AT MOST 1048576: true; the input reads as it did. -/
def fnExactNextChangeUptoRow : OpenClaim := { program := "ythojcmdgflndeaa", sum := "3e46457b7c906f11d7a55432b413c7c8c23dec31dfef5103d9181708eef1fee2", func := "loop.example/g01025/laws.FnExactNextChange", spec := "fnExactNextChange", unfollowed := true, recurses := true, apart := false, narrowed := true }
def FnExactNextChangeUptoSaid : Prop := fnExactNextChangeUptoRow.holds Try.pinned (OpenSpec.upto fnExactNextChangeSpec)

/-- 'laws.FnExactPensionIn', WHERE WHAT IT READS IS OF BULK AT MOST 1048576: true; the input reads as it did. -/
def fnExactPensionInUptoRow : OpenClaim := { program := "ythojcmdgflndeaa", sum := "3e46457b7c906f11d7a55432b413c7c8c23dec31dfef5103d9181708eef1fee2", func := "loop.example/g01025/laws.FnExactPensionIn", spec := "fnExactPensionIn", unfollowed := true, recurses := true, apart := false, narrowed := true }
def FnExactPensionInUptoSaid : Prop := fnExactPensionInUptoRow.holds Try.pinned (OpenSpec.upto fnExactPensionInSpec)

/-- 'laws.FnExactRemarry', WHERE WHAT IT READS IS OF BULK AT MOST 1048576: true; the input reads as it did. -/
def fnExactRemarryUptoRow : OpenClaim := { program := "ythojcmdgflndeaa", sum := "3e46457b7c906f11d7a55432b413c7c8c23dec31dfef5103d9181708eef1fee2", func := "loop.example/g01025/laws.FnExactRemarry", spec := "fnExactRemarry", unfollowed := true, recurses := true, apart := false, narrowed := true }
def FnExactRemarryUptoSaid : Prop := fnExactRemarryUptoRow.holds Try.pinned (OpenSpec.upto fnExactRemarrySpec)

/-- 'laws.FnExactPensionBetween', WHERE WHAT IT READS IS OF BULK AT MOST 1048576: true; the input reads as it did. -/
def fnExactPensionBetweenUptoRow : OpenClaim := { program := "ythojcmdgflndeaa", sum := "3e46457b7c906f11d7a55432b413c7c8c23dec31dfef5103d9181708eef1fee2", func := "loop.example/g01025/laws.FnExactPensionBetween", spec := "fnExactPensionBetween", unfollowed := true, recurses := true, apart := false, narrowed := true }
def FnExactPensionBetweenUptoSaid : Prop := fnExactPensionBetweenUptoRow.holds Try.pinned (OpenSpec.upto fnExactPensionBetweenSpec)

/-- 'laws.FnFamilies', WHERE WHAT IT READS IS OF BULK AT MOST 1048576: true; the input reads as it did. -/
def fnFamiliesUptoRow : OpenClaim := { program := "ythojcmdgflndeaa", sum := "3e46457b7c906f11d7a55432b413c7c8c23dec31dfef5103d9181708eef1fee2", func := "loop.example/g01025/laws.FnFamilies", spec := "fnFamilies", unfollowed := true, recurses := true, apart := false, narrowed := true }
def FnFamiliesUptoSaid : Prop := fnFamiliesUptoRow.holds Try.pinned (OpenSpec.upto fnFamiliesSpec)

/-- 'laws.FnFamilyChanges', WHERE WHAT IT READS IS OF BULK AT MOST 1048576: true; the input reads as it did. -/
def fnFamilyChangesUptoRow : OpenClaim := { program := "ythojcmdgflndeaa", sum := "3e46457b7c906f11d7a55432b413c7c8c23dec31dfef5103d9181708eef1fee2", func := "loop.example/g01025/laws.FnFamilyChanges", spec := "fnFamilyChanges", unfollowed := true, recurses := true, apart := false, narrowed := true }
def FnFamilyChangesUptoSaid : Prop := fnFamilyChangesUptoRow.holds Try.pinned (OpenSpec.upto fnFamilyChangesSpec)

end Rows
end Go.Proofs.Ythojcmdgflndeaa
