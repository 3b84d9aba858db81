/-
  No cell of these rows narrows 'for every input' (looked for: loops, veiled, ifaces, maps, wideKeys, modest, calm, conditions, laid).
  DERIVED. THE GIVEN ROWS OF THIS SEAT. 11 by the template 'for every input the law returns true; each argument reads behind the call as it read before'; 0 by the template 'total and deterministic' (their statements: YtggfonpjmplmfaaTotals.lean).
  GIVEN WITH THE SEED: the statements are not yours to turn. If you find one false, say at which input.
  Laid BY PROGRAM, IN A SANDBOX (cutbox-rows.mjs): the forced cells as the released guide's own fill.sh prints them over the translation ee061aa44710e970… (all of the seat's roots in one cut). By AI agents, Wed Nov 11 2026. No macro, syntax, notation, axiom, sorry.
-/
import Derived.Test.YtggfonpjmplmfaaChecked
import GoSem.Claim
import GoSem.ClaimJoined
import GoSem.ClaimMapViews
import Derived.JoinedTies
import Derived.KernelRfl
namespace Go.Proofs.Ytggfonpjmplmfaa
/- THE CELL 'sum', in the pinned program and in every row, IS THE sha256 OF THE DUMP (.gsa) THAT YtggfonpjmplmfaaProg.lean LOADS. Nothing in Lean hashes anything: it is a label: what it is worth is what the hold of that sum in a sandbox is worth. -/
noncomputable def Try.pinned : Pinned := { name := "ytggfonpjmplmfaa", sum := "ee061aa44710e970b5be2cb10a8d191da2c4a31262ec62e07fa8ab2202c8c81a", checked := Try.checked }
namespace Rows
def none {H : Type} : Left H := { results := [], args := [] }

/-- 'laws.FnExactLivesAt': WHATEVER THE INPUT: true; the input reads as it did. -/
def fnExactLivesAtSpec : ChangeSpec := { name := "fnExactLivesAt", fn := fun _ => fun
  | [d1, d2] => { results := [.lit (.bool true)], args := [d1, d2] }
  | _ => none }
def fnExactLivesAtRow : OpenClaim := { program := "ytggfonpjmplmfaa", sum := "ee061aa44710e970b5be2cb10a8d191da2c4a31262ec62e07fa8ab2202c8c81a", func := "loop.example/g01025/laws.FnExactLivesAt", spec := "fnExactLivesAt", apart := false }
def FnExactLivesAtSaid : Prop := fnExactLivesAtRow.holds Try.pinned (OpenSpec.ofChange fnExactLivesAtSpec)

/-- ITS FALSE NEIGHBOUR: 'it returns false'. Refute it at one input. -/
def fnExactLivesAtWrong : ChangeSpec := { name := "fnExactLivesAt", fn := fun _ => fun
  | [d1, d2] => { results := [.lit (.bool false)], args := [d1, d2] }
  | _ => none }
def FnExactLivesAtWrongFalsely : Prop := fnExactLivesAtRow.holds Try.pinned (OpenSpec.ofChange fnExactLivesAtWrong)

/-- 'laws.FnExactDeathsAt': WHATEVER THE INPUT: true; the input reads as it did. -/
def fnExactDeathsAtSpec : ChangeSpec := { name := "fnExactDeathsAt", fn := fun _ => fun
  | [d1, d2] => { results := [.lit (.bool true)], args := [d1, d2] }
  | _ => none }
def fnExactDeathsAtRow : OpenClaim := { program := "ytggfonpjmplmfaa", sum := "ee061aa44710e970b5be2cb10a8d191da2c4a31262ec62e07fa8ab2202c8c81a", func := "loop.example/g01025/laws.FnExactDeathsAt", spec := "fnExactDeathsAt", apart := false }
def FnExactDeathsAtSaid : Prop := fnExactDeathsAtRow.holds Try.pinned (OpenSpec.ofChange fnExactDeathsAtSpec)

/-- ITS FALSE NEIGHBOUR: 'it returns false'. Refute it at one input. -/
def fnExactDeathsAtWrong : ChangeSpec := { name := "fnExactDeathsAt", fn := fun _ => fun
  | [d1, d2] => { results := [.lit (.bool false)], args := [d1, d2] }
  | _ => none }
def FnExactDeathsAtWrongFalsely : Prop := fnExactDeathsAtRow.holds Try.pinned (OpenSpec.ofChange fnExactDeathsAtWrong)

/-- 'laws.FnExactMiddleAge': WHATEVER THE INPUT: true; the input reads as it did. -/
def fnExactMiddleAgeSpec : ChangeSpec := { name := "fnExactMiddleAge", fn := fun _ => fun
  | [d1, d2] => { results := [.lit (.bool true)], args := [d1, d2] }
  | _ => none }
def fnExactMiddleAgeRow : OpenClaim := { program := "ytggfonpjmplmfaa", sum := "ee061aa44710e970b5be2cb10a8d191da2c4a31262ec62e07fa8ab2202c8c81a", func := "loop.example/g01025/laws.FnExactMiddleAge", spec := "fnExactMiddleAge", apart := false }
def FnExactMiddleAgeSaid : Prop := fnExactMiddleAgeRow.holds Try.pinned (OpenSpec.ofChange fnExactMiddleAgeSpec)

/-- ITS FALSE NEIGHBOUR: 'it returns false'. Refute it at one input. -/
def fnExactMiddleAgeWrong : ChangeSpec := { name := "fnExactMiddleAge", fn := fun _ => fun
  | [d1, d2] => { results := [.lit (.bool false)], args := [d1, d2] }
  | _ => none }
def FnExactMiddleAgeWrongFalsely : Prop := fnExactMiddleAgeRow.holds Try.pinned (OpenSpec.ofChange fnExactMiddleAgeWrong)

/-- 'laws.FnExactSurvivalOf': WHATEVER THE INPUT: true; the input reads as it did. -/
def fnExactSurvivalOfSpec : ChangeSpec := { name := "fnExactSurvivalOf", fn := fun _ => fun
  | [d1, d2, d3] => { results := [.lit (.bool true)], args := [d1, d2, d3] }
  | _ => none }
def fnExactSurvivalOfRow : OpenClaim := { program := "ytggfonpjmplmfaa", sum := "ee061aa44710e970b5be2cb10a8d191da2c4a31262ec62e07fa8ab2202c8c81a", func := "loop.example/g01025/laws.FnExactSurvivalOf", spec := "fnExactSurvivalOf", recurses := true, apart := false }
def FnExactSurvivalOfSaid : Prop := fnExactSurvivalOfRow.holds Try.pinned (OpenSpec.ofChange fnExactSurvivalOfSpec)

/-- ITS FALSE NEIGHBOUR: 'it returns false'. Refute it at one input. -/
def fnExactSurvivalOfWrong : ChangeSpec := { name := "fnExactSurvivalOf", fn := fun _ => fun
  | [d1, d2, d3] => { results := [.lit (.bool false)], args := [d1, d2, d3] }
  | _ => none }
def FnExactSurvivalOfWrongFalsely : Prop := fnExactSurvivalOfRow.holds Try.pinned (OpenSpec.ofChange fnExactSurvivalOfWrong)

/-- 'laws.FnExactBothAlive': WHATEVER THE INPUT: true; the input reads as it did. -/
def fnExactBothAliveSpec : ChangeSpec := { name := "fnExactBothAlive", fn := fun _ => fun
  | [d1, d2, d3, d4, d5] => { results := [.lit (.bool true)], args := [d1, d2, d3, d4, d5] }
  | _ => none }
def fnExactBothAliveRow : OpenClaim := { program := "ytggfonpjmplmfaa", sum := "ee061aa44710e970b5be2cb10a8d191da2c4a31262ec62e07fa8ab2202c8c81a", func := "loop.example/g01025/laws.FnExactBothAlive", spec := "fnExactBothAlive", recurses := true, apart := false }
def FnExactBothAliveSaid : Prop := fnExactBothAliveRow.holds Try.pinned (OpenSpec.ofChange fnExactBothAliveSpec)

/-- ITS FALSE NEIGHBOUR: 'it returns false'. Refute it at one input. -/
def fnExactBothAliveWrong : ChangeSpec := { name := "fnExactBothAlive", fn := fun _ => fun
  | [d1, d2, d3, d4, d5] => { results := [.lit (.bool false)], args := [d1, d2, d3, d4, d5] }
  | _ => none }
def FnExactBothAliveWrongFalsely : Prop := fnExactBothAliveRow.holds Try.pinned (OpenSpec.ofChange fnExactBothAliveWrong)

/-- 'laws.FnExactOneAlive': WHATEVER THE INPUT: true; the input reads as it did. -/
def fnExactOneAliveSpec : ChangeSpec := { name := "fnExactOneAlive", fn := fun _ => fun
  | [d1, d2, d3, d4, d5] => { results := [.lit (.bool true)], args := [d1, d2, d3, d4, d5] }
  | _ => none }
def fnExactOneAliveRow : OpenClaim := { program := "ytggfonpjmplmfaa", sum := "ee061aa44710e970b5be2cb10a8d191da2c4a31262ec62e07fa8ab2202c8c81a", func := "loop.example/g01025/laws.FnExactOneAlive", spec := "fnExactOneAlive", recurses := true, apart := false }
def FnExactOneAliveSaid : Prop := fnExactOneAliveRow.holds Try.pinned (OpenSpec.ofChange fnExactOneAliveSpec)

/-- ITS FALSE NEIGHBOUR: 'it returns false'. Refute it at one input. -/
def fnExactOneAliveWrong : ChangeSpec := { name := "fnExactOneAlive", fn := fun _ => fun
  | [d1, d2, d3, d4, d5] => { results := [.lit (.bool false)], args := [d1, d2, d3, d4, d5] }
  | _ => none }
def FnExactOneAliveWrongFalsely : Prop := fnExactOneAliveRow.holds Try.pinned (OpenSpec.ofChange fnExactOneAliveWrong)

/-- 'laws.FnExactExpectedYears': WHATEVER THE INPUT: true; the input reads as it did. -/
def fnExactExpectedYearsSpec : ChangeSpec := { name := "fnExactExpectedYears", fn := fun _ => fun
  | [d1, d2] => { results := [.lit (.bool true)], args := [d1, d2] }
  | _ => none }
def fnExactExpectedYearsRow : OpenClaim := { program := "ytggfonpjmplmfaa", sum := "ee061aa44710e970b5be2cb10a8d191da2c4a31262ec62e07fa8ab2202c8c81a", func := "loop.example/g01025/laws.FnExactExpectedYears", spec := "fnExactExpectedYears", recurses := true, apart := false }
def FnExactExpectedYearsSaid : Prop := fnExactExpectedYearsRow.holds Try.pinned (OpenSpec.ofChange fnExactExpectedYearsSpec)

/-- ITS FALSE NEIGHBOUR: 'it returns false'. Refute it at one input. -/
def fnExactExpectedYearsWrong : ChangeSpec := { name := "fnExactExpectedYears", fn := fun _ => fun
  | [d1, d2] => { results := [.lit (.bool false)], args := [d1, d2] }
  | _ => none }
def FnExactExpectedYearsWrongFalsely : Prop := fnExactExpectedYearsRow.holds Try.pinned (OpenSpec.ofChange fnExactExpectedYearsWrong)

/-- 'laws.FnExactJointTable': WHATEVER THE INPUT: true; the input reads as it did. -/
def fnExactJointTableSpec : ChangeSpec := { name := "fnExactJointTable", fn := fun _ => fun
  | [d1, d2, d3, d4] => { results := [.lit (.bool true)], args := [d1, d2, d3, d4] }
  | _ => none }
def fnExactJointTableRow : OpenClaim := { program := "ytggfonpjmplmfaa", sum := "ee061aa44710e970b5be2cb10a8d191da2c4a31262ec62e07fa8ab2202c8c81a", func := "loop.example/g01025/laws.FnExactJointTable", spec := "fnExactJointTable", apart := false }
def FnExactJointTableSaid : Prop := fnExactJointTableRow.holds Try.pinned (OpenSpec.ofChange fnExactJointTableSpec)

/-- ITS FALSE NEIGHBOUR: 'it returns false'. Refute it at one input. -/
def fnExactJointTableWrong : ChangeSpec := { name := "fnExactJointTable", fn := fun _ => fun
  | [d1, d2, d3, d4] => { results := [.lit (.bool false)], args := [d1, d2, d3, d4] }
  | _ => none }
def FnExactJointTableWrongFalsely : Prop := fnExactJointTableRow.holds Try.pinned (OpenSpec.ofChange fnExactJointTableWrong)

/-- 'laws.FnExactMeanPayments': WHATEVER THE INPUT: true; the input reads as it did. -/
def fnExactMeanPaymentsSpec : ChangeSpec := { name := "fnExactMeanPayments", fn := fun _ => fun
  | [d1, d2] => { results := [.lit (.bool true)], args := [d1, d2] }
  | _ => none }
def fnExactMeanPaymentsRow : OpenClaim := { program := "ytggfonpjmplmfaa", sum := "ee061aa44710e970b5be2cb10a8d191da2c4a31262ec62e07fa8ab2202c8c81a", func := "loop.example/g01025/laws.FnExactMeanPayments", spec := "fnExactMeanPayments", recurses := true, apart := false }
def FnExactMeanPaymentsSaid : Prop := fnExactMeanPaymentsRow.holds Try.pinned (OpenSpec.ofChange fnExactMeanPaymentsSpec)

/-- ITS FALSE NEIGHBOUR: 'it returns false'. Refute it at one input. -/
def fnExactMeanPaymentsWrong : ChangeSpec := { name := "fnExactMeanPayments", fn := fun _ => fun
  | [d1, d2] => { results := [.lit (.bool false)], args := [d1, d2] }
  | _ => none }
def FnExactMeanPaymentsWrongFalsely : Prop := fnExactMeanPaymentsRow.holds Try.pinned (OpenSpec.ofChange fnExactMeanPaymentsWrong)

/-- 'laws.FnMadeTables': WHATEVER THE INPUT: true; the input reads as it did. -/
def fnMadeTablesSpec : ChangeSpec := { name := "fnMadeTables", fn := fun _ => fun
  | [d] => { results := [.lit (.bool true)], args := [d] }
  | _ => none }
def fnMadeTablesRow : OpenClaim := { program := "ytggfonpjmplmfaa", sum := "ee061aa44710e970b5be2cb10a8d191da2c4a31262ec62e07fa8ab2202c8c81a", func := "loop.example/g01025/laws.FnMadeTables", spec := "fnMadeTables", unfollowed := true, recurses := true, apart := false }
def FnMadeTablesSaid : Prop := fnMadeTablesRow.holds Try.pinned (OpenSpec.ofChange fnMadeTablesSpec)

/-- ITS FALSE NEIGHBOUR: 'it returns false'. Refute it at one input. -/
def fnMadeTablesWrong : ChangeSpec := { name := "fnMadeTables", fn := fun _ => fun
  | [d] => { results := [.lit (.bool false)], args := [d] }
  | _ => none }
def FnMadeTablesWrongFalsely : Prop := fnMadeTablesRow.holds Try.pinned (OpenSpec.ofChange fnMadeTablesWrong)

/-- 'laws.FnExactColumnsAt': WHATEVER THE INPUT: true; the input reads as it did. -/
def fnExactColumnsAtSpec : ChangeSpec := { name := "fnExactColumnsAt", fn := fun _ => fun
  | [d1, d2, d3] => { results := [.lit (.bool true)], args := [d1, d2, d3] }
  | _ => none }
def fnExactColumnsAtRow : OpenClaim := { program := "ytggfonpjmplmfaa", sum := "ee061aa44710e970b5be2cb10a8d191da2c4a31262ec62e07fa8ab2202c8c81a", func := "loop.example/g01025/laws.FnExactColumnsAt", spec := "fnExactColumnsAt", apart := false }
def FnExactColumnsAtSaid : Prop := fnExactColumnsAtRow.holds Try.pinned (OpenSpec.ofChange fnExactColumnsAtSpec)

/-- ITS FALSE NEIGHBOUR: 'it returns false'. Refute it at one input. -/
def fnExactColumnsAtWrong : ChangeSpec := { name := "fnExactColumnsAt", fn := fun _ => fun
  | [d1, d2, d3] => { results := [.lit (.bool false)], args := [d1, d2, d3] }
  | _ => none }
def FnExactColumnsAtWrongFalsely : Prop := fnExactColumnsAtRow.holds Try.pinned (OpenSpec.ofChange fnExactColumnsAtWrong)

/- THE SECOND FORM. 'bulk': how many values and letters a reading holds, each counted each time it is reached (what is shared counts as often as it is met; a slice's spare places count too). A statement '..UptoSaid' is the law's where the arguments, and the package variables that the reading takes, are together of bulk at most 1048576: NARROWER than '..Said'. Prove '..Said' where nothing that the law and all that it calls make is longer than what came in: it says more and counts as full. Else prove '..UptoSaid'. A law counts once. -/
mutual
def uptoBulk {H : Type} : DataW H → Nat
  | .lit (.string bytes) => bytes.length + 1
  | .lit _ => 1
  | .nil => 1
  | .ptr d => uptoBulk d + 1
  | .slice elems spare => uptoBulkAll elems + uptoBulkAll spare + 1
  | .agg parts => uptoBulkAll parts + 1
  | .iface _ d => uptoBulk d + 1
  | .map entries => uptoBulkEntries entries + 1
  | .held _ => 1
def uptoBulkAll {H : Type} : List (DataW H) → Nat
  | [] => 0
  | d :: r => uptoBulk d + uptoBulkAll r
def uptoBulkEntries {H : Type} : List (Lit × DataW H) → Nat
  | [] => 0
  | x :: r => uptoBulkEntry x + uptoBulkEntries r
def uptoBulkEntry {H : Type} : Lit × DataW H → Nat
  | (.string bytes, d) => bytes.length + uptoBulk d + 1
  | (_, d) => uptoBulk d + 1
 end
def uptoSmall : (H : Type) → List (DataW H) → Bool := fun _ ds => decide (uptoBulkAll ds ≤ 1048576)
def OpenSpec.upto (s : _root_.Go.ChangeSpec) : _root_.Go.OpenSpec := { _root_.Go.OpenSpec.ofChange s with cond := some uptoSmall }

/-- 'laws.FnExactLivesAt', WHERE WHAT IT READS IS OF BULK AT MOST 1048576: true; the input reads as it did. -/
def fnExactLivesAtUptoRow : OpenClaim := { program := "ytggfonpjmplmfaa", sum := "ee061aa44710e970b5be2cb10a8d191da2c4a31262ec62e07fa8ab2202c8c81a", func := "loop.example/g01025/laws.FnExactLivesAt", spec := "fnExactLivesAt", apart := false, narrowed := true }
def FnExactLivesAtUptoSaid : Prop := fnExactLivesAtUptoRow.holds Try.pinned (OpenSpec.upto fnExactLivesAtSpec)

/-- 'laws.FnExactDeathsAt', WHERE WHAT IT READS IS OF BULK AT MOST 1048576: true; the input reads as it did. -/
def fnExactDeathsAtUptoRow : OpenClaim := { program := "ytggfonpjmplmfaa", sum := "ee061aa44710e970b5be2cb10a8d191da2c4a31262ec62e07fa8ab2202c8c81a", func := "loop.example/g01025/laws.FnExactDeathsAt", spec := "fnExactDeathsAt", apart := false, narrowed := true }
def FnExactDeathsAtUptoSaid : Prop := fnExactDeathsAtUptoRow.holds Try.pinned (OpenSpec.upto fnExactDeathsAtSpec)

/-- 'laws.FnExactMiddleAge', WHERE WHAT IT READS IS OF BULK AT MOST 1048576: true; the input reads as it did. -/
def fnExactMiddleAgeUptoRow : OpenClaim := { program := "ytggfonpjmplmfaa", sum := "ee061aa44710e970b5be2cb10a8d191da2c4a31262ec62e07fa8ab2202c8c81a", func := "loop.example/g01025/laws.FnExactMiddleAge", spec := "fnExactMiddleAge", apart := false, narrowed := true }
def FnExactMiddleAgeUptoSaid : Prop := fnExactMiddleAgeUptoRow.holds Try.pinned (OpenSpec.upto fnExactMiddleAgeSpec)

/-- 'laws.FnExactSurvivalOf', WHERE WHAT IT READS IS OF BULK AT MOST 1048576: true; the input reads as it did. -/
def fnExactSurvivalOfUptoRow : OpenClaim := { program := "ytggfonpjmplmfaa", sum := "ee061aa44710e970b5be2cb10a8d191da2c4a31262ec62e07fa8ab2202c8c81a", func := "loop.example/g01025/laws.FnExactSurvivalOf", spec := "fnExactSurvivalOf", recurses := true, apart := false, narrowed := true }
def FnExactSurvivalOfUptoSaid : Prop := fnExactSurvivalOfUptoRow.holds Try.pinned (OpenSpec.upto fnExactSurvivalOfSpec)

/-- 'laws.FnExactBothAlive', WHERE WHAT IT READS IS OF BULK AT MOST 1048576: true; the input reads as it did. -/
def fnExactBothAliveUptoRow : OpenClaim := { program := "ytggfonpjmplmfaa", sum := "ee061aa44710e970b5be2cb10a8d191da2c4a31262ec62e07fa8ab2202c8c81a", func := "loop.example/g01025/laws.FnExactBothAlive", spec := "fnExactBothAlive", recurses := true, apart := false, narrowed := true }
def FnExactBothAliveUptoSaid : Prop := fnExactBothAliveUptoRow.holds Try.pinned (OpenSpec.upto fnExactBothAliveSpec)

/-- 'laws.FnExactOneAlive', WHERE WHAT IT READS IS OF BULK AT MOST 1048576: true; the input reads as it did. -/
def fnExactOneAliveUptoRow : OpenClaim := { program := "ytggfonpjmplmfaa", sum := "ee061aa44710e970b5be2cb10a8d191da2c4a31262ec62e07fa8ab2202c8c81a", func := "loop.example/g01025/laws.FnExactOneAlive", spec := "fnExactOneAlive", recurses := true, apart := false, narrowed := true }
def FnExactOneAliveUptoSaid : Prop := fnExactOneAliveUptoRow.holds Try.pinned (OpenSpec.upto fnExactOneAliveSpec)

/-- 'laws.FnExactExpectedYears', WHERE WHAT IT READS IS OF BULK AT MOST 1048576: true; the input reads as it did. -/
def fnExactExpectedYearsUptoRow : OpenClaim := { program := "ytggfonpjmplmfaa", sum := "ee061aa44710e970b5be2cb10a8d191da2c4a31262ec62e07fa8ab2202c8c81a", func := "loop.example/g01025/laws.FnExactExpectedYears", spec := "fnExactExpectedYears", recurses := true, apart := false, narrowed := true }
def FnExactExpectedYearsUptoSaid : Prop := fnExactExpectedYearsUptoRow.holds Try.pinned (OpenSpec.upto fnExactExpectedYearsSpec)

/-- 'laws.FnExactJointTable', WHERE WHAT IT READS IS OF BULK AT MOST 1048576: true; the input reads as it did. -/
def fnExactJointTableUptoRow : OpenClaim := { program := "ytggfonpjmplmfaa", sum := "ee061aa44710e970b5be2cb10a8d191da2c4a31262ec62e07fa8ab2202c8c81a", func := "loop.example/g01025/laws.FnExactJointTable", spec := "fnExactJointTable", apart := false, narrowed := true }
def FnExactJointTableUptoSaid : Prop := fnExactJointTableUptoRow.holds Try.pinned (OpenSpec.upto fnExactJointTableSpec)

/-- 'laws.FnExactMeanPayments', WHERE WHAT IT READS IS OF BULK AT MOST 1048576: true; the input reads as it did. -/
def fnExactMeanPaymentsUptoRow : OpenClaim := { program := "ytggfonpjmplmfaa", sum := "ee061aa44710e970b5be2cb10a8d191da2c4a31262ec62e07fa8ab2202c8c81a", func := "loop.example/g01025/laws.FnExactMeanPayments", spec := "fnExactMeanPayments", recurses := true, apart := false, narrowed := true }
def FnExactMeanPaymentsUptoSaid : Prop := fnExactMeanPaymentsUptoRow.holds Try.pinned (OpenSpec.upto fnExactMeanPaymentsSpec)

/-- 'laws.FnMadeTables', WHERE WHAT IT READS IS OF BULK AT MOST 1048576: true; the input reads as it did. -/
def fnMadeTablesUptoRow : OpenClaim := { program := "ytggfonpjmplmfaa", sum := "ee061aa44710e970b5be2cb10a8d191da2c4a31262ec62e07fa8ab2202c8c81a", func := "loop.example/g01025/laws.FnMadeTables", spec := "fnMadeTables", unfollowed := true, recurses := true, apart := false, narrowed := true }
def FnMadeTablesUptoSaid : Prop := fnMadeTablesUptoRow.holds Try.pinned (OpenSpec.upto fnMadeTablesSpec)

/-- 'laws.FnExactColumnsAt', WHERE WHAT IT READS IS OF BULK AT MOST 1048576: true; the input reads as it did. -/
def fnExactColumnsAtUptoRow : OpenClaim := { program := "ytggfonpjmplmfaa", sum := "ee061aa44710e970b5be2cb10a8d191da2c4a31262ec62e07fa8ab2202c8c81a", func := "loop.example/g01025/laws.FnExactColumnsAt", spec := "fnExactColumnsAt", apart := false, narrowed := true }
def FnExactColumnsAtUptoSaid : Prop := fnExactColumnsAtUptoRow.holds Try.pinned (OpenSpec.upto fnExactColumnsAtSpec)

end Rows
end Go.Proofs.Ytggfonpjmplmfaa
