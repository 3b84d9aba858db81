/-
  No cell of these rows narrows 'for every input' (looked for: loops, veiled, ifaces, maps, wideKeys, modest, calm, conditions, laid).
  DERIVED. THE GIVEN ROWS OF THIS SEAT. 9 by the template 'for every input the law returns true; each argument reads behind the call as it read before'; 0 by the template 'total and deterministic' (their statements: YthpjfaibpgjokaaTotals.lean).
  GIVEN WITH THE SEED: the statements are not yours to turn. If you find one false, say at which input.
  Laid BY PROGRAM, IN A SANDBOX (cutbox-rows.mjs): the forced cells as the released guide's own fill.sh prints them over the translation d838e0ac7703a1d6… (all of the seat's roots in one cut). By AI agents, Wed Nov 11 2026. No macro, syntax, notation, axiom, sorry.
-/
import Derived.Test.YthpjfaibpgjokaaChecked
import GoSem.Claim
import GoSem.ClaimJoined
import GoSem.ClaimMapViews
import Derived.JoinedTies
import Derived.KernelRfl
namespace Go.Proofs.Ythpjfaibpgjokaa
/- THE CELL 'sum', in the pinned program and in every row, IS THE sha256 OF THE DUMP (.gsa) THAT YthpjfaibpgjokaaProg.lean LOADS. Nothing in Lean hashes anything: it is a label: what it is worth is what the hold of that sum in a sandbox is worth. -/
noncomputable def Try.pinned : Pinned := { name := "ythpjfaibpgjokaa", sum := "d838e0ac7703a1d6d58a131fb2568de05420f0eb9257fb9baab0c50f48fd87fb", checked := Try.checked }
namespace Rows
def none {H : Type} : Left H := { results := [], args := [] }

/-- 'laws.FnExactIsYearResult': WHATEVER THE INPUT: true; the input reads as it did. -/
def fnExactIsYearResultSpec : ChangeSpec := { name := "fnExactIsYearResult", fn := fun _ => fun
  | [d] => { results := [.lit (.bool true)], args := [d] }
  | _ => none }
def fnExactIsYearResultRow : OpenClaim := { program := "ythpjfaibpgjokaa", sum := "d838e0ac7703a1d6d58a131fb2568de05420f0eb9257fb9baab0c50f48fd87fb", func := "loop.example/g01025/laws.FnExactIsYearResult", spec := "fnExactIsYearResult", unfollowed := true, recurses := true, apart := false }
def FnExactIsYearResultSaid : Prop := fnExactIsYearResultRow.holds Try.pinned (OpenSpec.ofChange fnExactIsYearResultSpec)

/-- ITS FALSE NEIGHBOUR: 'it returns false'. Refute it at one input. -/
def fnExactIsYearResultWrong : ChangeSpec := { name := "fnExactIsYearResult", fn := fun _ => fun
  | [d] => { results := [.lit (.bool false)], args := [d] }
  | _ => none }
def FnExactIsYearResultWrongFalsely : Prop := fnExactIsYearResultRow.holds Try.pinned (OpenSpec.ofChange fnExactIsYearResultWrong)

/-- 'laws.FnExactEndFund': WHATEVER THE INPUT: true; the input reads as it did. -/
def fnExactEndFundSpec : ChangeSpec := { name := "fnExactEndFund", fn := fun _ => fun
  | [d] => { results := [.lit (.bool true)], args := [d] }
  | _ => none }
def fnExactEndFundRow : OpenClaim := { program := "ythpjfaibpgjokaa", sum := "d838e0ac7703a1d6d58a131fb2568de05420f0eb9257fb9baab0c50f48fd87fb", func := "loop.example/g01025/laws.FnExactEndFund", spec := "fnExactEndFund", unfollowed := true, recurses := true, apart := false }
def FnExactEndFundSaid : Prop := fnExactEndFundRow.holds Try.pinned (OpenSpec.ofChange fnExactEndFundSpec)

/-- ITS FALSE NEIGHBOUR: 'it returns false'. Refute it at one input. -/
def fnExactEndFundWrong : ChangeSpec := { name := "fnExactEndFund", fn := fun _ => fun
  | [d] => { results := [.lit (.bool false)], args := [d] }
  | _ => none }
def FnExactEndFundWrongFalsely : Prop := fnExactEndFundRow.holds Try.pinned (OpenSpec.ofChange fnExactEndFundWrong)

/-- 'laws.FnExactSurplusOf': WHATEVER THE INPUT: true; the input reads as it did. -/
def fnExactSurplusOfSpec : ChangeSpec := { name := "fnExactSurplusOf", fn := fun _ => fun
  | [d] => { results := [.lit (.bool true)], args := [d] }
  | _ => none }
def fnExactSurplusOfRow : OpenClaim := { program := "ythpjfaibpgjokaa", sum := "d838e0ac7703a1d6d58a131fb2568de05420f0eb9257fb9baab0c50f48fd87fb", func := "loop.example/g01025/laws.FnExactSurplusOf", spec := "fnExactSurplusOf", unfollowed := true, recurses := true, apart := false }
def FnExactSurplusOfSaid : Prop := fnExactSurplusOfRow.holds Try.pinned (OpenSpec.ofChange fnExactSurplusOfSpec)

/-- ITS FALSE NEIGHBOUR: 'it returns false'. Refute it at one input. -/
def fnExactSurplusOfWrong : ChangeSpec := { name := "fnExactSurplusOf", fn := fun _ => fun
  | [d] => { results := [.lit (.bool false)], args := [d] }
  | _ => none }
def FnExactSurplusOfWrongFalsely : Prop := fnExactSurplusOfRow.holds Try.pinned (OpenSpec.ofChange fnExactSurplusOfWrong)

/-- 'laws.FnExactEarnedRate': WHATEVER THE INPUT: true; the input reads as it did. -/
def fnExactEarnedRateSpec : ChangeSpec := { name := "fnExactEarnedRate", fn := fun _ => fun
  | [d] => { results := [.lit (.bool true)], args := [d] }
  | _ => none }
def fnExactEarnedRateRow : OpenClaim := { program := "ythpjfaibpgjokaa", sum := "d838e0ac7703a1d6d58a131fb2568de05420f0eb9257fb9baab0c50f48fd87fb", func := "loop.example/g01025/laws.FnExactEarnedRate", spec := "fnExactEarnedRate", unfollowed := true, recurses := true, apart := false }
def FnExactEarnedRateSaid : Prop := fnExactEarnedRateRow.holds Try.pinned (OpenSpec.ofChange fnExactEarnedRateSpec)

/-- ITS FALSE NEIGHBOUR: 'it returns false'. Refute it at one input. -/
def fnExactEarnedRateWrong : ChangeSpec := { name := "fnExactEarnedRate", fn := fun _ => fun
  | [d] => { results := [.lit (.bool false)], args := [d] }
  | _ => none }
def FnExactEarnedRateWrongFalsely : Prop := fnExactEarnedRateRow.holds Try.pinned (OpenSpec.ofChange fnExactEarnedRateWrong)

/-- 'laws.FnExactFollowingYear': WHATEVER THE INPUT: true; the input reads as it did. -/
def fnExactFollowingYearSpec : ChangeSpec := { name := "fnExactFollowingYear", fn := fun _ => fun
  | [d1, d2, d3] => { results := [.lit (.bool true)], args := [d1, d2, d3] }
  | _ => none }
def fnExactFollowingYearRow : OpenClaim := { program := "ythpjfaibpgjokaa", sum := "d838e0ac7703a1d6d58a131fb2568de05420f0eb9257fb9baab0c50f48fd87fb", func := "loop.example/g01025/laws.FnExactFollowingYear", spec := "fnExactFollowingYear", unfollowed := true, recurses := true, apart := false }
def FnExactFollowingYearSaid : Prop := fnExactFollowingYearRow.holds Try.pinned (OpenSpec.ofChange fnExactFollowingYearSpec)

/-- ITS FALSE NEIGHBOUR: 'it returns false'. Refute it at one input. -/
def fnExactFollowingYearWrong : ChangeSpec := { name := "fnExactFollowingYear", fn := fun _ => fun
  | [d1, d2, d3] => { results := [.lit (.bool false)], args := [d1, d2, d3] }
  | _ => none }
def FnExactFollowingYearWrongFalsely : Prop := fnExactFollowingYearRow.holds Try.pinned (OpenSpec.ofChange fnExactFollowingYearWrong)

/-- 'laws.FnExactWorstSource': WHATEVER THE INPUT: true; the input reads as it did. -/
def fnExactWorstSourceSpec : ChangeSpec := { name := "fnExactWorstSource", fn := fun _ => fun
  | [d1, d2] => { results := [.lit (.bool true)], args := [d1, d2] }
  | _ => none }
def fnExactWorstSourceRow : OpenClaim := { program := "ythpjfaibpgjokaa", sum := "d838e0ac7703a1d6d58a131fb2568de05420f0eb9257fb9baab0c50f48fd87fb", func := "loop.example/g01025/laws.FnExactWorstSource", spec := "fnExactWorstSource", unfollowed := true, recurses := true, apart := false }
def FnExactWorstSourceSaid : Prop := fnExactWorstSourceRow.holds Try.pinned (OpenSpec.ofChange fnExactWorstSourceSpec)

/-- ITS FALSE NEIGHBOUR: 'it returns false'. Refute it at one input. -/
def fnExactWorstSourceWrong : ChangeSpec := { name := "fnExactWorstSource", fn := fun _ => fun
  | [d1, d2] => { results := [.lit (.bool false)], args := [d1, d2] }
  | _ => none }
def FnExactWorstSourceWrongFalsely : Prop := fnExactWorstSourceRow.holds Try.pinned (OpenSpec.ofChange fnExactWorstSourceWrong)

/-- 'laws.FnExactJoinYears': WHATEVER THE INPUT: true; the input reads as it did. -/
def fnExactJoinYearsSpec : ChangeSpec := { name := "fnExactJoinYears", fn := fun _ => fun
  | [d1, d2] => { results := [.lit (.bool true)], args := [d1, d2] }
  | _ => none }
def fnExactJoinYearsRow : OpenClaim := { program := "ythpjfaibpgjokaa", sum := "d838e0ac7703a1d6d58a131fb2568de05420f0eb9257fb9baab0c50f48fd87fb", func := "loop.example/g01025/laws.FnExactJoinYears", spec := "fnExactJoinYears", unfollowed := true, recurses := true, apart := false }
def FnExactJoinYearsSaid : Prop := fnExactJoinYearsRow.holds Try.pinned (OpenSpec.ofChange fnExactJoinYearsSpec)

/-- ITS FALSE NEIGHBOUR: 'it returns false'. Refute it at one input. -/
def fnExactJoinYearsWrong : ChangeSpec := { name := "fnExactJoinYears", fn := fun _ => fun
  | [d1, d2] => { results := [.lit (.bool false)], args := [d1, d2] }
  | _ => none }
def FnExactJoinYearsWrongFalsely : Prop := fnExactJoinYearsRow.holds Try.pinned (OpenSpec.ofChange fnExactJoinYearsWrong)

/-- 'laws.FnExactSourcesOf': WHATEVER THE INPUT: true; the input reads as it did. -/
def fnExactSourcesOfSpec : ChangeSpec := { name := "fnExactSourcesOf", fn := fun _ => fun
  | [d1, d2] => { results := [.lit (.bool true)], args := [d1, d2] }
  | _ => none }
def fnExactSourcesOfRow : OpenClaim := { program := "ythpjfaibpgjokaa", sum := "d838e0ac7703a1d6d58a131fb2568de05420f0eb9257fb9baab0c50f48fd87fb", func := "loop.example/g01025/laws.FnExactSourcesOf", spec := "fnExactSourcesOf", unfollowed := true, recurses := true, apart := false }
def FnExactSourcesOfSaid : Prop := fnExactSourcesOfRow.holds Try.pinned (OpenSpec.ofChange fnExactSourcesOfSpec)

/-- ITS FALSE NEIGHBOUR: 'it returns false'. Refute it at one input. -/
def fnExactSourcesOfWrong : ChangeSpec := { name := "fnExactSourcesOf", fn := fun _ => fun
  | [d1, d2] => { results := [.lit (.bool false)], args := [d1, d2] }
  | _ => none }
def FnExactSourcesOfWrongFalsely : Prop := fnExactSourcesOfRow.holds Try.pinned (OpenSpec.ofChange fnExactSourcesOfWrong)

/-- 'laws.FnYears': WHATEVER THE INPUT: true; the input reads as it did. -/
def fnYearsSpec : ChangeSpec := { name := "fnYears", fn := fun _ => fun
  | [d] => { results := [.lit (.bool true)], args := [d] }
  | _ => none }
def fnYearsRow : OpenClaim := { program := "ythpjfaibpgjokaa", sum := "d838e0ac7703a1d6d58a131fb2568de05420f0eb9257fb9baab0c50f48fd87fb", func := "loop.example/g01025/laws.FnYears", spec := "fnYears", unfollowed := true, recurses := true, apart := false }
def FnYearsSaid : Prop := fnYearsRow.holds Try.pinned (OpenSpec.ofChange fnYearsSpec)

/-- ITS FALSE NEIGHBOUR: 'it returns false'. Refute it at one input. -/
def fnYearsWrong : ChangeSpec := { name := "fnYears", fn := fun _ => fun
  | [d] => { results := [.lit (.bool false)], args := [d] }
  | _ => none }
def FnYearsWrongFalsely : Prop := fnYearsRow.holds Try.pinned (OpenSpec.ofChange fnYearsWrong)

/- THE SECOND FORM. 'bulk': how many values and letters a reading holds, each counted each time it is reached (what is shared counts as often as it is met; a slice's spare places count too). A statement '..UptoSaid' is the law's where the arguments, and the package variables that the reading takes, are together of bulk at most 1048576: NARROWER than '..Said'. Prove '..Said' where nothing that the law and all that it calls make is longer than what came in: it says more and counts as full. Else prove '..UptoSaid'. A law counts once. -/
mutual
def uptoBulk {H : Type} : DataW H → Nat
  | .lit (.string bytes) => bytes.length + 1
  | .lit _ => 1
  | .nil => 1
  | .ptr d => uptoBulk d + 1
  | .slice elems spare => uptoBulkAll elems + uptoBulkAll spare + 1
  | .agg parts => uptoBulkAll parts + 1
  | .iface _ d => uptoBulk d + 1
  | .map entries => uptoBulkEntries entries + 1
  | .held _ => 1
def uptoBulkAll {H : Type} : List (DataW H) → Nat
  | [] => 0
  | d :: r => uptoBulk d + uptoBulkAll r
def uptoBulkEntries {H : Type} : List (Lit × DataW H) → Nat
  | [] => 0
  | x :: r => uptoBulkEntry x + uptoBulkEntries r
def uptoBulkEntry {H : Type} : Lit × DataW H → Nat
  | (.string bytes, d) => bytes.length + uptoBulk d + 1
  | (_, d) => uptoBulk d + 1
 end
def uptoSmall : (H : Type) → List (DataW H) → Bool := fun _ ds => decide (uptoBulkAll ds ≤ 1048576)
def OpenSpec.upto (s : _root_.Go.ChangeSpec) : _root_.Go.OpenSpec := { _root_.Go.OpenSpec.ofChange s with cond := some uptoSmall }

/-- 'laws.FnExactIsYearResult', WHERE WHAT IT READS IS OF BULK AT MOST 1048576: true; the input reads as it did. -/
def fnExactIsYearResultUptoRow : OpenClaim := { program := "ythpjfaibpgjokaa", sum := "d838e0ac7703a1d6d58a131fb2568de05420f0eb9257fb9baab0c50f48fd87fb", func := "loop.example/g01025/laws.FnExactIsYearResult", spec := "fnExactIsYearResult", unfollowed := true, recurses := true, apart := false, narrowed := true }
def FnExactIsYearResultUptoSaid : Prop := fnExactIsYearResultUptoRow.holds Try.pinned (OpenSpec.upto fnExactIsYearResultSpec)

/-- 'laws.FnExactEndFund', WHERE WHAT IT READS IS OF BULK AT MOST 1048576: true; the input reads as it did. -/
def fnExactEndFundUptoRow : OpenClaim := { program := "ythpjfaibpgjokaa", sum := "d838e0ac7703a1d6d58a131fb2568de05420f0eb9257fb9baab0c50f48fd87fb", func := "loop.example/g01025/laws.FnExactEndFund", spec := "fnExactEndFund", unfollowed := true, recurses := true, apart := false, narrowed := true }
def FnExactEndFundUptoSaid : Prop := fnExactEndFundUptoRow.holds Try.pinned (OpenSpec.upto fnExactEndFundSpec)

/-- 'laws.FnExactSurplusOf', WHERE WHAT IT READS IS OF BULK AT MOST 1048576: true; the input reads as it did. -/
def fnExactSurplusOfUptoRow : OpenClaim := { program := "ythpjfaibpgjokaa", sum := "d838e0ac7703a1d6d58a131fb2568de05420f0eb9257fb9baab0c50f48fd87fb", func := "loop.example/g01025/laws.FnExactSurplusOf", spec := "fnExactSurplusOf", unfollowed := true, recurses := true, apart := false, narrowed := true }
def FnExactSurplusOfUptoSaid : Prop := fnExactSurplusOfUptoRow.holds Try.pinned (OpenSpec.upto fnExactSurplusOfSpec)

/-- 'laws.FnExactEarnedRate', WHERE WHAT IT READS IS OF BULK AT MOST 1048576: true; the input reads as it did. -/
def fnExactEarnedRateUptoRow : OpenClaim := { program := "ythpjfaibpgjokaa", sum := "d838e0ac7703a1d6d58a131fb2568de05420f0eb9257fb9baab0c50f48fd87fb", func := "loop.example/g01025/laws.FnExactEarnedRate", spec := "fnExactEarnedRate", unfollowed := true, recurses := true, apart := false, narrowed := true }
def FnExactEarnedRateUptoSaid : Prop := fnExactEarnedRateUptoRow.holds Try.pinned (OpenSpec.upto fnExactEarnedRateSpec)

/-- 'laws.FnExactFollowingYear', WHERE WHAT IT READS IS OF BULK AT MOST 1048576: true; the input reads as it did. -/
def fnExactFollowingYearUptoRow : OpenClaim := { program := "ythpjfaibpgjokaa", sum := "d838e0ac7703a1d6d58a131fb2568de05420f0eb9257fb9baab0c50f48fd87fb", func := "loop.example/g01025/laws.FnExactFollowingYear", spec := "fnExactFollowingYear", unfollowed := true, recurses := true, apart := false, narrowed := true }
def FnExactFollowingYearUptoSaid : Prop := fnExactFollowingYearUptoRow.holds Try.pinned (OpenSpec.upto fnExactFollowingYearSpec)

/-- 'laws.FnExactWorstSource', WHERE WHAT IT READS IS OF BULK AT MOST 1048576: true; the input reads as it did. -/
def fnExactWorstSourceUptoRow : OpenClaim := { program := "ythpjfaibpgjokaa", sum := "d838e0ac7703a1d6d58a131fb2568de05420f0eb9257fb9baab0c50f48fd87fb", func := "loop.example/g01025/laws.FnExactWorstSource", spec := "fnExactWorstSource", unfollowed := true, recurses := true, apart := false, narrowed := true }
def FnExactWorstSourceUptoSaid : Prop := fnExactWorstSourceUptoRow.holds Try.pinned (OpenSpec.upto fnExactWorstSourceSpec)

/-- 'laws.FnExactJoinYears', WHERE WHAT IT READS IS OF BULK AT MOST 1048576: true; the input reads as it did. -/
def fnExactJoinYearsUptoRow : OpenClaim := { program := "ythpjfaibpgjokaa", sum := "d838e0ac7703a1d6d58a131fb2568de05420f0eb9257fb9baab0c50f48fd87fb", func := "loop.example/g01025/laws.FnExactJoinYears", spec := "fnExactJoinYears", unfollowed := true, recurses := true, apart := false, narrowed := true }
def FnExactJoinYearsUptoSaid : Prop := fnExactJoinYearsUptoRow.holds Try.pinned (OpenSpec.upto fnExactJoinYearsSpec)

/-- 'laws.FnExactSourcesOf', WHERE WHAT IT READS IS OF BULK AT MOST 1048576: true; the input reads as it did. -/
def fnExactSourcesOfUptoRow : OpenClaim := { program := "ythpjfaibpgjokaa", sum := "d838e0ac7703a1d6d58a131fb2568de05420f0eb9257fb9baab0c50f48fd87fb", func := "loop.example/g01025/laws.FnExactSourcesOf", spec := "fnExactSourcesOf", unfollowed := true, recurses := true, apart := false, narrowed := true }
def FnExactSourcesOfUptoSaid : Prop := fnExactSourcesOfUptoRow.holds Try.pinned (OpenSpec.upto fnExactSourcesOfSpec)

/-- 'laws.FnYears', WHERE WHAT IT READS IS OF BULK AT MOST 1048576: true; the input reads as it did. -/
def fnYearsUptoRow : OpenClaim := { program := "ythpjfaibpgjokaa", sum := "d838e0ac7703a1d6d58a131fb2568de05420f0eb9257fb9baab0c50f48fd87fb", func := "loop.example/g01025/laws.FnYears", spec := "fnYears", unfollowed := true, recurses := true, apart := false, narrowed := true }
def FnYearsUptoSaid : Prop := fnYearsUptoRow.holds Try.pinned (OpenSpec.upto fnYearsSpec)

end Rows
end Go.Proofs.Ythpjfaibpgjokaa
