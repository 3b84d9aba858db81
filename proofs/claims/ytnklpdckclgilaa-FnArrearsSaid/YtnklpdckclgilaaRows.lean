/-
  No cell of these rows narrows 'for every input' (looked for: loops, veiled, ifaces, maps, wideKeys, modest, calm, conditions, laid).
  DERIVED. THE GIVEN ROWS OF THIS SEAT. 5 by the template 'for every input the law returns true; each argument reads behind the call as it read before'; 0 by the template 'total and deterministic' (their statements: YtnklpdckclgilaaTotals.lean).
  GIVEN WITH THE SEED: the statements are not yours to turn. If you find one false, say at which input.
  Laid BY PROGRAM, IN A SANDBOX (cutbox-rows.mjs): the forced cells as the released guide's own fill.sh prints them over the translation c5a657072a4d8ef7… (all of the seat's roots in one cut). By AI agents, Wed Nov 11 2026. No macro, syntax, notation, axiom, sorry.
-/
import Derived.Test.YtnklpdckclgilaaChecked
import GoSem.Claim
import GoSem.ClaimJoined
import GoSem.ClaimMapViews
import Derived.JoinedTies
import Derived.KernelRfl
namespace Go.Proofs.Ytnklpdckclgilaa
/- THE CELL 'sum', in the pinned program and in every row, IS THE sha256 OF THE DUMP (.gsa) THAT YtnklpdckclgilaaProg.lean LOADS. Nothing in Lean hashes anything: it is a label: what it is worth is what the hold of that sum in a sandbox is worth. -/
noncomputable def Try.pinned : Pinned := { name := "ytnklpdckclgilaa", sum := "c5a657072a4d8ef789525103018dfc516ec6fe9c12c2061f676d45fac062e880", checked := Try.checked }
namespace Rows
def none {H : Type} : Left H := { results := [], args := [] }

/-- 'laws.FnExactLapsesIn': WHATEVER THE INPUT: true; the input reads as it did. -/
def fnExactLapsesInSpec : ChangeSpec := { name := "fnExactLapsesIn", fn := fun _ => fun
  | [d1, d2, d3, d4] => { results := [.lit (.bool true)], args := [d1, d2, d3, d4] }
  | _ => none }
def fnExactLapsesInRow : OpenClaim := { program := "ytnklpdckclgilaa", sum := "c5a657072a4d8ef789525103018dfc516ec6fe9c12c2061f676d45fac062e880", func := "loop.example/g01025/laws.FnExactLapsesIn", spec := "fnExactLapsesIn", unfollowed := true, recurses := true, apart := false }
def FnExactLapsesInSaid : Prop := fnExactLapsesInRow.holds Try.pinned (OpenSpec.ofChange fnExactLapsesInSpec)

/-- ITS FALSE NEIGHBOUR: 'it returns false'. Refute it at one input. -/
def fnExactLapsesInWrong : ChangeSpec := { name := "fnExactLapsesIn", fn := fun _ => fun
  | [d1, d2, d3, d4] => { results := [.lit (.bool false)], args := [d1, d2, d3, d4] }
  | _ => none }
def FnExactLapsesInWrongFalsely : Prop := fnExactLapsesInRow.holds Try.pinned (OpenSpec.ofChange fnExactLapsesInWrong)

/-- 'laws.FnExactWorstArrears': WHATEVER THE INPUT: true; the input reads as it did. -/
def fnExactWorstArrearsSpec : ChangeSpec := { name := "fnExactWorstArrears", fn := fun _ => fun
  | [d1, d2, d3, d4] => { results := [.lit (.bool true)], args := [d1, d2, d3, d4] }
  | _ => none }
def fnExactWorstArrearsRow : OpenClaim := { program := "ytnklpdckclgilaa", sum := "c5a657072a4d8ef789525103018dfc516ec6fe9c12c2061f676d45fac062e880", func := "loop.example/g01025/laws.FnExactWorstArrears", spec := "fnExactWorstArrears", unfollowed := true, recurses := true, apart := false }
def FnExactWorstArrearsSaid : Prop := fnExactWorstArrearsRow.holds Try.pinned (OpenSpec.ofChange fnExactWorstArrearsSpec)

/-- ITS FALSE NEIGHBOUR: 'it returns false'. Refute it at one input. -/
def fnExactWorstArrearsWrong : ChangeSpec := { name := "fnExactWorstArrears", fn := fun _ => fun
  | [d1, d2, d3, d4] => { results := [.lit (.bool false)], args := [d1, d2, d3, d4] }
  | _ => none }
def FnExactWorstArrearsWrongFalsely : Prop := fnExactWorstArrearsRow.holds Try.pinned (OpenSpec.ofChange fnExactWorstArrearsWrong)

/-- 'laws.FnExactRevivalCost': WHATEVER THE INPUT: true; the input reads as it did. -/
def fnExactRevivalCostSpec : ChangeSpec := { name := "fnExactRevivalCost", fn := fun _ => fun
  | [d1, d2, d3, d4, d5] => { results := [.lit (.bool true)], args := [d1, d2, d3, d4, d5] }
  | _ => none }
def fnExactRevivalCostRow : OpenClaim := { program := "ytnklpdckclgilaa", sum := "c5a657072a4d8ef789525103018dfc516ec6fe9c12c2061f676d45fac062e880", func := "loop.example/g01025/laws.FnExactRevivalCost", spec := "fnExactRevivalCost", unfollowed := true, recurses := true, apart := false }
def FnExactRevivalCostSaid : Prop := fnExactRevivalCostRow.holds Try.pinned (OpenSpec.ofChange fnExactRevivalCostSpec)

/-- ITS FALSE NEIGHBOUR: 'it returns false'. Refute it at one input. -/
def fnExactRevivalCostWrong : ChangeSpec := { name := "fnExactRevivalCost", fn := fun _ => fun
  | [d1, d2, d3, d4, d5] => { results := [.lit (.bool false)], args := [d1, d2, d3, d4, d5] }
  | _ => none }
def FnExactRevivalCostWrongFalsely : Prop := fnExactRevivalCostRow.holds Try.pinned (OpenSpec.ofChange fnExactRevivalCostWrong)

/-- 'laws.FnContributions': WHATEVER THE INPUT: true; the input reads as it did. -/
def fnContributionsSpec : ChangeSpec := { name := "fnContributions", fn := fun _ => fun
  | [d] => { results := [.lit (.bool true)], args := [d] }
  | _ => none }
def fnContributionsRow : OpenClaim := { program := "ytnklpdckclgilaa", sum := "c5a657072a4d8ef789525103018dfc516ec6fe9c12c2061f676d45fac062e880", func := "loop.example/g01025/laws.FnContributions", spec := "fnContributions", unfollowed := true, recurses := true, apart := false }
def FnContributionsSaid : Prop := fnContributionsRow.holds Try.pinned (OpenSpec.ofChange fnContributionsSpec)

/-- ITS FALSE NEIGHBOUR: 'it returns false'. Refute it at one input. -/
def fnContributionsWrong : ChangeSpec := { name := "fnContributions", fn := fun _ => fun
  | [d] => { results := [.lit (.bool false)], args := [d] }
  | _ => none }
def FnContributionsWrongFalsely : Prop := fnContributionsRow.holds Try.pinned (OpenSpec.ofChange fnContributionsWrong)

/-- 'laws.FnArrears': WHATEVER THE INPUT: true; the input reads as it did. -/
def fnArrearsSpec : ChangeSpec := { name := "fnArrears", fn := fun _ => fun
  | [d] => { results := [.lit (.bool true)], args := [d] }
  | _ => none }
def fnArrearsRow : OpenClaim := { program := "ytnklpdckclgilaa", sum := "c5a657072a4d8ef789525103018dfc516ec6fe9c12c2061f676d45fac062e880", func := "loop.example/g01025/laws.FnArrears", spec := "fnArrears", unfollowed := true, recurses := true, apart := false }
def FnArrearsSaid : Prop := fnArrearsRow.holds Try.pinned (OpenSpec.ofChange fnArrearsSpec)

/-- ITS FALSE NEIGHBOUR: 'it returns false'. Refute it at one input. -/
def fnArrearsWrong : ChangeSpec := { name := "fnArrears", fn := fun _ => fun
  | [d] => { results := [.lit (.bool false)], args := [d] }
  | _ => none }
def FnArrearsWrongFalsely : Prop := fnArrearsRow.holds Try.pinned (OpenSpec.ofChange fnArrearsWrong)

/- THE SECOND FORM. 'bulk': how many values and letters a reading holds, each counted each time it is reached (what is shared counts as often as it is met; a slice's spare places count too). A statement '..UptoSaid' is the law's where the arguments, and the package variables that the reading takes, are together of bulk at most 1048576: NARROWER than '..Said'. Prove '..Said' where nothing that the law and all that it calls make is longer than what came in: it says more and counts as full. Else prove '..UptoSaid'. A law counts once. -/
mutual
def uptoBulk {H : Type} : DataW H → Nat
  | .lit (.string bytes) => bytes.length + 1
  | .lit _ => 1
  | .nil => 1
  | .ptr d => uptoBulk d + 1
  | .slice elems spare => uptoBulkAll elems + uptoBulkAll spare + 1
  | .agg parts => uptoBulkAll parts + 1
  | .iface _ d => uptoBulk d + 1
  | .map entries => uptoBulkEntries entries + 1
  | .held _ => 1
def uptoBulkAll {H : Type} : List (DataW H) → Nat
  | [] => 0
  | d :: r => uptoBulk d + uptoBulkAll r
def uptoBulkEntries {H : Type} : List (Lit × DataW H) → Nat
  | [] => 0
  | x :: r => uptoBulkEntry x + uptoBulkEntries r
def uptoBulkEntry {H : Type} : Lit × DataW H → Nat
  | (.string bytes, d) => bytes.length + uptoBulk d + 1
  | (_, d) => uptoBulk d + 1
 end
def uptoSmall : (H : Type) → List (DataW H) → Bool := fun _ ds => decide (uptoBulkAll ds ≤ 1048576)
def OpenSpec.upto (s : _root_.Go.ChangeSpec) : _root_.Go.OpenSpec := { _root_.Go.OpenSpec.ofChange s with cond := some uptoSmall }

/-- 'laws.FnExactLapsesIn', WHERE WHAT IT READS IS OF BULK AT MOST 1048576: true; the input reads as it did. -/
def fnExactLapsesInUptoRow : OpenClaim := { program := "ytnklpdckclgilaa", sum := "c5a657072a4d8ef789525103018dfc516ec6fe9c12c2061f676d45fac062e880", func := "loop.example/g01025/laws.FnExactLapsesIn", spec := "fnExactLapsesIn", unfollowed := true, recurses := true, apart := false, narrowed := true }
def FnExactLapsesInUptoSaid : Prop := fnExactLapsesInUptoRow.holds Try.pinned (OpenSpec.upto fnExactLapsesInSpec)

/-- 'laws.FnExactWorstArrears', WHERE WHAT IT READS IS OF BULK AT MOST 1048576: true; the input reads as it did. -/
def fnExactWorstArrearsUptoRow : OpenClaim := { program := "ytnklpdckclgilaa", sum := "c5a657072a4d8ef789525103018dfc516ec6fe9c12c2061f676d45fac062e880", func := "loop.example/g01025/laws.FnExactWorstArrears", spec := "fnExactWorstArrears", unfollowed := true, recurses := true, apart := false, narrowed := true }
def FnExactWorstArrearsUptoSaid : Prop := fnExactWorstArrearsUptoRow.holds Try.pinned (OpenSpec.upto fnExactWorstArrearsSpec)

/-- 'laws.FnExactRevivalCost', WHERE WHAT IT READS IS OF BULK AT MOST 1048576: true; the input reads as it did. -/
def fnExactRevivalCostUptoRow : OpenClaim := { program := "ytnklpdckclgilaa", sum := "c5a657072a4d8ef789525103018dfc516ec6fe9c12c2061f676d45fac062e880", func := "loop.example/g01025/laws.FnExactRevivalCost", spec := "fnExactRevivalCost", unfollowed := true, recurses := true, apart := false, narrowed := true }
def FnExactRevivalCostUptoSaid : Prop := fnExactRevivalCostUptoRow.holds Try.pinned (OpenSpec.upto fnExactRevivalCostSpec)

/-- 'laws.FnContributions', WHERE WHAT IT READS IS OF BULK AT MOST 1048576: true; the input reads as it did. -/
def fnContributionsUptoRow : OpenClaim := { program := "ytnklpdckclgilaa", sum := "c5a657072a4d8ef789525103018dfc516ec6fe9c12c2061f676d45fac062e880", func := "loop.example/g01025/laws.FnContributions", spec := "fnContributions", unfollowed := true, recurses := true, apart := false, narrowed := true }
def FnContributionsUptoSaid : Prop := fnContributionsUptoRow.holds Try.pinned (OpenSpec.upto fnContributionsSpec)

/-- 'laws.FnArrears', WHERE WHAT IT READS IS OF BULK AT MOST 1048576: true; the input reads as it did. -/
def fnArrearsUptoRow : OpenClaim := { program := "ytnklpdckclgilaa", sum := "c5a657072a4d8ef789525103018dfc516ec6fe9c12c2061f676d45fac062e880", func := "loop.example/g01025/laws.FnArrears", spec := "fnArrears", unfollowed := true, recurses := true, apart := false, narrowed := true }
def FnArrearsUptoSaid : Prop := fnArrearsUptoRow.holds Try.pinned (OpenSpec.upto fnArrearsSpec)

end Rows
end Go.Proofs.Ytnklpdckclgilaa
