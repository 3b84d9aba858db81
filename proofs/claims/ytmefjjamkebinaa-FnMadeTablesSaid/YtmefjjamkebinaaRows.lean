/-
  No cell of these rows narrows 'for every input' (looked for: loops, veiled, ifaces, maps, wideKeys, modest, calm, conditions, laid).
  DERIVED. THE GIVEN ROWS OF THIS SEAT. 3 by the template 'for every input the law returns true; each argument reads behind the call as it read before'; 0 by the template 'total and deterministic' (their statements: YtmefjjamkebinaaTotals.lean).
  GIVEN WITH THE SEED: the statements are not yours to turn. If you find one false, say at which input.
  Laid BY PROGRAM, IN A SANDBOX (cutbox-rows.mjs): the forced cells as the released guide's own fill.sh prints them over the translation 716a7648c7be1b83… (all of the seat's roots in one cut). By AI agents, Wed Nov 11 2026. No macro, syntax, notation, axiom, sorry.
-/
import Derived.Test.YtmefjjamkebinaaChecked
import GoSem.Claim
import GoSem.ClaimJoined
import GoSem.ClaimMapViews
import Derived.JoinedTies
import Derived.KernelRfl
namespace Go.Proofs.Ytmefjjamkebinaa
/- THE CELL 'sum', in the pinned program and in every row, IS THE sha256 OF THE DUMP (.gsa) THAT YtmefjjamkebinaaProg.lean LOADS. Nothing in Lean hashes anything: it is a label: what it is worth is what the hold of that sum in a sandbox is worth. -/
noncomputable def Try.pinned : Pinned := { name := "ytmefjjamkebinaa", sum := "716a7648c7be1b83775ad5ccf269c827a91e2406186c85d20c5b6fa2b2140499", checked := Try.checked }
namespace Rows
def none {H : Type} : Left H := { results := [], args := [] }

/-- 'laws.FnExactJointTable': WHATEVER THE INPUT: true; the input reads as it did. -/
def fnExactJointTableSpec : ChangeSpec := { name := "fnExactJointTable", fn := fun _ => fun
  | [d1, d2, d3, d4] => { results := [.lit (.bool true)], args := [d1, d2, d3, d4] }
  | _ => none }
def fnExactJointTableRow : OpenClaim := { program := "ytmefjjamkebinaa", sum := "716a7648c7be1b83775ad5ccf269c827a91e2406186c85d20c5b6fa2b2140499", func := "loop.example/g01025/laws.FnExactJointTable", spec := "fnExactJointTable", apart := false }
def FnExactJointTableSaid : Prop := fnExactJointTableRow.holds Try.pinned (OpenSpec.ofChange fnExactJointTableSpec)

/-- ITS FALSE NEIGHBOUR: 'it returns false'. Refute it at one input. -/
def fnExactJointTableWrong : ChangeSpec := { name := "fnExactJointTable", fn := fun _ => fun
  | [d1, d2, d3, d4] => { results := [.lit (.bool false)], args := [d1, d2, d3, d4] }
  | _ => none }
def FnExactJointTableWrongFalsely : Prop := fnExactJointTableRow.holds Try.pinned (OpenSpec.ofChange fnExactJointTableWrong)

/-- 'laws.FnMadeTables': WHATEVER THE INPUT: true; the input reads as it did. -/
def fnMadeTablesSpec : ChangeSpec := { name := "fnMadeTables", fn := fun _ => fun
  | [d] => { results := [.lit (.bool true)], args := [d] }
  | _ => none }
def fnMadeTablesRow : OpenClaim := { program := "ytmefjjamkebinaa", sum := "716a7648c7be1b83775ad5ccf269c827a91e2406186c85d20c5b6fa2b2140499", func := "loop.example/g01025/laws.FnMadeTables", spec := "fnMadeTables", unfollowed := true, recurses := true, apart := false }
def FnMadeTablesSaid : Prop := fnMadeTablesRow.holds Try.pinned (OpenSpec.ofChange fnMadeTablesSpec)

/-- ITS FALSE NEIGHBOUR: 'it returns false'. Refute it at one input. -/
def fnMadeTablesWrong : ChangeSpec := { name := "fnMadeTables", fn := fun _ => fun
  | [d] => { results := [.lit (.bool false)], args := [d] }
  | _ => none }
def FnMadeTablesWrongFalsely : Prop := fnMadeTablesRow.holds Try.pinned (OpenSpec.ofChange fnMadeTablesWrong)

/-- 'laws.FnExactColumnsAt': WHATEVER THE INPUT: true; the input reads as it did. -/
def fnExactColumnsAtSpec : ChangeSpec := { name := "fnExactColumnsAt", fn := fun _ => fun
  | [d1, d2, d3] => { results := [.lit (.bool true)], args := [d1, d2, d3] }
  | _ => none }
def fnExactColumnsAtRow : OpenClaim := { program := "ytmefjjamkebinaa", sum := "716a7648c7be1b83775ad5ccf269c827a91e2406186c85d20c5b6fa2b2140499", func := "loop.example/g01025/laws.FnExactColumnsAt", spec := "fnExactColumnsAt", apart := false }
def FnExactColumnsAtSaid : Prop := fnExactColumnsAtRow.holds Try.pinned (OpenSpec.ofChange fnExactColumnsAtSpec)

/-- ITS FALSE NEIGHBOUR: 'it returns false'. Refute it at one input. -/
def fnExactColumnsAtWrong : ChangeSpec := { name := "fnExactColumnsAt", fn := fun _ => fun
  | [d1, d2, d3] => { results := [.lit (.bool false)], args := [d1, d2, d3] }
  | _ => none }
def FnExactColumnsAtWrongFalsely : Prop := fnExactColumnsAtRow.holds Try.pinned (OpenSpec.ofChange fnExactColumnsAtWrong)

/- THE SECOND FORM. 'bulk': how many values and letters a reading holds, each counted each time it is reached (what is shared counts as often as it is met; a slice's spare places count too). A statement '..UptoSaid' is the law's where the arguments, and the package variables that the reading takes, are together of bulk at most 1048576: NARROWER than '..Said'. Prove '..Said' where nothing that the law and all that it calls make is longer than what came in: it says more and counts as full. Else prove '..UptoSaid'. A law counts once. -/
mutual
def uptoBulk {H : Type} : DataW H → Nat
  | .lit (.string bytes) => bytes.length + 1
  | .lit _ => 1
  | .nil => 1
  | .ptr d => uptoBulk d + 1
  | .slice elems spare => uptoBulkAll elems + uptoBulkAll spare + 1
  | .agg parts => uptoBulkAll parts + 1
  | .iface _ d => uptoBulk d + 1
  | .map entries => uptoBulkEntries entries + 1
  | .held _ => 1
def uptoBulkAll {H : Type} : List (DataW H) → Nat
  | [] => 0
  | d :: r => uptoBulk d + uptoBulkAll r
def uptoBulkEntries {H : Type} : List (Lit × DataW H) → Nat
  | [] => 0
  | x :: r => uptoBulkEntry x + uptoBulkEntries r
def uptoBulkEntry {H : Type} : Lit × DataW H → Nat
  | (.string bytes, d) => bytes.length + uptoBulk d + 1
  | (_, d) => uptoBulk d + 1
 end
def uptoSmall : (H : Type) → List (DataW H) → Bool := fun _ ds => decide (uptoBulkAll ds ≤ 1048576)
def OpenSpec.upto (s : _root_.Go.ChangeSpec) : _root_.Go.OpenSpec := { _root_.Go.OpenSpec.ofChange s with cond := some uptoSmall }

/-- 'laws.FnExactJointTable', WHERE WHAT IT READS IS OF BULK AT MOST 1048576: true; the input reads as it did. -/
def fnExactJointTableUptoRow : OpenClaim := { program := "ytmefjjamkebinaa", sum := "716a7648c7be1b83775ad5ccf269c827a91e2406186c85d20c5b6fa2b2140499", func := "loop.example/g01025/laws.FnExactJointTable", spec := "fnExactJointTable", apart := false, narrowed := true }
def FnExactJointTableUptoSaid : Prop := fnExactJointTableUptoRow.holds Try.pinned (OpenSpec.upto fnExactJointTableSpec)

/-- 'laws.FnMadeTables', WHERE WHAT IT READS IS OF BULK AT MOST 1048576: true; the input reads as it did. -/
def fnMadeTablesUptoRow : OpenClaim := { program := "ytmefjjamkebinaa", sum := "716a7648c7be1b83775ad5ccf269c827a91e2406186c85d20c5b6fa2b2140499", func := "loop.example/g01025/laws.FnMadeTables", spec := "fnMadeTables", unfollowed := true, recurses := true, apart := false, narrowed := true }
def FnMadeTablesUptoSaid : Prop := fnMadeTablesUptoRow.holds Try.pinned (OpenSpec.upto fnMadeTablesSpec)

/-- 'laws.FnExactColumnsAt', WHERE WHAT IT READS IS OF BULK AT MOST 1048576: true; the input reads as it did. -/
def fnExactColumnsAtUptoRow : OpenClaim := { program := "ytmefjjamkebinaa", sum := "716a7648c7be1b83775ad5ccf269c827a91e2406186c85d20c5b6fa2b2140499", func := "loop.example/g01025/laws.FnExactColumnsAt", spec := "fnExactColumnsAt", apart := false, narrowed := true }
def FnExactColumnsAtUptoSaid : Prop := fnExactColumnsAtUptoRow.holds Try.pinned (OpenSpec.upto fnExactColumnsAtSpec)

end Rows
end Go.Proofs.Ytmefjjamkebinaa
