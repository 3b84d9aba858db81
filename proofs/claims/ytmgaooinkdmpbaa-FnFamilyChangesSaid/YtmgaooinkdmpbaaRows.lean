/-
  No cell of these rows narrows 'for every input' (looked for: loops, veiled, ifaces, maps, wideKeys, modest, calm, conditions, laid).
  DERIVED. THE GIVEN ROWS OF THIS SEAT. 3 by the template 'for every input the law returns true; each argument reads behind the call as it read before'; 0 by the template 'total and deterministic' (their statements: YtmgaooinkdmpbaaTotals.lean).
  GIVEN WITH THE SEED: the statements are not yours to turn. If you find one false, say at which input.
  Laid BY PROGRAM, IN A SANDBOX (cutbox-rows.mjs): the forced cells as the released guide's own fill.sh prints them over the translation 7c9fdff7cf7a1bce… (all of the seat's roots in one cut). By AI agents, Wed Nov 11 2026. No macro, syntax, notation, axiom, sorry.
-/
import Derived.Test.YtmgaooinkdmpbaaChecked
import GoSem.Claim
import GoSem.ClaimJoined
import GoSem.ClaimMapViews
import Derived.JoinedTies
import Derived.KernelRfl
namespace Go.Proofs.Ytmgaooinkdmpbaa
/- THE CELL 'sum', in the pinned program and in every row, IS THE sha256 OF THE DUMP (.gsa) THAT YtmgaooinkdmpbaaProg.lean LOADS. Nothing in Lean hashes anything: it is a label: what it is worth is what the hold of that sum in a sandbox is worth. -/
noncomputable def Try.pinned : Pinned := { name := "ytmgaooinkdmpbaa", sum := "7c9fdff7cf7a1bcecad257de9e19ba7f2f2a2b9253252cc7f56fa9998923b8ae", checked := Try.checked }
namespace Rows
def none {H : Type} : Left H := { results := [], args := [] }

/-- 'laws.FnExactRemarry': WHATEVER THE INPUT: true; the input reads as it did. -/
def fnExactRemarrySpec : ChangeSpec := { name := "fnExactRemarry", fn := fun _ => fun
  | [d1, d2] => { results := [.lit (.bool true)], args := [d1, d2] }
  | _ => none }
def fnExactRemarryRow : OpenClaim := { program := "ytmgaooinkdmpbaa", sum := "7c9fdff7cf7a1bcecad257de9e19ba7f2f2a2b9253252cc7f56fa9998923b8ae", func := "loop.example/g01025/laws.FnExactRemarry", spec := "fnExactRemarry", unfollowed := true, recurses := true, apart := false }
def FnExactRemarrySaid : Prop := fnExactRemarryRow.holds Try.pinned (OpenSpec.ofChange fnExactRemarrySpec)

/-- ITS FALSE NEIGHBOUR: 'it returns false'. Refute it at one input. -/
def fnExactRemarryWrong : ChangeSpec := { name := "fnExactRemarry", fn := fun _ => fun
  | [d1, d2] => { results := [.lit (.bool false)], args := [d1, d2] }
  | _ => none }
def FnExactRemarryWrongFalsely : Prop := fnExactRemarryRow.holds Try.pinned (OpenSpec.ofChange fnExactRemarryWrong)

/-- 'laws.FnFamilies': WHATEVER THE INPUT: true; the input reads as it did. -/
def fnFamiliesSpec : ChangeSpec := { name := "fnFamilies", fn := fun _ => fun
  | [d] => { results := [.lit (.bool true)], args := [d] }
  | _ => none }
def fnFamiliesRow : OpenClaim := { program := "ytmgaooinkdmpbaa", sum := "7c9fdff7cf7a1bcecad257de9e19ba7f2f2a2b9253252cc7f56fa9998923b8ae", func := "loop.example/g01025/laws.FnFamilies", spec := "fnFamilies", unfollowed := true, recurses := true, apart := false }
def FnFamiliesSaid : Prop := fnFamiliesRow.holds Try.pinned (OpenSpec.ofChange fnFamiliesSpec)

/-- ITS FALSE NEIGHBOUR: 'it returns false'. Refute it at one input. -/
def fnFamiliesWrong : ChangeSpec := { name := "fnFamilies", fn := fun _ => fun
  | [d] => { results := [.lit (.bool false)], args := [d] }
  | _ => none }
def FnFamiliesWrongFalsely : Prop := fnFamiliesRow.holds Try.pinned (OpenSpec.ofChange fnFamiliesWrong)

/-- 'laws.FnFamilyChanges': WHATEVER THE INPUT: true; the input reads as it did. -/
def fnFamilyChangesSpec : ChangeSpec := { name := "fnFamilyChanges", fn := fun _ => fun
  | [d] => { results := [.lit (.bool true)], args := [d] }
  | _ => none }
def fnFamilyChangesRow : OpenClaim := { program := "ytmgaooinkdmpbaa", sum := "7c9fdff7cf7a1bcecad257de9e19ba7f2f2a2b9253252cc7f56fa9998923b8ae", func := "loop.example/g01025/laws.FnFamilyChanges", spec := "fnFamilyChanges", unfollowed := true, recurses := true, apart := false }
def FnFamilyChangesSaid : Prop := fnFamilyChangesRow.holds Try.pinned (OpenSpec.ofChange fnFamilyChangesSpec)

/-- ITS FALSE NEIGHBOUR: 'it returns false'. Refute it at one input. -/
def fnFamilyChangesWrong : ChangeSpec := { name := "fnFamilyChanges", fn := fun _ => fun
  | [d] => { results := [.lit (.bool false)], args := [d] }
  | _ => none }
def FnFamilyChangesWrongFalsely : Prop := fnFamilyChangesRow.holds Try.pinned (OpenSpec.ofChange fnFamilyChangesWrong)

/- THE SECOND FORM. 'bulk': how many values and letters a reading holds, each counted each time it is reached (what is shared counts as often as it is met; a slice's spare places count too). A statement '..UptoSaid' is the law's where the arguments, and the package variables that the reading takes, are together of bulk at most 1048576: NARROWER than '..Said'. Prove '..Said' where nothing that the law and all that it calls make is longer than what came in: it says more and counts as full. Else prove '..UptoSaid'. A law counts once. -/
mutual
def uptoBulk {H : Type} : DataW H → Nat
  | .lit (.string bytes) => bytes.length + 1
  | .lit _ => 1
  | .nil => 1
  | .ptr d => uptoBulk d + 1
  | .slice elems spare => uptoBulkAll elems + uptoBulkAll spare + 1
  | .agg parts => uptoBulkAll parts + 1
  | .iface _ d => uptoBulk d + 1
  | .map entries => uptoBulkEntries entries + 1
  | .held _ => 1
def uptoBulkAll {H : Type} : List (DataW H) → Nat
  | [] => 0
  | d :: r => uptoBulk d + uptoBulkAll r
def uptoBulkEntries {H : Type} : List (Lit × DataW H) → Nat
  | [] => 0
  | x :: r => uptoBulkEntry x + uptoBulkEntries r
def uptoBulkEntry {H : Type} : Lit × DataW H → Nat
  | (.string bytes, d) => bytes.length + uptoBulk d + 1
  | (_, d) => uptoBulk d + 1
 end
def uptoSmall : (H : Type) → List (DataW H) → Bool := fun _ ds => decide (uptoBulkAll ds ≤ 1048576)
def OpenSpec.upto (s : _root_.Go.ChangeSpec) : _root_.Go.OpenSpec := { _root_.Go.OpenSpec.ofChange s with cond := some uptoSmall }

/-- 'laws.FnExactRemarry', WHERE WHAT IT READS IS OF BULK AT MOST 1048576: true; the input reads as it did. -/
def fnExactRemarryUptoRow : OpenClaim := { program := "ytmgaooinkdmpbaa", sum := "7c9fdff7cf7a1bcecad257de9e19ba7f2f2a2b9253252cc7f56fa9998923b8ae", func := "loop.example/g01025/laws.FnExactRemarry", spec := "fnExactRemarry", unfollowed := true, recurses := true, apart := false, narrowed := true }
def FnExactRemarryUptoSaid : Prop := fnExactRemarryUptoRow.holds Try.pinned (OpenSpec.upto fnExactRemarrySpec)

/-- 'laws.FnFamilies', WHERE WHAT IT READS IS OF BULK AT MOST 1048576: true; the input reads as it did. -/
def fnFamiliesUptoRow : OpenClaim := { program := "ytmgaooinkdmpbaa", sum := "7c9fdff7cf7a1bcecad257de9e19ba7f2f2a2b9253252cc7f56fa9998923b8ae", func := "loop.example/g01025/laws.FnFamilies", spec := "fnFamilies", unfollowed := true, recurses := true, apart := false, narrowed := true }
def FnFamiliesUptoSaid : Prop := fnFamiliesUptoRow.holds Try.pinned (OpenSpec.upto fnFamiliesSpec)

/-- 'laws.FnFamilyChanges', WHERE WHAT IT READS IS OF BULK AT MOST 1048576: true; the input reads as it did. -/
def fnFamilyChangesUptoRow : OpenClaim := { program := "ytmgaooinkdmpbaa", sum := "7c9fdff7cf7a1bcecad257de9e19ba7f2f2a2b9253252cc7f56fa9998923b8ae", func := "loop.example/g01025/laws.FnFamilyChanges", spec := "fnFamilyChanges", unfollowed := true, recurses := true, apart := false, narrowed := true }
def FnFamilyChangesUptoSaid : Prop := fnFamilyChangesUptoRow.holds Try.pinned (OpenSpec.upto fnFamilyChangesSpec)

end Rows
end Go.Proofs.Ytmgaooinkdmpbaa
