/-
  No cell of these rows narrows 'for every input' (looked for: loops, veiled, ifaces, maps, wideKeys, modest, calm, conditions, laid).
  DERIVED. THE GIVEN ROWS OF THIS SEAT. 10 by the template 'for every input the law returns true; each argument reads behind the call as it read before'; 0 by the template 'total and deterministic' (their statements: YtldemcdocpdkfaaTotals.lean).
  GIVEN WITH THE SEED: the statements are not yours to turn. If you find one false, say at which input.
  Laid BY PROGRAM, IN A SANDBOX (cutbox-rows.mjs): the forced cells as the released guide's own fill.sh prints them over the translation 418752002a74d256… (all of the seat's roots in one cut). By AI agents, Wed Nov 11 2026. No macro, syntax, notation, axiom, sorry.
-/
import Derived.Test.YtldemcdocpdkfaaChecked
import GoSem.Claim
import GoSem.ClaimJoined
import GoSem.ClaimMapViews
import Derived.JoinedTies
import Derived.KernelRfl
namespace Go.Proofs.Ytldemcdocpdkfaa
/- THE CELL 'sum', in the pinned program and in every row, IS THE sha256 OF THE DUMP (.gsa) THAT YtldemcdocpdkfaaProg.lean LOADS. Nothing in Lean hashes anything: it is a label: what it is worth is what the hold of that sum in a sandbox is worth. -/
noncomputable def Try.pinned : Pinned := { name := "ytldemcdocpdkfaa", sum := "418752002a74d25617d1ed779ee64287e1f4965c1d07dc48e4415f926e8551bb", checked := Try.checked }
namespace Rows
def none {H : Type} : Left H := { results := [], args := [] }

/-- 'laws.FnExactAreSpells': WHATEVER THE INPUT: true; the input reads as it did. -/
def fnExactAreSpellsSpec : ChangeSpec := { name := "fnExactAreSpells", fn := fun _ => fun
  | [d] => { results := [.lit (.bool true)], args := [d] }
  | _ => none }
def fnExactAreSpellsRow : OpenClaim := { program := "ytldemcdocpdkfaa", sum := "418752002a74d25617d1ed779ee64287e1f4965c1d07dc48e4415f926e8551bb", func := "loop.example/g01025/laws.FnExactAreSpells", spec := "fnExactAreSpells", apart := false }
def FnExactAreSpellsSaid : Prop := fnExactAreSpellsRow.holds Try.pinned (OpenSpec.ofChange fnExactAreSpellsSpec)

/-- ITS FALSE NEIGHBOUR: 'it returns false'. Refute it at one input. -/
def fnExactAreSpellsWrong : ChangeSpec := { name := "fnExactAreSpells", fn := fun _ => fun
  | [d] => { results := [.lit (.bool false)], args := [d] }
  | _ => none }
def FnExactAreSpellsWrongFalsely : Prop := fnExactAreSpellsRow.holds Try.pinned (OpenSpec.ofChange fnExactAreSpellsWrong)

/-- 'laws.FnExactSickDays': WHATEVER THE INPUT: true; the input reads as it did. -/
def fnExactSickDaysSpec : ChangeSpec := { name := "fnExactSickDays", fn := fun _ => fun
  | [d] => { results := [.lit (.bool true)], args := [d] }
  | _ => none }
def fnExactSickDaysRow : OpenClaim := { program := "ytldemcdocpdkfaa", sum := "418752002a74d25617d1ed779ee64287e1f4965c1d07dc48e4415f926e8551bb", func := "loop.example/g01025/laws.FnExactSickDays", spec := "fnExactSickDays", apart := false }
def FnExactSickDaysSaid : Prop := fnExactSickDaysRow.holds Try.pinned (OpenSpec.ofChange fnExactSickDaysSpec)

/-- ITS FALSE NEIGHBOUR: 'it returns false'. Refute it at one input. -/
def fnExactSickDaysWrong : ChangeSpec := { name := "fnExactSickDays", fn := fun _ => fun
  | [d] => { results := [.lit (.bool false)], args := [d] }
  | _ => none }
def FnExactSickDaysWrongFalsely : Prop := fnExactSickDaysRow.holds Try.pinned (OpenSpec.ofChange fnExactSickDaysWrong)

/-- 'laws.FnExactExhaustedOn': WHATEVER THE INPUT: true; the input reads as it did. -/
def fnExactExhaustedOnSpec : ChangeSpec := { name := "fnExactExhaustedOn", fn := fun _ => fun
  | [d] => { results := [.lit (.bool true)], args := [d] }
  | _ => none }
def fnExactExhaustedOnRow : OpenClaim := { program := "ytldemcdocpdkfaa", sum := "418752002a74d25617d1ed779ee64287e1f4965c1d07dc48e4415f926e8551bb", func := "loop.example/g01025/laws.FnExactExhaustedOn", spec := "fnExactExhaustedOn", apart := false }
def FnExactExhaustedOnSaid : Prop := fnExactExhaustedOnRow.holds Try.pinned (OpenSpec.ofChange fnExactExhaustedOnSpec)

/-- ITS FALSE NEIGHBOUR: 'it returns false'. Refute it at one input. -/
def fnExactExhaustedOnWrong : ChangeSpec := { name := "fnExactExhaustedOn", fn := fun _ => fun
  | [d] => { results := [.lit (.bool false)], args := [d] }
  | _ => none }
def FnExactExhaustedOnWrongFalsely : Prop := fnExactExhaustedOnRow.holds Try.pinned (OpenSpec.ofChange fnExactExhaustedOnWrong)

/-- 'laws.FnExactCasesOf': WHATEVER THE INPUT: true; the input reads as it did. -/
def fnExactCasesOfSpec : ChangeSpec := { name := "fnExactCasesOf", fn := fun _ => fun
  | [d] => { results := [.lit (.bool true)], args := [d] }
  | _ => none }
def fnExactCasesOfRow : OpenClaim := { program := "ytldemcdocpdkfaa", sum := "418752002a74d25617d1ed779ee64287e1f4965c1d07dc48e4415f926e8551bb", func := "loop.example/g01025/laws.FnExactCasesOf", spec := "fnExactCasesOf", apart := false }
def FnExactCasesOfSaid : Prop := fnExactCasesOfRow.holds Try.pinned (OpenSpec.ofChange fnExactCasesOfSpec)

/-- ITS FALSE NEIGHBOUR: 'it returns false'. Refute it at one input. -/
def fnExactCasesOfWrong : ChangeSpec := { name := "fnExactCasesOf", fn := fun _ => fun
  | [d] => { results := [.lit (.bool false)], args := [d] }
  | _ => none }
def FnExactCasesOfWrongFalsely : Prop := fnExactCasesOfRow.holds Try.pinned (OpenSpec.ofChange fnExactCasesOfWrong)

/-- 'laws.FnExactNumberOnDay': WHATEVER THE INPUT: true; the input reads as it did. -/
def fnExactNumberOnDaySpec : ChangeSpec := { name := "fnExactNumberOnDay", fn := fun _ => fun
  | [d1, d2] => { results := [.lit (.bool true)], args := [d1, d2] }
  | _ => none }
def fnExactNumberOnDayRow : OpenClaim := { program := "ytldemcdocpdkfaa", sum := "418752002a74d25617d1ed779ee64287e1f4965c1d07dc48e4415f926e8551bb", func := "loop.example/g01025/laws.FnExactNumberOnDay", spec := "fnExactNumberOnDay", unfollowed := true, recurses := true, apart := false }
def FnExactNumberOnDaySaid : Prop := fnExactNumberOnDayRow.holds Try.pinned (OpenSpec.ofChange fnExactNumberOnDaySpec)

/-- ITS FALSE NEIGHBOUR: 'it returns false'. Refute it at one input. -/
def fnExactNumberOnDayWrong : ChangeSpec := { name := "fnExactNumberOnDay", fn := fun _ => fun
  | [d1, d2] => { results := [.lit (.bool false)], args := [d1, d2] }
  | _ => none }
def FnExactNumberOnDayWrongFalsely : Prop := fnExactNumberOnDayRow.holds Try.pinned (OpenSpec.ofChange fnExactNumberOnDayWrong)

/-- 'laws.FnExactPayOnDay': WHATEVER THE INPUT: true; the input reads as it did. -/
def fnExactPayOnDaySpec : ChangeSpec := { name := "fnExactPayOnDay", fn := fun _ => fun
  | [d1, d2, d3] => { results := [.lit (.bool true)], args := [d1, d2, d3] }
  | _ => none }
def fnExactPayOnDayRow : OpenClaim := { program := "ytldemcdocpdkfaa", sum := "418752002a74d25617d1ed779ee64287e1f4965c1d07dc48e4415f926e8551bb", func := "loop.example/g01025/laws.FnExactPayOnDay", spec := "fnExactPayOnDay", unfollowed := true, recurses := true, apart := false }
def FnExactPayOnDaySaid : Prop := fnExactPayOnDayRow.holds Try.pinned (OpenSpec.ofChange fnExactPayOnDaySpec)

/-- ITS FALSE NEIGHBOUR: 'it returns false'. Refute it at one input. -/
def fnExactPayOnDayWrong : ChangeSpec := { name := "fnExactPayOnDay", fn := fun _ => fun
  | [d1, d2, d3] => { results := [.lit (.bool false)], args := [d1, d2, d3] }
  | _ => none }
def FnExactPayOnDayWrongFalsely : Prop := fnExactPayOnDayRow.holds Try.pinned (OpenSpec.ofChange fnExactPayOnDayWrong)

/-- 'laws.FnExactPayBetween': WHATEVER THE INPUT: true; the input reads as it did. -/
def fnExactPayBetweenSpec : ChangeSpec := { name := "fnExactPayBetween", fn := fun _ => fun
  | [d1, d2, d3, d4] => { results := [.lit (.bool true)], args := [d1, d2, d3, d4] }
  | _ => none }
def fnExactPayBetweenRow : OpenClaim := { program := "ytldemcdocpdkfaa", sum := "418752002a74d25617d1ed779ee64287e1f4965c1d07dc48e4415f926e8551bb", func := "loop.example/g01025/laws.FnExactPayBetween", spec := "fnExactPayBetween", unfollowed := true, recurses := true, apart := false }
def FnExactPayBetweenSaid : Prop := fnExactPayBetweenRow.holds Try.pinned (OpenSpec.ofChange fnExactPayBetweenSpec)

/-- ITS FALSE NEIGHBOUR: 'it returns false'. Refute it at one input. -/
def fnExactPayBetweenWrong : ChangeSpec := { name := "fnExactPayBetween", fn := fun _ => fun
  | [d1, d2, d3, d4] => { results := [.lit (.bool false)], args := [d1, d2, d3, d4] }
  | _ => none }
def FnExactPayBetweenWrongFalsely : Prop := fnExactPayBetweenRow.holds Try.pinned (OpenSpec.ofChange fnExactPayBetweenWrong)

/-- 'laws.FnSickPay': WHATEVER THE INPUT: true; the input reads as it did. -/
def fnSickPaySpec : ChangeSpec := { name := "fnSickPay", fn := fun _ => fun
  | [d] => { results := [.lit (.bool true)], args := [d] }
  | _ => none }
def fnSickPayRow : OpenClaim := { program := "ytldemcdocpdkfaa", sum := "418752002a74d25617d1ed779ee64287e1f4965c1d07dc48e4415f926e8551bb", func := "loop.example/g01025/laws.FnSickPay", spec := "fnSickPay", unfollowed := true, recurses := true, apart := false }
def FnSickPaySaid : Prop := fnSickPayRow.holds Try.pinned (OpenSpec.ofChange fnSickPaySpec)

/-- ITS FALSE NEIGHBOUR: 'it returns false'. Refute it at one input. -/
def fnSickPayWrong : ChangeSpec := { name := "fnSickPay", fn := fun _ => fun
  | [d] => { results := [.lit (.bool false)], args := [d] }
  | _ => none }
def FnSickPayWrongFalsely : Prop := fnSickPayRow.holds Try.pinned (OpenSpec.ofChange fnSickPayWrong)

/-- 'laws.FnExactAddSpell': WHATEVER THE INPUT: true; the input reads as it did. -/
def fnExactAddSpellSpec : ChangeSpec := { name := "fnExactAddSpell", fn := fun _ => fun
  | [d1, d2] => { results := [.lit (.bool true)], args := [d1, d2] }
  | _ => none }
def fnExactAddSpellRow : OpenClaim := { program := "ytldemcdocpdkfaa", sum := "418752002a74d25617d1ed779ee64287e1f4965c1d07dc48e4415f926e8551bb", func := "loop.example/g01025/laws.FnExactAddSpell", spec := "fnExactAddSpell", unfollowed := true, recurses := true, apart := false }
def FnExactAddSpellSaid : Prop := fnExactAddSpellRow.holds Try.pinned (OpenSpec.ofChange fnExactAddSpellSpec)

/-- ITS FALSE NEIGHBOUR: 'it returns false'. Refute it at one input. -/
def fnExactAddSpellWrong : ChangeSpec := { name := "fnExactAddSpell", fn := fun _ => fun
  | [d1, d2] => { results := [.lit (.bool false)], args := [d1, d2] }
  | _ => none }
def FnExactAddSpellWrongFalsely : Prop := fnExactAddSpellRow.holds Try.pinned (OpenSpec.ofChange fnExactAddSpellWrong)

/-- 'laws.FnSpells': WHATEVER THE INPUT: true; the input reads as it did. -/
def fnSpellsSpec : ChangeSpec := { name := "fnSpells", fn := fun _ => fun
  | [d] => { results := [.lit (.bool true)], args := [d] }
  | _ => none }
def fnSpellsRow : OpenClaim := { program := "ytldemcdocpdkfaa", sum := "418752002a74d25617d1ed779ee64287e1f4965c1d07dc48e4415f926e8551bb", func := "loop.example/g01025/laws.FnSpells", spec := "fnSpells", unfollowed := true, recurses := true, apart := false }
def FnSpellsSaid : Prop := fnSpellsRow.holds Try.pinned (OpenSpec.ofChange fnSpellsSpec)

/-- ITS FALSE NEIGHBOUR: 'it returns false'. Refute it at one input. -/
def fnSpellsWrong : ChangeSpec := { name := "fnSpells", fn := fun _ => fun
  | [d] => { results := [.lit (.bool false)], args := [d] }
  | _ => none }
def FnSpellsWrongFalsely : Prop := fnSpellsRow.holds Try.pinned (OpenSpec.ofChange fnSpellsWrong)

/- THE SECOND FORM. 'bulk': how many values and letters a reading holds, each counted each time it is reached (what is shared counts as often as it is met; a slice's spare places count too). A statement '..UptoSaid' is the law's where the arguments, and the package variables that the reading takes, are together of bulk at most 1048576: NARROWER than '..Said'. Prove '..Said' where nothing that the law and all that it calls make is longer than what came in: it says more and counts as full. Else prove '..UptoSaid'. A law counts once. -/
mutual
def uptoBulk {H : Type} : DataW H → Nat
  | .lit (.string bytes) => bytes.length + 1
  | .lit _ => 1
  | .nil => 1
  | .ptr d => uptoBulk d + 1
  | .slice elems spare => uptoBulkAll elems + uptoBulkAll spare + 1
  | .agg parts => uptoBulkAll parts + 1
  | .iface _ d => uptoBulk d + 1
  | .map entries => uptoBulkEntries entries + 1
  | .held _ => 1
def uptoBulkAll {H : Type} : List (DataW H) → Nat
  | [] => 0
  | d :: r => uptoBulk d + uptoBulkAll r
def uptoBulkEntries {H : Type} : List (Lit × DataW H) → Nat
  | [] => 0
  | x :: r => uptoBulkEntry x + uptoBulkEntries r
def uptoBulkEntry {H : Type} : Lit × DataW H → Nat
  | (.string bytes, d) => bytes.length + uptoBulk d + 1
  | (_, d) => uptoBulk d + 1
 end
def uptoSmall : (H : Type) → List (DataW H) → Bool := fun _ ds => decide (uptoBulkAll ds ≤ 1048576)
def OpenSpec.upto (s : _root_.Go.ChangeSpec) : _root_.Go.OpenSpec := { _root_.Go.OpenSpec.ofChange s with cond := some uptoSmall }

/-- 'laws.FnExactAreSpells', WHERE WHAT IT READS IS OF BULK AT MOST 1048576: true; the input reads as it did. -/
def fnExactAreSpellsUptoRow : OpenClaim := { program := "ytldemcdocpdkfaa", sum := "418752002a74d25617d1ed779ee64287e1f4965c1d07dc48e4415f926e8551bb", func := "loop.example/g01025/laws.FnExactAreSpells", spec := "fnExactAreSpells", apart := false, narrowed := true }
def FnExactAreSpellsUptoSaid : Prop := fnExactAreSpellsUptoRow.holds Try.pinned (OpenSpec.upto fnExactAreSpellsSpec)

/-- 'laws.FnExactSickDays', WHERE WHAT IT READS IS OF BULK AT MOST 1048576: true; the input reads as it did. -/
def fnExactSickDaysUptoRow : OpenClaim := { program := "ytldemcdocpdkfaa", sum := "418752002a74d25617d1ed779ee64287e1f4965c1d07dc48e4415f926e8551bb", func := "loop.example/g01025/laws.FnExactSickDays", spec := "fnExactSickDays", apart := false, narrowed := true }
def FnExactSickDaysUptoSaid : Prop := fnExactSickDaysUptoRow.holds Try.pinned (OpenSpec.upto fnExactSickDaysSpec)

/-- 'laws.FnExactExhaustedOn', WHERE WHAT IT READS IS OF BULK AT MOST 1048576: true; the input reads as it did. -/
def fnExactExhaustedOnUptoRow : OpenClaim := { program := "ytldemcdocpdkfaa", sum := "418752002a74d25617d1ed779ee64287e1f4965c1d07dc48e4415f926e8551bb", func := "loop.example/g01025/laws.FnExactExhaustedOn", spec := "fnExactExhaustedOn", apart := false, narrowed := true }
def FnExactExhaustedOnUptoSaid : Prop := fnExactExhaustedOnUptoRow.holds Try.pinned (OpenSpec.upto fnExactExhaustedOnSpec)

/-- 'laws.FnExactCasesOf', WHERE WHAT IT READS IS OF BULK AT MOST 1048576: true; the input reads as it did. -/
def fnExactCasesOfUptoRow : OpenClaim := { program := "ytldemcdocpdkfaa", sum := "418752002a74d25617d1ed779ee64287e1f4965c1d07dc48e4415f926e8551bb", func := "loop.example/g01025/laws.FnExactCasesOf", spec := "fnExactCasesOf", apart := false, narrowed := true }
def FnExactCasesOfUptoSaid : Prop := fnExactCasesOfUptoRow.holds Try.pinned (OpenSpec.upto fnExactCasesOfSpec)

/-- 'laws.FnExactNumberOnDay', WHERE WHAT IT READS IS OF BULK AT MOST 1048576: true; the input reads as it did. -/
def fnExactNumberOnDayUptoRow : OpenClaim := { program := "ytldemcdocpdkfaa", sum := "418752002a74d25617d1ed779ee64287e1f4965c1d07dc48e4415f926e8551bb", func := "loop.example/g01025/laws.FnExactNumberOnDay", spec := "fnExactNumberOnDay", unfollowed := true, recurses := true, apart := false, narrowed := true }
def FnExactNumberOnDayUptoSaid : Prop := fnExactNumberOnDayUptoRow.holds Try.pinned (OpenSpec.upto fnExactNumberOnDaySpec)

/-- 'laws.FnExactPayOnDay', WHERE WHAT IT READS IS OF BULK AT MOST 1048576: true; the input reads as it did. -/
def fnExactPayOnDayUptoRow : OpenClaim := { program := "ytldemcdocpdkfaa", sum := "418752002a74d25617d1ed779ee64287e1f4965c1d07dc48e4415f926e8551bb", func := "loop.example/g01025/laws.FnExactPayOnDay", spec := "fnExactPayOnDay", unfollowed := true, recurses := true, apart := false, narrowed := true }
def FnExactPayOnDayUptoSaid : Prop := fnExactPayOnDayUptoRow.holds Try.pinned (OpenSpec.upto fnExactPayOnDaySpec)

/-- 'laws.FnExactPayBetween', WHERE WHAT IT READS IS OF BULK AT MOST 1048576: true; the input reads as it did. -/
def fnExactPayBetweenUptoRow : OpenClaim := { program := "ytldemcdocpdkfaa", sum := "418752002a74d25617d1ed779ee64287e1f4965c1d07dc48e4415f926e8551bb", func := "loop.example/g01025/laws.FnExactPayBetween", spec := "fnExactPayBetween", unfollowed := true, recurses := true, apart := false, narrowed := true }
def FnExactPayBetweenUptoSaid : Prop := fnExactPayBetweenUptoRow.holds Try.pinned (OpenSpec.upto fnExactPayBetweenSpec)

/-- 'laws.FnSickPay', WHERE WHAT IT READS IS OF BULK AT MOST 1048576: true; the input reads as it did. -/
def fnSickPayUptoRow : OpenClaim := { program := "ytldemcdocpdkfaa", sum := "418752002a74d25617d1ed779ee64287e1f4965c1d07dc48e4415f926e8551bb", func := "loop.example/g01025/laws.FnSickPay", spec := "fnSickPay", unfollowed := true, recurses := true, apart := false, narrowed := true }
def FnSickPayUptoSaid : Prop := fnSickPayUptoRow.holds Try.pinned (OpenSpec.upto fnSickPaySpec)

/-- 'laws.FnExactAddSpell', WHERE WHAT IT READS IS OF BULK AT MOST 1048576: true; the input reads as it did. -/
def fnExactAddSpellUptoRow : OpenClaim := { program := "ytldemcdocpdkfaa", sum := "418752002a74d25617d1ed779ee64287e1f4965c1d07dc48e4415f926e8551bb", func := "loop.example/g01025/laws.FnExactAddSpell", spec := "fnExactAddSpell", unfollowed := true, recurses := true, apart := false, narrowed := true }
def FnExactAddSpellUptoSaid : Prop := fnExactAddSpellUptoRow.holds Try.pinned (OpenSpec.upto fnExactAddSpellSpec)

/-- 'laws.FnSpells', WHERE WHAT IT READS IS OF BULK AT MOST 1048576: true; the input reads as it did. -/
def fnSpellsUptoRow : OpenClaim := { program := "ytldemcdocpdkfaa", sum := "418752002a74d25617d1ed779ee64287e1f4965c1d07dc48e4415f926e8551bb", func := "loop.example/g01025/laws.FnSpells", spec := "fnSpells", unfollowed := true, recurses := true, apart := false, narrowed := true }
def FnSpellsUptoSaid : Prop := fnSpellsUptoRow.holds Try.pinned (OpenSpec.upto fnSpellsSpec)

end Rows
end Go.Proofs.Ytldemcdocpdkfaa
