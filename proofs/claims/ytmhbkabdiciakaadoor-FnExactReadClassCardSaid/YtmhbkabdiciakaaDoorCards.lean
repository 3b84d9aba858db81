/-
  DERIVED. GIVEN WITH THE SEED: THE CARDS: each row of YtmhbkabdiciakaaDoorRows.lean that lists a variable, with what it lists TIED to the program's text (the seventh form; the later family's looks); each row that meets fmt, with fmt's text TOLD by the authors' own Lean function (tested against real Go, not proved from fmt's source: count such statements apart). THE CARD IS WHAT COUNTS. Prove the row's statement (the work); the ties are given (YtmhbkabdiciakaaDoorTie.lean); close each card by the builder's one call (the guide's Derived/Test/ToyasCard.lean, 'card_holds'). Laid BY PROGRAM, IN A SANDBOX (cutbox-door.mjs). By AI agents, Wed Nov 11 2026. No macro, syntax, notation, axiom, sorry.
-/
import Derived.Test.YtmhbkabdiciakaaDoorRows
import GoSem.ClaimSeven
namespace Go.Proofs.YtmhbkabdiciakaaDoor
namespace Rows

/-- THE TIED CARD OF 'laws.FnExactReadClass'. -/
def fnExactReadClassCard : Claim7 := { stood := { row := fnExactReadClassRow, standIns := [], harness := (true, "aa0af943564824627f1a8cd5fc028c33d4ef2e5d34aa2675d1ee4fbedcc8e5f0"), looks := true }, kinds := [], alts := [], laidByText := true, laidKinds := [.data, .data, .data, .data, .sentinel, .sentinel, .pinned], laidTests := true, laidLooks := .later }
def FnExactReadClassCardSaid : Prop := Claim7.holds Tryd.pinned (.plain (OpenSpec.ofChange fnExactReadClassSpec)) fnExactReadClassCard

/-- THE SECOND FORM's CARD OF 'laws.FnExactReadClass'. -/
def fnExactReadClassUptoCard : Claim7 := { stood := { row := fnExactReadClassUptoRow, standIns := [], harness := (true, "aa0af943564824627f1a8cd5fc028c33d4ef2e5d34aa2675d1ee4fbedcc8e5f0"), looks := true }, kinds := [], alts := [], laidByText := true, laidKinds := [.data, .data, .data, .data, .sentinel, .sentinel, .pinned], laidTests := true, laidLooks := .later }
def FnExactReadClassUptoCardSaid : Prop := Claim7.holds Tryd.pinned (.plain (OpenSpec.upto fnExactReadClassSpec)) fnExactReadClassUptoCard
end Rows
end Go.Proofs.YtmhbkabdiciakaaDoor
