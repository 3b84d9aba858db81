/-
  Contracts: the greatest common divisor, fractions in lowest terms.
-/
import Derived.Test.YtmefjjamkebinaaB
set_option linter.unusedSimpArgs false
set_option linter.unusedVariables false
namespace Go.Proofs.Ytmefjjamkebinaa
open Go.RowKit
end Go.Proofs.Ytmefjjamkebinaa
