/-
  Contracts: fractions in lowest terms; SurvivalOf, MiddleAge.
-/
import Derived.Test.YtmefjjamkebinaaV3
import Derived.Test.YtmefjjamkebinaaG3
set_option linter.unusedSimpArgs false
set_option linter.unusedVariables false
namespace Go.Proofs.Ytmefjjamkebinaa
open Go.RowKit
/-- a part of a fraction in lowest terms -/
def fr (a b x : Int) : Int := x / ((Nat.gcd a.toNat b.toNat : Nat) : Int)
theorem gcd_bd {a b : Nat} (hb : 0 < b) : 0 < Nat.gcd a b ∧ Nat.gcd a b ≤ b := ⟨Nat.gcd_pos_of_pos_right a hb, Nat.gcd_le_right a hb⟩
theorem div_bd {x g : Int} (hx : 0 ≤ x ∧ x ≤ 1000000000000000) (hg : 0 < g) : 0 ≤ x / g ∧ x / g ≤ 1000000000000000 :=
  ⟨Int.ediv_nonneg hx.1 (by omega), Int.le_trans (Int.ediv_le_self _ hx.1) hx.2⟩
end Go.Proofs.Ytmefjjamkebinaa
