/-
  Contracts: fractions in lowest terms; SurvivalOf, MiddleAge.
-/
import Derived.Test.YtggfonpjmplmfaaV3
import Derived.Test.YtggfonpjmplmfaaG3
set_option linter.unusedSimpArgs false
set_option linter.unusedVariables false
namespace Go.Proofs.Ytggfonpjmplmfaa
open Go.RowKit
/-- a part of a fraction in lowest terms -/
def fr (a b x : Int) : Int := x / ((Nat.gcd a.toNat b.toNat : Nat) : Int)
theorem gcd_bd {a b : Nat} (hb : 0 < b) : 0 < Nat.gcd a b ∧ Nat.gcd a b ≤ b := ⟨Nat.gcd_pos_of_pos_right a hb, Nat.gcd_le_right a hb⟩
theorem div_bd {x g : Int} (hx : 0 ≤ x ∧ x ≤ 1000000000000000) (hg : 0 < g) : 0 ≤ x / g ∧ x / g ≤ 1000000000000000 :=
  ⟨Int.ediv_nonneg hx.1 (by omega), Int.le_trans (Int.ediv_le_self _ hx.1) hx.2⟩
theorem sGcdB_any (a b : Nat) (w : World) (ha : a ≤ 1000000000000000) (hb : b ≤ 1000000000000000) : Calls Try.prog 89 #[.int .i64 a, .int .i64 b] w fun e w' => e = .returned (.int .i64 ((Nat.gcd a b : Nat) : Int)) ∧ Below w.heap.size w w' := (sGcd_any a b w ha hb).mono fun _ _ ⟨h1, h2⟩ => ⟨h1, by rw [← h2]; exact Below.refl _ _⟩
set_option maxHeartbeats 1000000 in
theorem iFr_any (a b : Int) (w : World) (ha : 0 ≤ a ∧ a ≤ 1000000000000000) (hb : 0 < b ∧ b ≤ 1000000000000000) : Calls Try.prog 59 #[.int .i64 a, .int .i64 b] w fun e w' => e = .returned (.tuple #[.int .i64 (fr a b a), .int .i64 (fr a b b)]) ∧ Below w.heap.size w w' := by
  obtain ⟨a, rfl⟩ := Int.eq_ofNat_of_zero_le ha.1
  obtain ⟨b, rfl⟩ := Int.eq_ofNat_of_zero_le (Int.le_of_lt hb.1)
  have HG := fun W => iGcd_any a b W (by omega) (by omega)
  have hg := gcd_bd (a := a) (b := b) (by omega)
  have hg1 : (0 : Int) < ((Nat.gcd a b : Nat) : Int) := by omega
  have d1 := div_bd (x := (a : Int)) (by omega) hg1
  have d2 := div_bd (x := (b : Int)) (by omega) hg1
  have E1 : Hid (fr (a : Int) (b : Int) (a : Int) = (a : Int) / ((Nat.gcd a b : Nat) : Int)) := rfl
  have E2 : Hid (fr (a : Int) (b : Int) (b : Int) = (b : Int) / ((Nat.gcd a b : Nat) : Int)) := rfl
  have hgz : ((Nat.gcd a b : Nat) : Int) ≠ 0 := by omega
  have hg2 : ((Nat.gcd a b : Nat) : Int) ≤ 1000000000000000 := by omega
  generalize ((Nat.gcd a b : Nat) : Int) = g at *
  have q1 := IntWalk.i64_in ((a : Int) / g) (by omega)
  have q2 := IntWalk.i64_in ((b : Int) / g) (by omega)
  have HG := Lib.hid HG
  clear hg
  go_enter Try.func59, Try.ntmps59
  go_wp2_with (go_at_call 90; (with_reducible refine (HG.out _).mono ?_); rintro ee w1 ⟨rfl, hb1⟩)
  go_quiet (fail)
  go_wp2
  go_returns
  exact ⟨by rw [E1.out, E2.out]; rfl, by first | (go_grown; done) | exact below_drewN hb1 _⟩
set_option maxHeartbeats 1000000 in
theorem sFr_any (a b : Int) (w : World) (ha : 0 ≤ a ∧ a ≤ 1000000000000000) (hb : 0 < b ∧ b ≤ 1000000000000000) : Calls Try.prog 57 #[.int .i64 a, .int .i64 b] w fun e w' => e = .returned (.tuple #[.int .i64 (fr a b a), .int .i64 (fr a b b)]) ∧ Below w.heap.size w w' := by
  obtain ⟨a, rfl⟩ := Int.eq_ofNat_of_zero_le ha.1
  obtain ⟨b, rfl⟩ := Int.eq_ofNat_of_zero_le (Int.le_of_lt hb.1)
  have HG := fun W => sGcdB_any a b W (by omega) (by omega)
  have hg := gcd_bd (a := a) (b := b) (by omega)
  have hg1 : (0 : Int) < ((Nat.gcd a b : Nat) : Int) := by omega
  have d1 := div_bd (x := (a : Int)) (by omega) hg1
  have d2 := div_bd (x := (b : Int)) (by omega) hg1
  have E1 : Hid (fr (a : Int) (b : Int) (a : Int) = (a : Int) / ((Nat.gcd a b : Nat) : Int)) := rfl
  have E2 : Hid (fr (a : Int) (b : Int) (b : Int) = (b : Int) / ((Nat.gcd a b : Nat) : Int)) := rfl
  have hgz : ((Nat.gcd a b : Nat) : Int) ≠ 0 := by omega
  have hg2 : ((Nat.gcd a b : Nat) : Int) ≤ 1000000000000000 := by omega
  generalize ((Nat.gcd a b : Nat) : Int) = g at *
  have q1 := IntWalk.i64_in ((a : Int) / g) (by omega)
  have q2 := IntWalk.i64_in ((b : Int) / g) (by omega)
  have HG := Lib.hid HG
  clear hg
  go_enter Try.func57, Try.ntmps57
  go_wp2_with (go_at_call 89; (with_reducible refine (HG.out _).mono ?_); rintro ee w1 ⟨rfl, hb1⟩)
  go_quiet (fail)
  go_wp2
  go_returns
  exact ⟨by rw [E1.out, E2.out]; rfl, by first | (go_grown; done) | exact below_drewN hb1 _⟩
end Go.Proofs.Ytggfonpjmplmfaa
