/-
  Contracts of rounding up to thousandths.
-/
import Derived.Test.YtmefjjamkebinaaB
set_option linter.unusedSimpArgs false
set_option linter.unusedVariables false
namespace Go.Proofs.Ytmefjjamkebinaa
open Go.RowKit
/-- p / 1000, rounded up -/
def cu (p : Int) : Int := (p + 999) / 1000
theorem cu_bd {p : Int} (hp : 0 ≤ p ∧ p ≤ 1000000000) : 0 ≤ cu p ∧ cu p ≤ 1000000 := by unfold cu; omega
theorem down_div (p : Int) (hp : 0 ≤ p) : (-p).tdiv 1000 = -(p / 1000) ∧ (-p).tmod 1000 = -(p % 1000) := by
  rw [Int.neg_tdiv, Int.tdiv_eq_ediv_of_nonneg hp, Int.neg_tmod, Int.tmod_eq_emod_of_nonneg hp]
  exact ⟨rfl, rfl⟩
set_option maxHeartbeats 1000000 in
theorem iUp_any (p : Int) (w : World) (hp : 0 ≤ p ∧ p ≤ 1000000000) : Calls Try.prog 40 #[.int .i64 p, .int .i64 1000] w fun e w' => e = .returned (.int .i64 (cu p)) ∧ w = w' := by
  obtain ⟨h1, h2⟩ := down_div p hp.1
  have h3 : ((-(p % 1000) < 0) ∧ Hid (-(-(p / 1000) - 1) = cu p)) ∨ (¬ (-(p % 1000) < 0) ∧ Hid (-(-(p / 1000)) = cu p)) := by
    unfold cu
    by_cases h : -(p % 1000) < 0
    · exact .inl ⟨h, show _ = _ by omega⟩
    · exact .inr ⟨h, show _ = _ by omega⟩
  generalize hq : p / 1000 = q at *
  generalize hr : p % 1000 = r at *
  have hq1 : 0 ≤ q ∧ q ≤ 1000000 := by omega
  have hr1 : 0 ≤ r ∧ r ≤ 999 := by omega
  clear hq hr
  rcases h3 with ⟨h4, h5⟩ | ⟨h4, h5⟩
  all_goals
    go_enter Try.func40, Try.ntmps40
    go_wp2
    have h6 := h5.out
    go_returns
    refine ⟨?_, rfl⟩
    rw [← h6]
    first
    | rfl
    | (rw [Int.neg_neg]; rfl)
set_option maxHeartbeats 1000000 in
theorem sUp_any (p : Int) (w : World) (hp : 0 ≤ p ∧ p ≤ 1000000000) : Calls Try.prog 43 #[.int .i64 p, .int .i64 1000] w fun e w' => e = .returned (.int .i64 (cu p)) ∧ w = w' := by
  obtain ⟨h1, h2⟩ := down_div p hp.1
  have h3 : ((-(p % 1000) < 0) ∧ Hid (-(-(p / 1000) - 1) = cu p)) ∨ (¬ (-(p % 1000) < 0) ∧ Hid (-(-(p / 1000)) = cu p)) := by
    unfold cu
    by_cases h : -(p % 1000) < 0
    · exact .inl ⟨h, show _ = _ by omega⟩
    · exact .inr ⟨h, show _ = _ by omega⟩
  generalize hq : p / 1000 = q at *
  generalize hr : p % 1000 = r at *
  have hq1 : 0 ≤ q ∧ q ≤ 1000000 := by omega
  have hr1 : 0 ≤ r ∧ r ≤ 999 := by omega
  clear hq hr
  rcases h3 with ⟨h4, h5⟩ | ⟨h4, h5⟩
  all_goals
    go_enter Try.func43, Try.ntmps43
    go_wp2
    have h6 := h5.out
    go_returns
    refine ⟨?_, rfl⟩
    rw [← h6]
    first
    | rfl
    | (rw [Int.neg_neg]; rfl)
end Go.Proofs.Ytmefjjamkebinaa
