/-
  Contracts of the small functions that many statements reach: ranges, lists of numbers, searches.
-/
import Derived.Test.YtnklpdckclgilaaProg
import Derived.Test.YtnklpdckclgilaaW
import Derived.Shelf.Abstract
import Derived.Deep.QuietTactic
import Derived.BigQuiet
import Derived.Deep.RegionWith
import Derived.Deep.Cut
import Derived.Deep.CutRange
import Derived.Deep.CutBlock
import Derived.Deep.LoopGhost
import Derived.Deep.DeepFit
import Derived.Deep.DeepMust
set_option linter.unusedSimpArgs false
set_option linter.unusedVariables false
namespace Go.Proofs.Ytnklpdckclgilaa
open Go.RowKit

set_option maxHeartbeats 400000 in
theorem sIn_any (n lo hi : Int) (w : World) : Calls Try.prog 42 #[.int .i64 n, .int .i64 lo, .int .i64 hi] w fun e w' => e = .returned (.bool (inR lo hi n)) ∧ w = w' := by
  by_cases h : lo ≤ n
  · have h2 := Lib.hid (inR_t (hi := hi) (decide_eq_true h))
    go_enter Try.func42, Try.ntmps42
    go_wp2
    go_ret
    exact ⟨by rw [h2.out]; rfl, rfl⟩
  · have h2 := Lib.hid (inR_f (hi := hi) (decide_eq_false h))
    go_enter Try.func42, Try.ntmps42
    go_wp2
    go_ret
    exact ⟨by rw [h2.out]; rfl, rfl⟩
set_option maxHeartbeats 400000 in
theorem inRange_any (n lo hi : Int) (w : World) : Calls Try.prog 44 #[.int .i64 n, .int .i64 lo, .int .i64 hi] w fun e w' => e = .returned (.bool (inR lo hi n)) ∧ w = w' := by
  by_cases h : lo ≤ n
  · have h2 := Lib.hid (inR_t (hi := hi) (decide_eq_true h))
    go_enter Try.func44, Try.ntmps44
    go_wp2
    go_ret
    exact ⟨by rw [h2.out]; rfl, rfl⟩
  · have h2 := Lib.hid (inR_f (hi := hi) (decide_eq_false h))
    go_enter Try.func44, Try.ntmps44
    go_wp2
    go_ret
    exact ⟨by rw [h2.out]; rfl, rfl⟩
set_option maxHeartbeats 400000 in
theorem isMonth_any (n : Int) (w : World) : Calls Try.prog 52 #[.int .i64 n] w fun ee w' => ee = .returned (.bool (inR 0 35999 n)) ∧ w = w' := by
  go_enter Try.func52, Try.ntmps52
  go_wp2_with (go_at_call 44; (with_reducible refine (inRange_any _ _ _ _).mono ?_); rintro ee w1 ⟨rfl, rfl⟩)
  go_ret
  exact ⟨rfl, rfl⟩
set_option maxHeartbeats 400000 in
theorem l02Month_any (n : Int) (w : World) : Calls Try.prog 53 #[.int .i64 n] w fun ee w' => ee = .returned (.bool (inR 0 35999 n)) ∧ w = w' := by
  go_enter Try.func53, Try.ntmps53
  go_wp2_with (go_at_call 42; (with_reducible refine (sIn_any _ _ _ _).mono ?_); rintro ee w1 ⟨rfl, rfl⟩)
  go_ret
  exact ⟨rfl, rfl⟩
end Go.Proofs.Ytnklpdckclgilaa
