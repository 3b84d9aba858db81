/-
  Contracts of the laws' own dice: big, roll, below. Conditions: bytes that came in.
-/
import Derived.Test.YtaikfclgmkfooaaGreatDoorD
import Derived.Laws.BitsLemmas
import Derived.Laws.Bits64
set_option linter.unusedSimpArgs false
set_option linter.unusedVariables false
namespace Go.Proofs.YtaikfclgmkfooaaGreatDoor
open Go.RowKit
theorem belowG {a b w : World} {B g : Nat} (h : Below B a w) (hg : w.grownBy b (some g)) (hB : B ≤ g) (hs : B ≤ w.heap.size) : Below B a b := h.grown hg hs (fun k e => by cases e; exact hB)
set_option maxHeartbeats 400000 in
theorem big_any (A : Option Addr) (n c : Nat) (w : World) (hn : n ≤ maxLen) : Calls Tryz.prog 4 #[.slice A n c] w fun e w' => e = .returned (.bool (decide (4096 < n))) ∧ w = w' := by
  unfold maxLen at hn
  go_enter Tryz.func4, Tryz.ntmps4
  go_wp2
  go_ret
  exact ⟨ret_bool (decide_eq_decide.2 (by omega)), rfl⟩
end Go.Proofs.YtaikfclgmkfooaaGreatDoor
