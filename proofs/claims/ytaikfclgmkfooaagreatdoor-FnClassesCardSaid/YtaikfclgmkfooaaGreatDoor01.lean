/-
  Contracts of the comparisons of lists that the laws of drawn inputs use: equal lists compare as like.
-/
import Derived.Test.YtaikfclgmkfooaaGreatDoorB
set_option linter.unusedSimpArgs false
set_option linter.unusedVariables false
namespace Go.Proofs.YtaikfclgmkfooaaGreatDoor
open Go.RowKit
set_option maxHeartbeats 400000 in
theorem likeInts_same (A A' : Option Addr) (n c c' B B' : Nat) (zs : List Int) (w : World) (h : RdI w B A n zs) (h' : RdI w B' A' n zs) (hn : n ≤ maxLen) :
    Calls Tryz.prog 37 #[.slice A n c, .slice A' n c'] w fun e w' => e = .returned (.bool true) ∧ Below w.heap.size w w' := by
  unfold maxLen at hn
  go_enter Tryz.func37, Tryz.ntmps37
  go_wp2
  go_loopw [5] (fun i wr => ∃ k : Nat, k ≤ n ∧ i = .int .i64 k ∧ ∃ q, wr = w.drewN q) (fun i _ => n - (intOf i).toNat)
  case atStart => exact ⟨0, Nat.zero_le _, rfl, 0, rfl⟩
  case round =>
    obtain ⟨k, hk, rfl, q, rfl⟩ := hrel
    by_cases hlt : k < n
    · obtain ⟨ad, z, rfl, hb, hz, hc⟩ := h.atI hlt
      obtain ⟨ad', z', rfl, hb', hz', hc'⟩ := h'.atI hlt
      cases hz.symm.trans hz'
      clear hz hz'
      have hlt' : (k : Int) < (n : Int) := by omega
      go_wp2_with fail
      go_quiet (fail)
      go_wp2
      go_roundw
      case rel => exact ⟨k + 1, by omega, by go_num, _, rfl⟩
      case measure => simp [intOf]; omega
    · go_wp2
      go_ret
      exact ⟨rfl, by first | exact below_drewN (Below.refl _ _) _ | exact Below.refl _ _⟩
end Go.Proofs.YtaikfclgmkfooaaGreatDoor
