/-
  The comparison of two lists of spells that the law of spells uses: equal lists compare as like.
-/
import Derived.Test.YtldemcdocpdkfaaP2
import Derived.Test.Ytldemcdocpdkfaa01
set_option linter.unusedSimpArgs false
set_option linter.unusedVariables false
namespace Go.Proofs.Ytldemcdocpdkfaa
open Go.RowKit
set_option maxHeartbeats 1000000 in
theorem likeSpells_same (A A' : Option Addr) (n c c' B B' : Nat) (xs : List (Int × Int)) (w : World) (h : RdP w B A n xs) (h' : RdP w B' A' n xs) (hB : B ≤ w.heap.size) (hB' : B' ≤ w.heap.size) (hn : n ≤ maxLen) : Calls Try.prog 45 #[.slice A n c, .slice A' n c'] w fun e w' => e = .returned (.bool true) ∧ Below w.heap.size w w' := by
  unfold maxLen at hn
  have H := Lib.hid h
  have H' := Lib.hid h'
  clear h h'
  go_enter Try.func45, Try.ntmps45
  go_wp2
  go_loopw [5] (fun i wr => ∃ k : Nat, k ≤ n ∧ i = .int .i64 k ∧ ∃ q, wr = w.drewN q) (fun i _ => n - (intOf i).toNat)
  case atStart => exact ⟨0, Nat.zero_le _, rfl, 0, rfl⟩
  case round =>
    obtain ⟨k, hk, rfl, q, rfl⟩ := hrel
    by_cases hlt : k < n
    · obtain ⟨ad, x, y, rfl, hb, hz, hx, hy⟩ := RdP.atP H.out hlt
      obtain ⟨ad', x', y', rfl, hb', hz', hx', hy'⟩ := RdP.atP H'.out hlt
      cases hz.symm.trans hz'
      clear hz hz'
      have hlt' : (k : Int) < (n : Int) := by omega
      go_wp2_with fail
      go_quiet (fail)
      go_wp2
      go_roundw
      case rel => exact ⟨k + 1, by omega, by go_num, _, rfl⟩
      case measure => simp [intOf]; omega
    · go_wp2
      go_ret
      exact ⟨rfl, by first | exact below_drewN (Below.refl _ _) _ | exact Below.refl _ _⟩
end Go.Proofs.Ytldemcdocpdkfaa
