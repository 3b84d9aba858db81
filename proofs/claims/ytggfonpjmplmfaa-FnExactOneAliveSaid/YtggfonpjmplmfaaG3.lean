/-
  Contracts: the greatest common divisor, fractions in lowest terms.
-/
import Derived.Test.YtggfonpjmplmfaaB
set_option linter.unusedSimpArgs false
set_option linter.unusedVariables false
namespace Go.Proofs.Ytggfonpjmplmfaa
open Go.RowKit
set_option maxHeartbeats 1000000 in
theorem iGcd_any (a b : Nat) (w : World) (ha : a ≤ 1000000000000000) (hb : b ≤ 1000000000000000) : Calls Try.prog 90 #[.int .i64 a, .int .i64 b] w fun e w' => e = .returned (.int .i64 ((Nat.gcd a b : Nat) : Int)) ∧ Below w.heap.size w w' := by
  go_enter Try.func90, Try.ntmps90
  go_wp2
  go_loopw [0, 1] (fun s t wr => ∃ x y : Nat, x ≤ 1000000000000000 ∧ y ≤ 1000000000000000 ∧ s = .int .i64 x ∧ t = .int .i64 y ∧ Hid (Nat.gcd a b = Nat.gcd x y) ∧ ∃ q, wr = w.drewN q) (fun _ t _ => (intOf t).toNat)
  case atStart => exact ⟨a, b, ha, hb, rfl, rfl, rfl, 0, rfl⟩
  case round =>
    obtain ⟨x, y, hx, hy, rfl, rfl, HG, q, rfl⟩ := hrel
    by_cases h0 : y = 0
    · subst h0
      have HE : Hid (Nat.gcd a b = x) := HG.out.trans (Nat.gcd_zero_right x)
      go_wp2
      go_ret
      exact ⟨by rw [HE.out]; rfl, by first | (go_grown; done) | exact below_drewN (Below.refl _ _) _⟩
    · have hyp : 0 < y := by omega
      have hm : (x : Int) % (y : Int) = ((x % y : Nat) : Int) := by omega
      have hlt := Nat.mod_lt x hyp
      have HE : Hid (Nat.gcd a b = Nat.gcd y (x % y)) := by show _ = _; rw [HG.out, Nat.gcd_comm x y, Nat.gcd_rec y x, Nat.gcd_comm]
      have hz : (y : Int) ≠ 0 := by omega
      have HM := Lib.hid hm
      clear hm
      go_wp2_with fail
      go_quiet (fail)
      go_wp2
      go_roundw
      case rel => exact ⟨y, x % y, by omega, by omega, rfl, by rw [HM.out], HE.out, _, World.drewN_drewN _ _ _⟩
      case measure => simp [intOf]; omega
set_option maxHeartbeats 1000000 in
theorem sGcd_all (N : Nat) : ∀ (a b : Nat) (w : World), b ≤ N → a ≤ 1000000000000000 → b ≤ 1000000000000000 → Calls Try.prog 89 #[.int .i64 a, .int .i64 b] w fun e w' => e = .returned (.int .i64 ((Nat.gcd a b : Nat) : Int)) ∧ w = w' := by
  induction N with
  | zero =>
    intro a b w hN ha hb
    obtain rfl : b = 0 := by omega
    have HE : Hid (Nat.gcd a 0 = a) := Nat.gcd_zero_right a
    go_enter Try.func89, Try.ntmps89
    go_wp2
    go_ret
    exact ⟨by rw [HE.out]; rfl, rfl⟩
  | succ N ih =>
    intro a b w hN ha hb
    by_cases h0 : b = 0
    · subst h0
      have HE : Hid (Nat.gcd a 0 = a) := Nat.gcd_zero_right a
      clear ih
      go_enter Try.func89, Try.ntmps89
      go_wp2
      go_ret
      exact ⟨by rw [HE.out]; rfl, rfl⟩
    · have hyp : 0 < b := by omega
      have hm : (a : Int) % (b : Int) = ((a % b : Nat) : Int) := by omega
      have hlt := Nat.mod_lt a hyp
      have HE : Hid (Nat.gcd a b = Nat.gcd b (a % b)) := by show _ = _; rw [Nat.gcd_comm a b, Nat.gcd_rec b a, Nat.gcd_comm]
      have hz : (b : Int) ≠ 0 := by omega
      have IH := fun W => ih b (a % b) W (by omega) hb (by omega)
      rw [← hm] at IH
      have IH := Lib.hid IH
      clear ih hm
      go_enter Try.func89, Try.ntmps89
      go_wp2_with (go_at_call 89; (with_reducible refine (IH.out _).mono ?_); rintro ee w1 ⟨rfl, rfl⟩)
      go_ret
      exact ⟨by rw [HE.out]; rfl, rfl⟩
theorem sGcd_any (a b : Nat) (w : World) (ha : a ≤ 1000000000000000) (hb : b ≤ 1000000000000000) : Calls Try.prog 89 #[.int .i64 a, .int .i64 b] w fun e w' => e = .returned (.int .i64 ((Nat.gcd a b : Nat) : Int)) ∧ w = w' := sGcd_all b a b w (Nat.le_refl _) ha hb
end Go.Proofs.Ytggfonpjmplmfaa
