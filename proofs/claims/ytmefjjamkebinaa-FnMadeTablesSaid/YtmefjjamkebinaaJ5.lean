/-
  Contracts of the functions of chapter 8: BothAlive (impl).
-/
import Derived.Test.YtmefjjamkebinaaJ4
set_option linter.unusedSimpArgs false
set_option linter.unusedVariables false
namespace Go.Proofs.Ytmefjjamkebinaa
open Go.RowKit
theorem prC_split {f x : Int} {n : Nat} {xs : List Int} {g y : Int} {m : Nat} {ys : List Int} {t : Bool} (h : prC f x n xs g y m ys t = 0) : okTP f n xs ∧ okTP g m ys ∧ (f ≤ x ∧ x ≤ 100) ∧ (g ≤ y ∧ y ≤ 150) ∧ t = true ∧ lv f n xs x ≠ 0 ∧ lv g m ys y ≠ 0 := by
  unfold prC at h
  split at h
  · next h1 =>
    split at h
    · next h2 =>
      split at h
      · exact absurd h (by decide)
      · next h3 =>
        have h4 := h2.1
        simp only [inPB, Bool.and_eq_true, inR_iff] at h4
        exact ⟨okT_t.1 h1.1, okT_t.1 h1.2, by omega, by omega, h2.2, fun e => h3 (.inl e), fun e => h3 (.inr e)⟩
    · exact absurd h (by decide)
  · exact absurd h (by decide)
theorem mul_bd {a b : Int} (ha : 0 ≤ a ∧ a ≤ 1000000) (hb : 0 ≤ b ∧ b ≤ 1000000) : 0 ≤ a * b ∧ a * b ≤ 1000000000000 :=
  ⟨Int.mul_nonneg ha.1 hb.1, Int.le_trans (Int.mul_le_mul ha.2 hb.2 hb.1 (by omega)) (by omega)⟩
noncomputable def baV (f x : Int) (n : Nat) (xs : List Int) (g y : Int) (m : Nat) (ys : List Int) (z : Int) : Value :=
  if prC f x n xs g y m ys (inR 0 150 z) = 0 then .tuple #[.int .i64 (fr (lv f n xs (x + z) * lv g m ys (y + z)) (lv f n xs x * lv g m ys y) (lv f n xs (x + z) * lv g m ys (y + z))), .int .i64 (fr (lv f n xs (x + z) * lv g m ys (y + z)) (lv f n xs x * lv g m ys y) (lv f n xs x * lv g m ys y)), .int .i64 0]
  else .tuple #[.int .i64 0, .int .i64 0, .int .i64 (prC f x n xs g y m ys (inR 0 150 z))]
theorem baV_shape (f x : Int) (n : Nat) (xs : List Int) (g y : Int) (m : Nat) (ys : List Int) (z : Int) : ∃ a b k, baV f x n xs g y m ys z = .tuple #[.int .i64 a, .int .i64 b, .int .i64 k] := by
  unfold baV
  split
  · exact ⟨_, _, _, rfl⟩
  · exact ⟨_, _, _, rfl⟩
end Go.Proofs.Ytmefjjamkebinaa
