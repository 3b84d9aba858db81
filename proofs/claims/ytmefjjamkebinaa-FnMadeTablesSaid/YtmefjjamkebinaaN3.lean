/-
  Contracts: MiddleAge.
-/
import Derived.Test.YtmefjjamkebinaaV3
set_option linter.unusedSimpArgs false
set_option linter.unusedVariables false
namespace Go.Proofs.Ytmefjjamkebinaa
open Go.RowKit
noncomputable def alC (f : Int) (n : Nat) (xs : List Int) (age : Int) : Int := if ageC f n xs age = 0 then (if lv f n xs age = 0 then 5 else 0) else ageC f n xs age
theorem alC_k {f : Int} {n : Nat} {xs : List Int} {age : Int} (h : ageC f n xs age ≠ 0) : Hid (alC f n xs age = ageC f n xs age) := if_neg h
theorem alC_5 {f : Int} {n : Nat} {xs : List Int} {age : Int} (h : ageC f n xs age = 0) (h2 : lv f n xs age = 0) : Hid (alC f n xs age = 5) := by show _ = _; unfold alC; rw [if_pos h, if_pos h2]
theorem alC_0 {f : Int} {n : Nat} {xs : List Int} {age : Int} (h : ageC f n xs age = 0) (h2 : lv f n xs age ≠ 0) : Hid (alC f n xs age = 0) := by show _ = _; unfold alC; rw [if_pos h, if_neg h2]
theorem alC_split {f : Int} {n : Nat} {xs : List Int} {age : Int} (h : alC f n xs age = 0) : ageC f n xs age = 0 ∧ lv f n xs age ≠ 0 := by
  unfold alC at h
  split at h
  · next h1 =>
    split at h
    · exact absurd h (by decide)
    · next h2 => exact ⟨h1, h2⟩
  · next h1 => exact absurd h h1
/-- the first age at which at most half live -/
def midN (f : Int) (n : Nat) (xs : List Int) (L : Int) : Nat → Int → Int
  | 0, x => x
  | k + 1, x => if L < 2 * lv f n xs x then midN f n xs L k (x + 1) else x
noncomputable def midV (f : Int) (n : Nat) (xs : List Int) (age : Int) : Value := if alC f n xs age = 0 then .tuple #[.int .i64 (midN f n xs (lv f n xs age) (f + n - age).toNat age), .int .i64 0] else .tuple #[.int .i64 0, .int .i64 (alC f n xs age)]
theorem mid_go {f : Int} {n : Nat} {xs : List Int} {L x : Int} (hL : 0 < L) (h : L < 2 * lv f n xs x) : x < f + n ∧ Hid (midN f n xs L (f + n - x).toNat x = midN f n xs L (f + n - (x + 1)).toNat (x + 1)) := by
  have hx : x < f + n := by
    by_cases hx : x < f + n
    · exact hx
    · rw [(lv_out hx).out] at h; omega
  refine ⟨hx, ?_⟩
  obtain ⟨k, hk⟩ : ∃ k, (f + n - x).toNat = k + 1 := ⟨(f + n - x).toNat - 1, by omega⟩
  have hk2 : (f + n - (x + 1)).toNat = k := by omega
  show _ = _
  rw [hk, hk2, midN, if_pos h]
theorem mid_end {f : Int} {n : Nat} {xs : List Int} {L x : Int} (h : ¬ L < 2 * lv f n xs x) : Hid (midN f n xs L (f + n - x).toNat x = x) := by
  show _ = _
  cases (f + n - x).toNat with
  | zero => rfl
  | succ k => rw [midN, if_neg h]
theorem midV_shape (f : Int) (n : Nat) (xs : List Int) (age : Int) : ∃ a k, midV f n xs age = .tuple #[.int .i64 a, .int .i64 k] := by
  unfold midV
  split
  · exact ⟨_, _, rfl⟩
  · exact ⟨_, _, rfl⟩
end Go.Proofs.Ytmefjjamkebinaa
