/-
  Contracts of the functions of chapter 8: the chances (the reference's side).
-/
import Derived.Test.YtmefjjamkebinaaJ5
set_option linter.unusedSimpArgs false
set_option linter.unusedVariables false
namespace Go.Proofs.Ytmefjjamkebinaa
open Go.RowKit
def chV (a b c d : Int) : Value := .tuple #[.int .i64 (c * d), .int .i64 (a * b - (a - c) * (b - d)), .int .i64 (a * b)]
theorem okT_anti {f : Int} {n : Nat} {xs : List Int} (h : okTP f n xs) (i : Nat) : ∀ k, i + k < n → gv xs (i + k) ≤ gv xs i := by
  have hm := okT_mono h
  obtain ⟨_, h2, h3, h4, _, h6⟩ := h
  intro k
  induction k with
  | zero => intro _; exact Int.le_refl _
  | succ k ih =>
    intro hk
    have h7 := ih (by omega)
    by_cases h8 : i + k + 1 < n - 1
    · have h9 := (h6 (i + k + 1) h8).2 (by omega)
      rw [Nat.add_sub_cancel] at h9
      exact Int.le_trans h9 h7
    · have h9 : i + (k + 1) = n - 1 := by omega
      rw [h9, h4]
      exact (hm i (by omega)).1
theorem lv_anti {f : Int} {n : Nat} {xs : List Int} (h : okTP f n xs) {x z : Int} (hx : f ≤ x) (hz : 0 ≤ z) : lv f n xs (x + z) ≤ lv f n xs x := by
  by_cases h1 : x + z < f + n
  · have e1 : lv f n xs (x + z) = gv xs (x + z - f).toNat := if_pos h1
    have e2 : lv f n xs x = gv xs (x - f).toNat := if_pos (by omega)
    have e3 : (x + z - f).toNat = (x - f).toNat + z.toNat := by omega
    rw [e1, e2, e3]
    exact okT_anti h _ _ (by omega)
  · have e1 : lv f n xs (x + z) = 0 := if_neg h1
    rw [e1]
    exact (lv_bd h hx).1
end Go.Proofs.Ytmefjjamkebinaa
