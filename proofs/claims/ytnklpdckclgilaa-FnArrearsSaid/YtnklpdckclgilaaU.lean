/-
  Contracts of the divisions that round down and up: down, up, l01Down, l01Up. Conditions: the divisor is at least 1, both lie within 2^62.
-/
import Derived.Test.YtnklpdckclgilaaB
set_option linter.unusedSimpArgs false
set_option linter.unusedVariables false
namespace Go.Proofs.Ytnklpdckclgilaa
open Go.RowKit
theorem neg_div {x b : Int} (hb : 0 < b) (h : x % b = 0) : (-x) / b = -(x / b) := by
  have e := Int.mul_ediv_add_emod x b
  exact ((Int.ediv_emod_unique hb (a := -x) (q := -(x / b)) (r := 0)).2 ⟨by rw [Int.mul_neg]; omega, by omega, hb⟩).1
theorem neg_div' {x b : Int} (hb : 0 < b) (h : x % b ≠ 0) : (-x) / b = -(x / b) - 1 := by
  have e := Int.mul_ediv_add_emod x b
  have h1 := Int.emod_nonneg x (show b ≠ 0 by omega)
  have h2 := Int.emod_lt_of_pos x hb
  exact ((Int.ediv_emod_unique hb (a := -x) (q := -(x / b) - 1) (r := b - x % b)).2 ⟨by rw [Int.mul_sub, Int.mul_neg, Int.mul_one]; omega, by omega, by omega⟩).1
/-- the quotient, rounded up -/
def upD (a b : Int) : Int := -((-a) / b)
theorem div_lo {a b : Int} (hb : 1 ≤ b) (ha : 0 ≤ a) : 0 ≤ a / b ∧ a / b ≤ a := ⟨Int.ediv_nonneg ha (by omega), Int.ediv_le_self _ ha⟩
theorem tdiv_neg' {a b : Int} (h : a < 0) : a.tdiv b = -((-a) / b) := by
  have e : a.tdiv b = -((-a).tdiv b) := by rw [Int.neg_tdiv, Int.neg_neg]
  rw [e, Int.tdiv_eq_ediv_of_nonneg (by omega)]
theorem tmod_neg' {a b : Int} (h : a < 0) : a.tmod b = -((-a) % b) := by
  have e : a.tmod b = -((-a).tmod b) := by rw [Int.neg_tmod, Int.neg_neg]
  rw [e, Int.tmod_eq_emod_of_nonneg (by omega)]
set_option maxHeartbeats 1000000 in
theorem iDown_pos (a b : Int) (w : World) (hb : 1 ≤ b ∧ b ≤ 4000000000000000000) (ha : 0 ≤ a ∧ a ≤ 4000000000000000000) : Calls Try.prog 58 #[.int .i64 a, .int .i64 b] w fun e w' => e = .returned (.int .i64 (a / b)) ∧ w = w' := by
  have hm := Int.emod_nonneg a (show b ≠ 0 by omega)
  have hd := div_lo hb.1 ha.1
  go_enter Try.func58, Try.ntmps58
  go_wp2
  go_ret
  exact ⟨rfl, rfl⟩
theorem iDown_neg (a b : Int) (w : World) (hb : 1 ≤ b ∧ b ≤ 4000000000000000000) (ha : -4000000000000000000 ≤ a ∧ a < 0) : Calls Try.prog 58 #[.int .i64 a, .int .i64 b] w fun e w' => e = .returned (.int .i64 (a / b)) ∧ w = w' := by
  have hm := Int.emod_nonneg (-a) (show b ≠ 0 by omega)
  have hd := div_lo hb.1 (show 0 ≤ -a by omega)
  have e1 := tdiv_neg' (b := b) ha.2
  have e2 := tmod_neg' (b := b) ha.2
  go_enter Try.func58, Try.ntmps58
  go_wp2
  all_goals go_ret
  all_goals first
    | exact ⟨ret_int (by have e3 := neg_div (x := -a) (b := b) (by omega) (by omega); rw [Int.neg_neg] at e3; exact e3.symm), rfl⟩
    | exact ⟨ret_int (by have e3 := neg_div' (x := -a) (b := b) (by omega) (by omega); rw [Int.neg_neg] at e3; exact e3.symm), rfl⟩
theorem iDown_any (a b : Int) (w : World) (hb : 1 ≤ b ∧ b ≤ 4000000000000000000) (ha : -4000000000000000000 ≤ a ∧ a ≤ 4000000000000000000) : Calls Try.prog 58 #[.int .i64 a, .int .i64 b] w fun e w' => e = .returned (.int .i64 (a / b)) ∧ w = w' := by
  rcases Int.lt_or_le a 0 with h | h
  · exact iDown_neg a b w hb ⟨ha.1, h⟩
  · exact iDown_pos a b w hb ⟨h, ha.2⟩
theorem iUp_any (a b : Int) (w : World) (hb : 1 ≤ b ∧ b ≤ 4000000000000000000) (ha : 0 ≤ a ∧ a ≤ 4000000000000000000) : Calls Try.prog 46 #[.int .i64 a, .int .i64 b] w fun e w' => e = .returned (.int .i64 (upD a b)) ∧ w = w' := by
  have HD := Lib.hid (iDown_any (-a) b w hb (by omega))
  have hq : -a ≤ (-a) / b ∧ (-a) / b ≤ 0 := by
    by_cases h0 : a = 0
    · subst h0; simp
    · have h1 := div_lo hb.1 ha.1
      by_cases h2 : a % b = 0
      · have := neg_div (x := a) (b := b) (by omega) h2; omega
      · have := neg_div' (x := a) (b := b) (by omega) h2
        have e := Int.mul_ediv_add_emod a b
        have h3 := Int.emod_nonneg a (show b ≠ 0 by omega)
        have h4 : a / b ≤ a - 1 := by
          by_cases h5 : b = 1
          · subst h5; exact absurd (Int.emod_one a) h2
          · have h6 : 2 * (a / b) ≤ b * (a / b) := Int.mul_le_mul_of_nonneg_right (by omega) h1.1
            omega
        omega
  have HU : Hid (upD a b = -((-a) / b)) := rfl
  go_enter Try.func46, Try.ntmps46
  go_wp2_with (go_at_call 58; (with_reducible refine Calls.mono HD.out ?_); rintro ee w1 ⟨rfl, rfl⟩)
  go_ret
  exact ⟨ret_int HU.out.symm, rfl⟩
set_option maxHeartbeats 1000000 in
theorem sDown_pos (a b : Int) (w : World) (hb : 1 ≤ b ∧ b ≤ 4000000000000000000) (ha : 0 ≤ a ∧ a ≤ 4000000000000000000) : Calls Try.prog 57 #[.int .i64 a, .int .i64 b] w fun e w' => e = .returned (.int .i64 (a / b)) ∧ w = w' := by
  have hm := Int.emod_nonneg a (show b ≠ 0 by omega)
  have hd := div_lo hb.1 ha.1
  go_enter Try.func57, Try.ntmps57
  go_wp2
  go_ret
  exact ⟨rfl, rfl⟩
theorem sDown_neg (a b : Int) (w : World) (hb : 1 ≤ b ∧ b ≤ 4000000000000000000) (ha : -4000000000000000000 ≤ a ∧ a < 0) : Calls Try.prog 57 #[.int .i64 a, .int .i64 b] w fun e w' => e = .returned (.int .i64 (a / b)) ∧ w = w' := by
  have hm := Int.emod_nonneg (-a) (show b ≠ 0 by omega)
  have hd := div_lo hb.1 (show 0 ≤ -a by omega)
  have e1 := tdiv_neg' (b := b) ha.2
  have e2 := tmod_neg' (b := b) ha.2
  go_enter Try.func57, Try.ntmps57
  go_wp2
  all_goals go_ret
  all_goals first
    | exact ⟨ret_int (by have e3 := neg_div (x := -a) (b := b) (by omega) (by omega); rw [Int.neg_neg] at e3; exact e3.symm), rfl⟩
    | exact ⟨ret_int (by have e3 := neg_div' (x := -a) (b := b) (by omega) (by omega); rw [Int.neg_neg] at e3; exact e3.symm), rfl⟩
theorem sDown_any (a b : Int) (w : World) (hb : 1 ≤ b ∧ b ≤ 4000000000000000000) (ha : -4000000000000000000 ≤ a ∧ a ≤ 4000000000000000000) : Calls Try.prog 57 #[.int .i64 a, .int .i64 b] w fun e w' => e = .returned (.int .i64 (a / b)) ∧ w = w' := by
  rcases Int.lt_or_le a 0 with h | h
  · exact sDown_neg a b w hb ⟨ha.1, h⟩
  · exact sDown_pos a b w hb ⟨h, ha.2⟩
theorem sUp_any (a b : Int) (w : World) (hb : 1 ≤ b ∧ b ≤ 4000000000000000000) (ha : 0 ≤ a ∧ a ≤ 4000000000000000000) : Calls Try.prog 43 #[.int .i64 a, .int .i64 b] w fun e w' => e = .returned (.int .i64 (upD a b)) ∧ w = w' := by
  have HD := Lib.hid (sDown_any (-a) b w hb (by omega))
  have hq : -a ≤ (-a) / b ∧ (-a) / b ≤ 0 := by
    by_cases h0 : a = 0
    · subst h0; simp
    · have h1 := div_lo hb.1 ha.1
      by_cases h2 : a % b = 0
      · have := neg_div (x := a) (b := b) (by omega) h2; omega
      · have := neg_div' (x := a) (b := b) (by omega) h2
        have e := Int.mul_ediv_add_emod a b
        have h3 := Int.emod_nonneg a (show b ≠ 0 by omega)
        have h4 : a / b ≤ a - 1 := by
          by_cases h5 : b = 1
          · subst h5; exact absurd (Int.emod_one a) h2
          · have h6 : 2 * (a / b) ≤ b * (a / b) := Int.mul_le_mul_of_nonneg_right (by omega) h1.1
            omega
        omega
  have HU : Hid (upD a b = -((-a) / b)) := rfl
  go_enter Try.func43, Try.ntmps43
  go_wp2_with (go_at_call 57; (with_reducible refine Calls.mono HD.out ?_); rintro ee w1 ⟨rfl, rfl⟩)
  go_ret
  exact ⟨ret_int HU.out.symm, rfl⟩
end Go.Proofs.Ytnklpdckclgilaa
