/-
  Chapter 14, for the law of families: the values that the law compares.
-/
import Derived.Test.YtmgaooinkdmpbaaU4
import Derived.Test.YtmgaooinkdmpbaaK4
import Derived.Test.YtmgaooinkdmpbaaH4
set_option linter.unusedSimpArgs false
set_option linter.unusedVariables false
namespace Go.Proofs.Ytmgaooinkdmpbaa
open Go.RowKit
theorem penS_add (d wd lf wi o : Int) (xs : List Int) (a : Int) (j : Nat) : ∀ k : Nat, penS d wd lf wi o xs a (j + k) = penS d wd lf wi o xs a j + penS d wd lf wi o xs (a + j) k := by
  intro k
  induction k with
  | zero => simp [penS]
  | succ k ih =>
    show penS d wd lf wi o xs a (j + k) + penN d wd lf (a + ((j + k : Nat) : Int)) wi o xs = _ + (penS d wd lf wi o xs (a + j) k + penN d wd lf (a + j + k) wi o xs)
    rw [ih, show a + ((j + k : Nat) : Int) = a + j + k by omega]
    omega
/-- what a month costs, and whether the widow and how many orphans get something -/
theorem pen_pack (d m wd lf : Int) (n : Nat) (xs : List Int) (x wi o : Int) (hl : xs.length = n) : ∃ (p one : Int) (ok : Bool) (three k five : Int), peV d m wd lf n xs x wi o = .tuple #[.int .i64 p, .int .i64 one] ∧ gwV d m wd lf n xs x = .tuple #[.bool ok, .int .i64 three] ∧ orV d m wd lf n xs x = .tuple #[.int .i64 k, .int .i64 five] ∧
    ((one == 0) = false ∨ (one = 0 ∧ (0 ≤ o * k ∧ o * k ≤ 12000000) ∧ (0 ≤ wi ∧ wi ≤ 1000000) ∧ ((ok = true ∧ p = o * k + wi) ∨ (ok = false ∧ p = o * k)))) := by
  rcases faC_cases d m wd lf n xs (inR 0 35999 x && (inR 0 1000000 wi && inR 0 1000000 o)) with ⟨h0, hf, hb⟩ | ⟨h0, hf, hb⟩ | ⟨h0, hf⟩
  · simp only [Bool.and_eq_true] at hb
    have hx : faC d m wd lf n xs (inR 0 35999 x) = 0 := by unfold faC; rw [if_pos (famT_t.2 hf), hb.1]; rfl
    refine ⟨penN d wd lf x wi o xs, 0, widB wd lf x, 0, orpN d x xs, 0, by unfold peV; rw [if_pos h0], by unfold gwV; rw [if_pos hx], by unfold orV; rw [if_pos hx], .inr ⟨rfl, ?_, inR_iff.1 hb.2.1, ?_⟩⟩
    · have := orpo_bd (d := d) (x := x) (o := o) (xs := xs) (by have := hf.2.2.2.2.1; omega) (inR_iff.1 hb.2.2)
      rw [Int.mul_comm]
      exact this
    · unfold penN
      rw [Int.mul_comm o]
      cases hw : widB wd lf x with
      | true => exact .inl ⟨rfl, by simp⟩
      | false => exact .inr ⟨rfl, by simp⟩
  all_goals
    have h1 : faC d m wd lf n xs (inR 0 35999 x && (inR 0 1000000 wi && inR 0 1000000 o)) ≠ 0 := by rw [h0]; decide
    by_cases hx : faC d m wd lf n xs (inR 0 35999 x) = 0
    · exact ⟨_, _, _, _, _, _, if_neg h1, if_pos hx, if_pos hx, .inl (by rw [h0]; rfl)⟩
    · exact ⟨_, _, _, _, _, _, if_neg h1, if_neg hx, if_neg hx, .inl (by rw [h0]; rfl)⟩
/-- what a time costs, and what its parts cost -/
theorem pbt_pack (d m wd lf : Int) (n : Nat) (xs : List Int) (x t wi o : Int) (hl : xs.length = n) : (faC d m wd lf n xs (ptB x t wi o) != 0) = true ∨ (faC d m wd lf n xs (ptB x t wi o) = 0 ∧ (0 ≤ x ∧ x ≤ t ∧ t ≤ 35999) ∧ ∀ mid : Int, x ≤ mid → mid ≤ t → faC d m wd lf n xs (ptB x mid wi o) = 0 ∧ faC d m wd lf n xs (ptB mid t wi o) = 0 ∧ ptV d m wd lf n xs x mid wi o + ptV d m wd lf n xs mid t wi o = ptV d m wd lf n xs x t wi o ∧ (0 ≤ ptV d m wd lf n xs x mid wi o ∧ ptV d m wd lf n xs x mid wi o ≤ 20000000000) ∧ (0 ≤ ptV d m wd lf n xs mid t wi o ∧ ptV d m wd lf n xs mid t wi o ≤ 20000000000)) := by
  rcases faC_cases d m wd lf n xs (ptB x t wi o) with ⟨h0, hf, hb⟩ | ⟨h0, hf, hb⟩ | ⟨h0, hf⟩
  · refine .inr ⟨h0, ?_, fun mid h1 h2 => ?_⟩
    · simp only [ptB, Bool.and_eq_true, inR_iff] at hb
      omega
    · have hb' := hb
      simp only [ptB, Bool.and_eq_true, inR_iff] at hb'
      have hA : ptB x mid wi o = true := by simp only [ptB, Bool.and_eq_true, inR_iff]; omega
      have hB : ptB mid t wi o = true := by simp only [ptB, Bool.and_eq_true, inR_iff]; omega
      have hfA : faC d m wd lf n xs (ptB x mid wi o) = 0 := by unfold faC; rw [if_pos (famT_t.2 hf), hA]; rfl
      have hfB : faC d m wd lf n xs (ptB mid t wi o) = 0 := by unfold faC; rw [if_pos (famT_t.2 hf), hB]; rfl
      have hl12 : xs.length ≤ 12 := by have := hf.2.2.2.2.1; omega
      have b1 := penS_bd (d := d) (wd := wd) (lf := lf) (xs := xs) hl12 (o := o) (wi := wi) (by omega) (by omega) x (mid - x).toNat
      have b2 := penS_bd (d := d) (wd := wd) (lf := lf) (xs := xs) hl12 (o := o) (wi := wi) (by omega) (by omega) mid (t - mid).toNat
      have e := penS_add d wd lf wi o xs x (mid - x).toNat (t - mid).toNat
      rw [show (mid - x).toNat + (t - mid).toNat = (t - x).toNat by omega, show x + (((mid - x).toNat : Nat) : Int) = mid by omega] at e
      refine ⟨hfA, hfB, ?_, ?_, ?_⟩
      · unfold ptV
        rw [if_pos hfA, if_pos hfB, if_pos h0, e]
      · unfold ptV
        rw [if_pos hfA]
        omega
      · unfold ptV
        rw [if_pos hfB]
        omega
  · exact .inl (by rw [h0]; rfl)
  · exact .inl (by rw [h0]; rfl)
end Go.Proofs.Ytmgaooinkdmpbaa
