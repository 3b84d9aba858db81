/-
  The plain law of MakeTable: the lives after the first, by the rates; what is made is a life table, and its deaths are the rates of its lives, rounded up.
-/
import Derived.Test.YtmefjjamkebinaaF3
import Derived.Test.YtmefjjamkebinaaT3
set_option linter.unusedSimpArgs false
set_option linter.unusedVariables false
namespace Go.Proofs.Ytmefjjamkebinaa
open Go.RowKit
/-- the lives after the first -/
def mtL : Int → List Int → List Int
  | l, [] => if 0 < l then [0] else []
  | l, r :: rs => if 0 < l then (l - cu (l * r)) :: mtL (l - cu (l * r)) rs else []
theorem cu_le {l r : Int} (hl : 0 ≤ l ∧ l ≤ 1000000) (hr : 0 ≤ r ∧ r ≤ 1000) : (0 ≤ l * r ∧ l * r ≤ 1000000000) ∧ 0 ≤ cu (l * r) ∧ cu (l * r) ≤ l := by
  have h1 := Int.mul_nonneg hl.1 hr.1
  have h2 : l * r ≤ l * 1000 := Int.mul_le_mul_of_nonneg_left hr.2 hl.1
  unfold cu
  generalize l * r = p at *
  omega
theorem mtL_no {l : Int} (h : ¬ 0 < l) (rs : List Int) : mtL l rs = [] := by
  cases rs <;> exact if_neg h
theorem mtL_nil {l : Int} (h : 0 < l) : mtL l [] = [0] := if_pos h
theorem mtL_cons {l r : Int} {rs : List Int} (h : 0 < l) : mtL l (r :: rs) = (l - cu (l * r)) :: mtL (l - cu (l * r)) rs := if_pos h
theorem mtL_at {l r : Int} {rs : List Int} {k : Nat} (h : 0 < l) (hk : rs[k]? = some r) : mtL l (rs.drop k) = (l - cu (l * r)) :: mtL (l - cu (l * r)) (rs.drop (k + 1)) := by
  obtain ⟨h1, h2⟩ := List.getElem?_eq_some_iff.mp hk
  rw [List.drop_eq_getElem_cons h1, h2, mtL_cons h]
theorem mtL_drop_end {l : Int} {rs : List Int} {k : Nat} (h : 0 < l) (hk : rs.length ≤ k) : mtL l (rs.drop k) = [0] := by
  rw [List.drop_eq_nil_of_le hk, mtL_nil h]
theorem mtL_len (rs : List Int) : ∀ l, (mtL l rs).length ≤ rs.length + 1 := by
  induction rs with
  | nil => intro l; by_cases h : 0 < l; (rw [mtL_nil h]; simp); (rw [mtL_no h]; simp)
  | cons r rs ih => intro l; by_cases h : 0 < l; (rw [mtL_cons h]; have := ih (l - cu (l * r)); simp; omega); (rw [mtL_no h]; simp)
theorem mtL_pos {l : Int} (h : 0 < l) (rs : List Int) : 1 ≤ (mtL l rs).length := by
  cases rs with
  | nil => rw [mtL_nil h]; simp
  | cons r rs => rw [mtL_cons h]; simp
theorem gv_0 (x : Int) (xs : List Int) : gv (x :: xs) 0 = x := rfl
theorem gv_s (x : Int) (xs : List Int) (i : Nat) : gv (x :: xs) (i + 1) = gv xs i := rfl
theorem mtL_facts (rs : List Int) : ∀ l : Int, (0 ≤ l ∧ l ≤ 1000000) → (∀ r ∈ rs, 0 ≤ r ∧ r ≤ 1000) →
    gv (l :: mtL l rs) (mtL l rs).length = 0 ∧ (∀ i, i < (mtL l rs).length → 1 ≤ gv (l :: mtL l rs) i ∧ gv (l :: mtL l rs) (i + 1) ≤ gv (l :: mtL l rs) i) ∧
    ∀ i r, rs[i]? = some r → 0 < gv (l :: mtL l rs) i → gv (l :: mtL l rs) i - gv (l :: mtL l rs) (i + 1) = cu (gv (l :: mtL l rs) i * r) := by
  induction rs with
  | nil =>
    intro l hl _
    by_cases h : 0 < l
    · rw [mtL_nil h]
      refine ⟨rfl, fun i hi => ?_, fun i r hr => by simp at hr⟩
      obtain rfl : i = 0 := by simp at hi; omega
      exact ⟨by rw [gv_0]; omega, by rw [gv_s, gv_0, gv_0]; omega⟩
    · rw [mtL_no h]
      refine ⟨by show l = 0; omega, fun i hi => by simp at hi, fun i r hr => by simp at hr⟩
  | cons r rs ih =>
    intro l hl hrs
    by_cases h : 0 < l
    · rw [mtL_cons h]
      have hc := cu_le hl (hrs r (by simp))
      obtain ⟨h1, h2, h3⟩ := ih (l - cu (l * r)) (by omega) (fun q hq => hrs q (by simp [hq]))
      refine ⟨?_, fun i hi => ?_, fun i q hq => ?_⟩
      · rw [List.length_cons, gv_s]; exact h1
      · cases i with
        | zero => exact ⟨by rw [gv_0]; omega, by rw [gv_s, gv_0, gv_0]; omega⟩
        | succ i => rw [gv_s, gv_s]; exact h2 i (by simp at hi; omega)
      · cases i with
        | zero =>
          intro _
          rw [gv_s, gv_0, gv_0]
          simp at hq
          subst hq
          omega
        | succ i => rw [gv_s, gv_s]; exact h3 i q (by simpa using hq)
    · rw [mtL_no h]
      refine ⟨by show l = 0; omega, fun i hi => by simp at hi, fun i q hq h0 => ?_⟩
      cases i with
      | zero => rw [gv_0] at h0; omega
      | succ i => rw [gv_s] at h0; simp [gv] at h0
/-- what is made is a life table -/
theorem mt_ok {f l : Int} {rs : List Int} (hf : 0 ≤ f ∧ f ≤ 100) (hl : 1 ≤ l ∧ l ≤ 1000000) (hn : rs.length ≤ 118) (hm : (rs.length : Int) ≤ 149 - f) (hrs : ∀ r ∈ rs, 0 ≤ r ∧ r ≤ 1000) : okTP f (mtL l rs).length.succ (l :: mtL l rs) := by
  have h0 := mtL_len rs l
  have h1 := mtL_pos (show 0 < l by omega) rs
  obtain ⟨h2, h3, _⟩ := mtL_facts rs l (by omega) hrs
  refine ⟨hf, ⟨by omega, by omega⟩, by rw [gv_0]; omega, h2, by omega, fun i hi => ⟨(h3 i (by simpa using hi)).1, fun hp => ?_⟩⟩
  obtain ⟨j, rfl⟩ : ∃ j, i = j + 1 := ⟨i - 1, by omega⟩
  exact (h3 j (by simp at hi; omega)).2
end Go.Proofs.Ytmefjjamkebinaa
