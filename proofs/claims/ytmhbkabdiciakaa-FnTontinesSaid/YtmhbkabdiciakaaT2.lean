/-
  Plain facts for the tontines' law.
-/
import Derived.Test.YtmhbkabdiciakaaS2
set_option linter.unusedSimpArgs false
set_option linter.unusedVariables false
namespace Go.Proofs.Ytmhbkabdiciakaa
open Go.RowKit
theorem nn_addL {n : Nat} {xs ys : List Int} (h : ∀ i, i < n → 0 ≤ gz xs i ∧ 0 ≤ gz ys i) : ∀ x ∈ addL n xs ys, 0 ≤ x := by
  intro x hx
  unfold addL at hx
  obtain ⟨i, hi, rfl⟩ := List.mem_map.1 hx
  have := h i (List.mem_range.1 hi)
  omega
theorem nn_gz {xs : List Int} {i : Nat} (h : ∀ x ∈ xs, 0 ≤ x) (hi : i < xs.length) : 0 ≤ gz xs i := h _ (gz_mem hi)
theorem runV_nn {ss : List Int} : ∀ (r : List (Int × List Int)) (ds : List Int) (ch : Int) (got : List Int), okC ss ds ch = true → (∀ p ∈ r, (0 ≤ p.1 ∧ p.1 ≤ 100000000) ∧ p.2.all (inR 0 ((ss.length : Int) - 1)) = true) → got.length = ss.length → (∀ x ∈ got, 0 ≤ x) → (∀ x ∈ (runV ss ds ch got r).2.2.2, 0 ≤ x)
  | [], ds, ch, got, h, _, hg, hn => hn
  | (inc, ms) :: r, ds, ch, got, h, hr, hg, hn => by
    rcases bR_cases ds ms with hb | hb
    · by_cases hp : paC ss (srt (ds ++ ms)) (ch + inc) ≤ 1000000000000
      · rw [runV_step hb hp]
        have h1 : (0 ≤ inc ∧ inc ≤ 100000000) ∧ ms.all (inR 0 ((ss.length : Int) - 1)) = true := hr (inc, ms) (by simp)
        have h2 := okC_iff.1 h
        refine runV_nn r _ _ _ (okC_next h h1.2 h1.1.1 hb hp) (fun p hp => hr p (by simp [hp])) (addL_len _ _ _) (nn_addL (fun i hi => ⟨nn_gz hn (by omega), ?_⟩))
        rw [gz_paL hi]
        exact (paV_bd h2.2.1 (by have := h2.2.2.2.1; omega) hi).1
      · rw [runV_pay hb hp]
        intro x hx
        cases hx
    · rw [runV_bury hb]
      intro x hx
      cases hx
/-- what RunClass gives adds up -/
theorem run_sums {ss ds : List Int} {ch : Int} {is : List Int} {dd : List (List Int)} (h : runC ss ds ch is dd = 0) :
    (∀ x ∈ (runV ss ds ch (List.replicate ss.length 0) (is.zip dd)).2.2.2, 0 ≤ x) ∧ (∀ x ∈ is, 0 ≤ x) ∧ suL is ≤ 10000000000 ∧ (0 ≤ ch ∧ ch ≤ 1000000000000) := by
  obtain ⟨h1, h2, h3⟩ := runC_0 h
  obtain ⟨⟨h4, h5, h6⟩, h7⟩ := runOK_iff.1 h2
  have hi := fun x (hx : x ∈ is) => inR_iff.1 (List.all_eq_true.1 h4 x hx)
  refine ⟨runV_nn (is.zip dd) ds ch _ h1 (fun p hp => ?_) (by simp) (fun x hx => by rw [List.eq_of_mem_replicate hx]; omega), fun x hx => (hi x hx).1, ?_, (okC_iff.1 h1).2.2.2.1⟩
  · have h11 := List.of_mem_zip (a := p.1) (b := p.2) hp
    have h13 := List.all_eq_true.1 h7 _ h11.2
    unfold dthB at h13
    rw [Bool.and_eq_true] at h13
    exact ⟨hi _ h11.1, h13.1⟩
  · have hle : ∀ (xs : List Int), (∀ x ∈ xs, x ≤ 100000000) → suL xs ≤ 100000000 * (xs.length : Int) := by
      intro xs
      induction xs with
      | nil => intro _; show (0 : Int) ≤ _; simp
      | cons a t ih =>
        intro hx
        have h1 := ih (fun x hx2 => hx x (by simp [hx2]))
        have h2 := hx a (by simp)
        show a + suL t ≤ _
        rw [List.length_cons]
        omega
    have := hle is (fun x hx => (hi x hx).2)
    omega
theorem suL_nn {xs : List Int} (h : ∀ x ∈ xs, 0 ≤ x) : 0 ≤ suL xs := by
  rw [suL_gz]
  exact suF_nn (fun i hi => nn_gz h hi)
/-- one of the dead is paid nothing -/
theorem paL_dead {ss ds : List Int} {t : Int} {i : Nat} {k : Nat} (hd : ds[k]? = some (i : Int)) (hi : i < ss.length) : gz (paL ss ds t) i = 0 := by
  rw [gz_paL hi]
  unfold paV
  rw [if_pos (hs_iff.2 (List.mem_of_getElem? hd))]
theorem paC_lt {ss ds : List Int} {t : Int} (h : 0 < lvS ss ds ss.length) : paC ss ds t < lvS ss ds ss.length := by
  rw [paC_mod]
  exact Int.emod_lt_of_pos _ h
theorem piC_0 {ss ds : List Int} {ch inc : Int} (h : piC ss ds ch inc = 0) : okC ss ds ch = true := by
  unfold piC at h
  split at h
  · assumption
  · exact absurd h (by decide)
end Go.Proofs.Ytmhbkabdiciakaa
