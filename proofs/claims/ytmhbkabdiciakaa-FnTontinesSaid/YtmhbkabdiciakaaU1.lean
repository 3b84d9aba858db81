/-
  Plain law of RunClass: what it gives is a class again, and no money is lost.
-/
import Derived.Test.YtmhbkabdiciakaaL1
set_option linter.unusedSimpArgs false
set_option linter.unusedVariables false
namespace Go.Proofs.Ytmhbkabdiciakaa
open Go.RowKit
/-- the sum of a list -/
def suL (xs : List Int) : Int := xs.foldr (· + ·) 0
/-- the sum of the first k places by f -/
def suF (f : Nat → Int) : Nat → Int
  | 0 => 0
  | k + 1 => suF f k + f k
theorem suF_congr {f g : Nat → Int} : ∀ {n : Nat}, (∀ i, i < n → f i = g i) → suF f n = suF g n
  | 0, _ => rfl
  | n + 1, h => by
    show suF f n + f n = suF g n + g n
    rw [suF_congr (fun i hi => h i (by omega)), h n (by omega)]
theorem suF_add (f g : Nat → Int) : ∀ n, suF (fun i => f i + g i) n = suF f n + suF g n
  | 0 => rfl
  | n + 1 => by
    show suF (fun i => f i + g i) n + (f n + g n) = suF f n + f n + (suF g n + g n)
    rw [suF_add f g n]
    omega
theorem suL_append (xs ys : List Int) : suL (xs ++ ys) = suL xs + suL ys := by
  induction xs with
  | nil => show suL ys = 0 + suL ys; omega
  | cons a t ih => show a + suL (t ++ ys) = a + suL t + suL ys; rw [ih]; omega
theorem suL_map (f : Nat → Int) : ∀ n, suL ((List.range n).map f) = suF f n
  | 0 => rfl
  | n + 1 => by
    rw [List.range_succ, List.map_append, suL_append, suL_map f n]
    show suF f n + (f n + 0) = suF f n + f n
    omega
theorem suL_gz (xs : List Int) : suL xs = suF (gz xs) xs.length := by
  conv => lhs; rw [← range_gz xs]
  rw [suL_map]
theorem suL_addL {n : Nat} (xs ys : List Int) (h1 : xs.length = n) (h2 : ys.length = n) : suL (addL n xs ys) = suL xs + suL ys := by
  unfold addL
  rw [suL_map, suF_add, suL_gz xs, suL_gz ys, h1, h2]
theorem suL_zero (n : Nat) : suL (List.replicate n 0) = 0 := by
  induction n with
  | zero => rfl
  | succ n ih => rw [List.replicate_succ]; show 0 + suL (List.replicate n 0) = 0; rw [ih]; rfl
/-- what all are paid is what the chest lacks -/
theorem suF_paV (ss ds : List Int) (t : Int) : ∀ k, suF (paV ss ds t) k = t / lvS ss ds ss.length * lvS ss ds k
  | 0 => by show (0 : Int) = _ * 0; rw [Int.mul_zero]
  | k + 1 => by
    show suF (paV ss ds t) k + paV ss ds t k = _
    rw [suF_paV ss ds t k]
    unfold paV
    cases h : hs ds (k : Int) with
    | true => rw [lvS_dead h, if_pos rfl]; omega
    | false => rw [lvS_alive h, if_neg (by decide), Int.mul_add]
theorem suL_paL (ss ds : List Int) (t : Int) : suL (paL ss ds t) + paC ss ds t = t := by
  unfold paL paC
  rw [suL_map, suF_paV]
  omega
/-- what runs stays a class; the sums fit -/
theorem runV_inv {ss : List Int} : ∀ (r : List (Int × List Int)) (ds : List Int) (ch : Int) (got : List Int), okC ss ds ch = true → (∀ p ∈ r, 0 ≤ p.1 ∧ p.2.all (inR 0 ((ss.length : Int) - 1)) = true) → got.length = ss.length → (runV ss ds ch got r).1 = 0 →
    okC ss (runV ss ds ch got r).2.1 (runV ss ds ch got r).2.2.1 = true ∧ (runV ss ds ch got r).2.2.2.length = ss.length ∧ suL (runV ss ds ch got r).2.2.2 + (runV ss ds ch got r).2.2.1 = suL got + ch + suL (r.map Prod.fst)
  | [], ds, ch, got, h, _, hg, _ => ⟨h, hg, by show suL got + ch = suL got + ch + 0; omega⟩
  | (inc, ms) :: r, ds, ch, got, h, hr, hg, h0 => by
    rcases bR_cases ds ms with hb | hb
    · by_cases hp : paC ss (srt (ds ++ ms)) (ch + inc) ≤ 1000000000000
      · rw [runV_step hb hp] at h0 ⊢
        have h1 : 0 ≤ inc ∧ ms.all (inR 0 ((ss.length : Int) - 1)) = true := hr (inc, ms) (by simp)
        obtain ⟨h2, h3, h4⟩ := runV_inv r _ _ _ (okC_next h h1.2 h1.1 hb hp) (fun p hp => hr p (by simp [hp])) (addL_len _ _ _) h0
        refine ⟨h2, h3, ?_⟩
        rw [h4, suL_addL _ _ hg (paL_len _ _ _)]
        have h5 := suL_paL ss (srt (ds ++ ms)) (ch + inc)
        show _ = suL got + ch + (inc + suL (r.map Prod.fst))
        omega
      · rw [runV_pay hb hp] at h0
        exact absurd h0 (by decide)
    · rw [runV_bury hb] at h0
      exact absurd h0 (by decide)
theorem runC_0 {ss ds : List Int} {ch : Int} {is : List Int} {dd : List (List Int)} (h : runC ss ds ch is dd = 0) : okC ss ds ch = true ∧ runOK ss.length is dd = true ∧ (runV ss ds ch (List.replicate ss.length 0) (is.zip dd)).1 = 0 := by
  unfold runC at h
  split at h
  · next h1 =>
    split at h
    · next h2 => exact ⟨h1, h2, h⟩
    · exact absurd h (by decide)
  · exact absurd h (by decide)
theorem runOK_iff {n : Nat} {is : List Int} {dd : List (List Int)} : runOK n is dd = true ↔ (is.all (inR 0 100000000) = true ∧ (is.length : Int) ≤ 100 ∧ is.length = dd.length) ∧ dd.all (dthB n) = true := by
  unfold runOK
  simp only [Bool.and_eq_true, decide_eq_true_eq]
  constructor
  · rintro ⟨⟨⟨h1, h2⟩, h3⟩, h4⟩; exact ⟨⟨h1, h2, h3⟩, h4⟩
  · rintro ⟨⟨h1, h2, h3⟩, h4⟩; exact ⟨⟨⟨h1, h2⟩, h3⟩, h4⟩
theorem zip_fst : ∀ (is : List Int) (dd : List (List Int)), is.length = dd.length → (is.zip dd).map Prod.fst = is
  | [], _, _ => by simp
  | _ :: _, [], h => by simp at h
  | a :: t, b :: u, h => by
    rw [List.zip_cons_cons, List.map_cons, zip_fst t u (by simpa using h)]
theorem runC_inv {ss ds : List Int} {ch : Int} {is : List Int} {dd : List (List Int)} (h : runC ss ds ch is dd = 0) :
    okC ss (runV ss ds ch (List.replicate ss.length 0) (is.zip dd)).2.1 (runV ss ds ch (List.replicate ss.length 0) (is.zip dd)).2.2.1 = true ∧ (runV ss ds ch (List.replicate ss.length 0) (is.zip dd)).2.2.2.length = ss.length ∧ suL (runV ss ds ch (List.replicate ss.length 0) (is.zip dd)).2.2.2 + (runV ss ds ch (List.replicate ss.length 0) (is.zip dd)).2.2.1 = ch + suL is := by
  obtain ⟨h1, h2, h3⟩ := runC_0 h
  obtain ⟨⟨h4, h5, h6⟩, h7⟩ := runOK_iff.1 h2
  obtain ⟨h8, h9, h10⟩ := runV_inv (is.zip dd) ds ch _ h1 (fun p hp => by
    have h11 := List.of_mem_zip (a := p.1) (b := p.2) hp
    have h12 := inR_iff.1 (List.all_eq_true.1 h4 _ h11.1)
    have h13 := List.all_eq_true.1 h7 _ h11.2
    unfold dthB at h13
    rw [Bool.and_eq_true] at h13
    exact ⟨h12.1, h13.1⟩) (by simp) h3
  refine ⟨h8, h9, ?_⟩
  rw [h10, suL_zero, zip_fst is dd h6]
  omega
theorem kL_nil {k : Int} {xs : List Int} (h : ¬ k = 0) : kL k xs = [] := by unfold kL; rw [if_neg h]
theorem run_lens {ss ds : List Int} {ch : Int} {is : List Int} {dd : List (List Int)} : (kL (runC ss ds ch is dd) ss).length ≤ 60 ∧ (kL (runC ss ds ch is dd) (runV ss ds ch (List.replicate ss.length 0) (is.zip dd)).2.1).length ≤ 60 ∧ (kL (runC ss ds ch is dd) (runV ss ds ch (List.replicate ss.length 0) (is.zip dd)).2.2.2).length ≤ 60 := by
  by_cases h : runC ss ds ch is dd = 0
  · obtain ⟨h1, h2, _⟩ := runC_inv h
    have h3 := okC_iff.1 h1
    have h4 := inc_len h3.2.2.2.2 h3.2.2.1
    rw [h]
    refine ⟨?_, ?_, ?_⟩
    · exact h3.1.2
    · show (runV ss ds ch (List.replicate ss.length 0) (is.zip dd)).2.1.length ≤ 60; omega
    · show (runV ss ds ch (List.replicate ss.length 0) (is.zip dd)).2.2.2.length ≤ 60; omega
  · rw [kL_nil h, kL_nil h, kL_nil h]
    decide
end Go.Proofs.Ytmhbkabdiciakaa
