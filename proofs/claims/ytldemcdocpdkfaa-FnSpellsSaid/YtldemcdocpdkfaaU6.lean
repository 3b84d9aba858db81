/-
  Chapter 15 in plain mathematics, for the law of spells: the day on which pay is exhausted bears the number 368; the pay of all days is bounded by the cases; a list with a spell added is one, and its days lie between. No program is named here.
-/
import Derived.Test.YtldemcdocpdkfaaU5
import Derived.Test.YtldemcdocpdkfaaI5
set_option linter.unusedSimpArgs false
set_option linter.unusedVariables false
namespace Go.Proofs.Ytldemcdocpdkfaa
theorem at_ex (xs : List (Int × Int)) {k : Nat} (h : k < xs.length) : ∃ f t, xs[k]? = some (f, t) := ⟨(xs[k]'h).1, (xs[k]'h).2, List.getElem?_eq_getElem h⟩
/-- the number of a day of the k-th spell -/
theorem numD_at {xs : List (Int × Int)} (h : areS xs = true) {k : Nat} {f t d : Int} (hx : xs[k]? = some (f, t)) (hd : inR f (t - 1) d = true) : numD xs d = befB xs k + d - f + 1 := by
  obtain ⟨hk, _⟩ := List.getElem?_eq_some_iff.1 hx
  have key : ∀ (m j : Nat), j + m = xs.length → j ≤ k → numF xs d j m = befB xs k + d - f + 1 := by
    intro m
    induction m with
    | zero => intro j h1 h2; omega
    | succ m ih =>
      intro j h1 h2
      by_cases e : j = k
      · subst e
        exact numF_hit hx hd
      · obtain ⟨f', t', hy⟩ := at_ex xs (show j < xs.length by omega)
        have := apart h hy hx (by omega)
        rw [numF_miss hy (by rw [inR_ff]; rw [inR_iff] at hd; omega)]
        exact ih (j + 1) (by omega) (by omega)
  exact key xs.length 0 (by omega) (by omega)
theorem begB_zero {xs : List (Int × Int)} (h : areS xs = true) (h0 : 0 < xs.length) : begB xs 0 = true := by
  obtain ⟨f, t, hx⟩ := at_ex xs h0
  have := areS_at h hx
  rw [begB_at hx, lastT_zero]
  exact decide_eq_true (by omega)
theorem exhF_some {xs : List (Int × Int)} {e : Int} : ∀ (m k : Nat), k + m = xs.length → exhF xs k m = some e → ∃ j, k ≤ j ∧ j < xs.length ∧ 367 < befN xs (j + 1) ∧ e = (xs.getD j (0, 0)).2 - (befN xs (j + 1) - 367) ∧ ∀ i, k ≤ i → i < j → befN xs (i + 1) ≤ 367
  | 0, k, _, h => by cases h
  | m + 1, k, hk, h => by
    rw [exhF] at h
    by_cases c : 367 < befN xs (k + 1)
    · rw [if_pos c] at h
      injection h with h
      exact ⟨k, Nat.le_refl _, by omega, c, h.symm, fun i h1 h2 => by omega⟩
    · rw [if_neg c] at h
      obtain ⟨j, h1, h2, h3, h4, h5⟩ := exhF_some m (k + 1) (by omega) h
      refine ⟨j, by omega, h2, h3, h4, fun i h6 h7 => ?_⟩
      by_cases e : i = k
      · subst e; omega
      · exact h5 i (by omega) h7
/-- the day on which pay is exhausted -/
theorem exhD_num {xs : List (Int × Int)} (h : areS xs = true) {e : Int} (he : exhD xs = some e) : (0 ≤ e ∧ e ≤ 100000) ∧ numD xs e = 368 := by
  obtain ⟨j, _, hj, h1, h2, h3⟩ := exhF_some xs.length 0 (by omega) he
  obtain ⟨f, t, hx⟩ := at_ex xs hj
  have hb := befN_succ hx
  have ha := areS_at h hx
  rw [getD_at hx] at h2
  simp only at h2
  have hB : befB xs j ≤ 367 := by
    unfold befB
    split
    · omega
    · cases j with
      | zero => show (0 : Int) ≤ 367; omega
      | succ j => exact h3 j (by omega) (by omega)
  have hB0 := befB_bd h (k := j) (by omega)
  refine ⟨by omega, ?_⟩
  rw [numD_at h hx (by rw [inR_iff]; omega)]
  omega
theorem payN_368 (r : Int) : payN 368 r = 0 := rfl
/-- what the first m days of a case cost at two a day -/
def paidG (m : Nat) : Int := sumR (fun x => payN x 2) 1 m
theorem paidG_eq : ∀ m : Nat, paidG m = if m ≤ 3 then 0 else if m ≤ 185 then 2 * ((m : Int) - 3) else if m ≤ 367 then 364 + ((m : Int) - 185) else 546 := by
  intro m
  induction m with
  | zero => rfl
  | succ m ih =>
    show paidG m + payN (1 + (m : Int)) 2 = _
    rw [ih]
    unfold payN
    by_cases h1 : m < 3
    · rw [if_pos (by omega), if_pos (by omega), if_pos (by omega)]; rfl
    · by_cases h2 : m < 185
      · rw [if_neg (show ¬ (1 + (m : Int) ≤ 3) by omega), if_pos (show 1 + (m : Int) ≤ 185 by omega), if_neg (show ¬ m + 1 ≤ 3 by omega), if_pos (show m + 1 ≤ 185 by omega)]
        by_cases h3 : m ≤ 3
        · rw [if_pos h3]; omega
        · rw [if_neg h3, if_pos (by omega)]; omega
      · by_cases h3 : m < 367
        · rw [if_neg (show ¬ (1 + (m : Int) ≤ 3) by omega), if_neg (show ¬ 1 + (m : Int) ≤ 185 by omega), if_pos (show 1 + (m : Int) ≤ 367 by omega), if_neg (show ¬ m + 1 ≤ 3 by omega), if_neg (show ¬ m + 1 ≤ 185 by omega), if_pos (show m + 1 ≤ 367 by omega), if_neg (show ¬ m ≤ 3 by omega)]
          by_cases h4 : m ≤ 185
          · rw [if_pos h4]; omega
          · rw [if_neg h4, if_pos (by omega)]; omega
        · rw [if_neg (show ¬ (1 + (m : Int) ≤ 3) by omega), if_neg (show ¬ 1 + (m : Int) ≤ 185 by omega), if_neg (show ¬ 1 + (m : Int) ≤ 367 by omega), if_neg (show ¬ m + 1 ≤ 3 by omega), if_neg (show ¬ m + 1 ≤ 185 by omega), if_neg (show ¬ m + 1 ≤ 367 by omega), if_neg (show ¬ m ≤ 3 by omega), if_neg (show ¬ m ≤ 185 by omega)]
          by_cases h4 : m ≤ 367
          · rw [if_pos h4]; omega
          · rw [if_neg h4]; rfl
theorem paidG_le (m : Nat) : 0 ≤ paidG m ∧ paidG m ≤ 546 := by
  rw [paidG_eq]
  split
  · omega
  · split
    · omega
    · split <;> omega
theorem payN_two (n : Int) : 0 ≤ payN n 2 := (payN_bd (n := n) (rate := 2) (by omega)).1
theorem sumR_mono {g h : Int → Int} {a : Int} {n : Nat} (e : ∀ x, g x ≤ h x) : sumR g a n ≤ sumR h a n := by
  induction n with
  | zero => exact Int.le_refl _
  | succ n ih =>
    have := e (a + n)
    show sumR g a n + _ ≤ sumR h a n + _
    omega
theorem spellP_le {xs : List (Int × Int)} (h : areS xs = true) {k : Nat} {f t : Int} (hx : xs[k]? = some (f, t)) (a : Int) (n : Nat) : spellP xs 2 a n k ≤ paidG (befN xs (k + 1)).toNat - paidG (befB xs k).toNat := by
  have ha := areS_at h hx
  have hb := befN_succ hx
  have hB0 := befB_bd h (k := k) (by have := (List.getElem?_eq_some_iff.1 hx).1; omega)
  unfold spellP
  rw [getD_at hx]
  simp only
  have e1 : sumR (onR a (a + n - 1) (payS xs 2 k)) f (t - f).toNat ≤ sumR (payS xs 2 k) f (t - f).toNat := sumR_mono fun x => by
    unfold onR
    split
    · exact Int.le_refl _
    · exact payN_two _
  have e2 : sumR (payS xs 2 k) f (t - f).toNat = sumR (fun x => payN x 2) (1 + ((befB xs k).toNat : Int)) (t - f).toNat := by
    have key : ∀ m : Nat, sumR (payS xs 2 k) f m = sumR (fun x => payN x 2) (1 + ((befB xs k).toNat : Int)) m := by
      intro m
      induction m with
      | zero => rfl
      | succ m ih =>
        show _ + payS xs 2 k (f + m) = _ + payN (1 + ((befB xs k).toNat : Int) + m) 2
        rw [ih]
        unfold payS
        rw [getD_at hx]
        simp only
        rw [show befB xs k + (f + (m : Int)) - f + 1 = 1 + ((befB xs k).toNat : Int) + m by omega]
    exact key _
  have e3 : paidG (befN xs (k + 1)).toNat = paidG (befB xs k).toNat + sumR (fun x => payN x 2) (1 + ((befB xs k).toNat : Int)) (t - f).toNat := by
    unfold paidG
    rw [← sumR_add, show (befN xs (k + 1)).toNat = (befB xs k).toNat + (t - f).toNat by omega]
  omega
theorem payK_le {xs : List (Int × Int)} (h : areS xs = true) (a : Int) (n : Nat) : ∀ k : Nat, k ≤ xs.length → payK xs 2 a n k ≤ 546 * ((casF xs k).length : Int) ∧ (0 < k → payK xs 2 a n k ≤ 546 * ((casF xs k).length : Int) - 546 + paidG (befN xs k).toNat) := by
  intro k
  induction k with
  | zero => intro _; exact ⟨by show (0 : Int) ≤ 546 * ((casF xs 0).length : Int); omega, fun e => by omega⟩
  | succ k ih =>
    intro hk
    obtain ⟨f, t, hx⟩ := at_ex xs (show k < xs.length by omega)
    have h1 := ih (by omega)
    have h2 := spellP_le h hx a n
    have h3 := paidG_le (befN xs (k + 1)).toNat
    have h4 : payK xs 2 a n (k + 1) = payK xs 2 a n k + spellP xs 2 a n k := rfl
    cases hb : begB xs k with
    | true =>
      have e : befB xs k = 0 := by unfold befB; rw [if_pos hb]
      rw [e] at h2
      have e0 : paidG (0 : Int).toNat = 0 := rfl
      rw [casF_t hb, List.length_append, List.length_singleton]
      omega
    | false =>
      have hk0 : 0 < k := by
        by_cases e : k = 0
        · subst e
          rw [begB_zero h (by omega)] at hb
          cases hb
        · omega
      have e : befB xs k = befN xs k := by unfold befB; rw [if_neg (by simp [hb])]
      rw [e] at h2
      have h5 := h1.2 hk0
      rw [casF_f hb]
      omega
end Go.Proofs.Ytldemcdocpdkfaa
