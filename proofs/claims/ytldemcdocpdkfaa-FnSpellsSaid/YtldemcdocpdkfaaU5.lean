/-
  Chapter 15 in plain mathematics: a spell is added: what stands ahead of it, what it is joined with, what stands behind it; the sorted list is the only one. No program is named here.
-/
import Derived.Test.YtldemcdocpdkfaaA5
set_option linter.unusedSimpArgs false
set_option linter.unusedVariables false
namespace Go.Proofs.Ytldemcdocpdkfaa
/-- lies a spell wholly ahead of or behind the days a, b -/
def outB (a b : Int) (x : Int × Int) : Bool := decide (x.2 < a) || decide (b < x.1)
def lowL (a : Int) (xs : List (Int × Int)) : List (Int × Int) := xs.filter fun x => decide (x.2 < a)
def highL (b : Int) (xs : List (Int × Int)) : List (Int × Int) := xs.filter fun x => decide (b < x.1)
def outL (a b : Int) (xs : List (Int × Int)) : List (Int × Int) := xs.filter (outB a b)
def joinF (a b : Int) (p x : Int × Int) : Int × Int := if outB a b x = true then p else (min p.1 x.1, max p.2 x.2)
def joinS (a b : Int) (xs : List (Int × Int)) : Int × Int := xs.foldl (joinF a b) (a, b)
def addR (a b : Int) (xs : List (Int × Int)) : List (Int × Int) := lowL a xs ++ joinS a b xs :: highL b xs
theorem take_at {xs : List (Int × Int)} {k : Nat} {x : Int × Int} (h : xs[k]? = some x) : xs.take (k + 1) = xs.take k ++ [x] := by
  obtain ⟨hk, he⟩ := List.getElem?_eq_some_iff.1 h
  rw [List.take_succ_eq_append_getElem hk, he]
theorem lowL_at {a : Int} {xs : List (Int × Int)} {k : Nat} {x : Int × Int} (h : xs[k]? = some x) : lowL a (xs.take (k + 1)) = lowL a (xs.take k) ++ (if x.2 < a then [x] else []) := by
  rw [take_at h]
  unfold lowL
  rw [List.filter_append]
  by_cases c : x.2 < a <;> simp [c]
theorem highL_at {b : Int} {xs : List (Int × Int)} {k : Nat} {x : Int × Int} (h : xs[k]? = some x) : highL b (xs.take (k + 1)) = highL b (xs.take k) ++ (if b < x.1 then [x] else []) := by
  rw [take_at h]
  unfold highL
  rw [List.filter_append]
  by_cases c : b < x.1 <;> simp [c]
theorem outL_at {a b : Int} {xs : List (Int × Int)} {k : Nat} {x : Int × Int} (h : xs[k]? = some x) : outL a b (xs.take (k + 1)) = outL a b (xs.take k) ++ (if outB a b x = true then [x] else []) := by
  rw [take_at h]
  unfold outL
  rw [List.filter_append]
  by_cases c : outB a b x = true <;> simp [c]
theorem joinS_at {a b : Int} {xs : List (Int × Int)} {k : Nat} {x : Int × Int} (h : xs[k]? = some x) : joinS a b (xs.take (k + 1)) = joinF a b (joinS a b (xs.take k)) x := by
  rw [take_at h]
  unfold joinS
  rw [List.foldl_append]
  rfl
theorem addL_len (a b : Int) (xs : List (Int × Int)) : (lowL a xs).length ≤ xs.length ∧ (highL b xs).length ≤ xs.length ∧ (outL a b xs).length ≤ xs.length := ⟨List.length_filter_le _ _, List.length_filter_le _ _, List.length_filter_le _ _⟩
theorem spOk_pair : ∀ {xs : List (Int × Int)} {last : Int}, spOk last xs = true → xs.Pairwise fun x y => x.2 < y.1
  | [], _, _ => List.Pairwise.nil
  | (f0, t0) :: r, last, h => by
    have h' : (spB f0 t0 = true ∧ last < f0) ∧ spOk t0 r = true := by
      simpa only [spOk, Bool.and_eq_true, decide_eq_true_eq] using h
    refine List.Pairwise.cons (fun y hy => ?_) (spOk_pair h'.2)
    obtain ⟨i, hi, rfl⟩ := List.mem_iff_getElem.1 hy
    exact (spOk_all h'.2 i _ _ (List.getElem?_eq_getElem hi)).2
theorem areS_last {xs : List (Int × Int)} (h : areS xs = true) {k : Nat} {f t : Int} (hx : xs[k]? = some (f, t)) : lastT xs k < f := by
  obtain ⟨hk, he⟩ := List.getElem?_eq_some_iff.1 hx
  have h2 := areS_at h hx
  by_cases h0 : k = 0
  · subst h0; rw [lastT_zero]; omega
  · have hy : xs[k - 1]? = some ((xs[k - 1]'(by omega)).1, (xs[k - 1]'(by omega)).2) := List.getElem?_eq_getElem (by omega)
    rw [lastT_pos (by omega) hy]
    have := List.pairwise_iff_getElem.1 (spOk_pair (areS_split h).2) (k - 1) k (by omega) hk (by omega)
    rw [he] at this
    exact this
/-- what holds of the joined spell after k spells -/
theorem joinS_inv {xs : List (Int × Int)} (h : areS xs = true) {a b : Int} (hab : 0 ≤ a ∧ a < b ∧ b ≤ 100000) : ∀ k : Nat, k ≤ xs.length →
    ((joinS a b (xs.take k)).1 ≤ a ∧ b ≤ (joinS a b (xs.take k)).2) ∧ ((joinS a b (xs.take k)).1 = a ∨ a ≤ lastT xs k) ∧ ((joinS a b (xs.take k)).2 = b ∨ (joinS a b (xs.take k)).2 ≤ lastT xs k) ∧ 0 ≤ (joinS a b (xs.take k)).1 ∧ (joinS a b (xs.take k)).2 ≤ 100000 := by
  intro k
  induction k with
  | zero => intro _; simp only [List.take_zero]; show (a ≤ a ∧ b ≤ b) ∧ (a = a ∨ _) ∧ (b = b ∨ _) ∧ 0 ≤ a ∧ b ≤ 100000; omega
  | succ k ih =>
    intro hk
    have h1 := ih (by omega)
    have hx : xs[k]? = some ((xs[k]'(by omega)).1, (xs[k]'(by omega)).2) := List.getElem?_eq_getElem (by omega)
    generalize (xs[k]'(by omega)).1 = f at hx
    generalize (xs[k]'(by omega)).2 = t at hx
    rw [joinS_at hx, lastT_succ hx]
    have h2 := areS_at h hx
    have h3 : lastT xs k < f := areS_last h hx
    generalize joinS a b (xs.take k) = p at h1
    obtain ⟨p1, p2⟩ := p
    unfold joinF
    by_cases c : outB a b (f, t) = true
    · rw [if_pos c]
      simp only at h1 ⊢
      omega
    · rw [if_neg c]
      have c' : ¬ (t < a ∨ b < f) := by simpa only [outB, Bool.or_eq_true, decide_eq_true_eq] using c
      simp only at h1 ⊢
      omega
/-- the test against what was joined is the test against the new spell -/
theorem joinS_test {xs : List (Int × Int)} (h : areS xs = true) {a b : Int} (hab : 0 ≤ a ∧ a < b ∧ b ≤ 100000) {k : Nat} {f t : Int} (hx : xs[k]? = some (f, t)) :
    (t < (joinS a b (xs.take k)).1 ∨ (joinS a b (xs.take k)).2 < f) ↔ outB a b (f, t) = true := by
  obtain ⟨hk, _⟩ := List.getElem?_eq_some_iff.1 hx
  have h1 := joinS_inv h hab k (by omega)
  have h2 := areS_at h hx
  have h3 : lastT xs k < f := areS_last h hx
  simp only [outB, Bool.or_eq_true, decide_eq_true_eq]
  omega
theorem areS_mem {xs : List (Int × Int)} (h : areS xs = true) {x : Int × Int} (hx : x ∈ xs) : (0 ≤ x.1 ∧ x.1 ≤ 100000) ∧ (0 ≤ x.2 ∧ x.2 ≤ 100000) ∧ x.1 < x.2 := by
  obtain ⟨i, hi, rfl⟩ := List.mem_iff_getElem.1 hx
  exact areS_at h (List.getElem?_eq_getElem hi)
theorem addR_perm {a b : Int} (hab : a < b) : ∀ xs : List (Int × Int), (∀ x ∈ xs, x.1 < x.2) → (outL a b xs).Perm (lowL a xs ++ highL b xs)
  | [], _ => List.Perm.nil
  | x :: r, h => by
    have ih := addR_perm hab r (fun y hy => h y (List.mem_cons_of_mem _ hy))
    have hx := h x List.mem_cons_self
    unfold outL lowL highL at *
    by_cases c : x.2 < a
    · have c2 : ¬ b < x.1 := by omega
      rw [List.filter_cons_of_pos (by simp [outB, c]), List.filter_cons_of_pos (by simp [c]), List.filter_cons_of_neg (by simp; omega)]
      exact List.Perm.cons _ ih
    · by_cases c2 : b < x.1
      · rw [List.filter_cons_of_pos (by simp [outB, c2]), List.filter_cons_of_neg (by simp; omega), List.filter_cons_of_pos (by simp [c2])]
        exact (List.Perm.cons _ ih).trans List.perm_middle.symm
      · rw [List.filter_cons_of_neg (by simp [outB]; omega), List.filter_cons_of_neg (by simp; omega), List.filter_cons_of_neg (by simp; omega)]
        exact ih
theorem joinF_first {a b : Int} : ∀ (xs : List (Int × Int)) (p : Int × Int) (z : Int), z < p.1 → (∀ x ∈ xs, outB a b x = false → z < x.1) → z < (xs.foldl (joinF a b) p).1
  | [], _, _, h, _ => h
  | x :: r, p, z, h, hx => by
    rw [List.foldl_cons]
    refine joinF_first r _ z ?_ (fun y hy => hx y (List.mem_cons_of_mem _ hy))
    unfold joinF
    by_cases c : outB a b x = true
    · rw [if_pos c]; exact h
    · rw [if_neg c]
      have := hx x List.mem_cons_self (by simpa using c)
      show z < min p.1 x.1
      omega
theorem addR_sorted {xs : List (Int × Int)} (h : areS xs = true) {a b : Int} (hab : 0 ≤ a ∧ a < b ∧ b ≤ 100000) : (addR a b xs).Pairwise fun x y => x.1 < y.1 := by
  have hp := spOk_pair (areS_split h).2
  have hm := fun x (hx : x ∈ xs) => areS_mem h hx
  have hj := joinS_inv h hab xs.length (Nat.le_refl _)
  rw [List.take_length] at hj
  have hq : xs.Pairwise fun x y => x.1 < y.1 := hp.imp_of_mem (fun {x y} hx hy e => by have := hm x hx; omega)
  unfold addR
  rw [List.pairwise_append]
  refine ⟨hq.filter _, List.Pairwise.cons (fun y hy => ?_) (hq.filter _), fun x hx y hy => ?_⟩
  · have e := (List.mem_filter.1 hy).2
    simp only [decide_eq_true_eq] at e
    omega
  · obtain ⟨hx1, hx2⟩ := List.mem_filter.1 hx
    simp only [decide_eq_true_eq] at hx2
    have hx3 := hm x hx1
    rcases List.mem_cons.1 hy with rfl | hy
    · refine joinF_first xs (a, b) x.1 (by show x.1 < a; omega) (fun y hy hb => ?_)
      have hb' : ¬ (y.2 < a ∨ b < y.1) := by simpa only [outB, Bool.or_eq_false_iff, decide_eq_false_iff_not, not_or] using hb
      have hne : x ≠ y := fun e => by subst e; omega
      have hy3 := hm y hy
      obtain ⟨i, hi, rfl⟩ := List.mem_iff_getElem.1 hx1
      obtain ⟨j, hj, rfl⟩ := List.mem_iff_getElem.1 hy
      rcases Nat.lt_trichotomy i j with c | c | c
      · have := List.pairwise_iff_getElem.1 hp i j hi hj c; omega
      · subst c; exact absurd rfl hne
      · have := List.pairwise_iff_getElem.1 hp j i hj hi c; omega
    · have e := (List.mem_filter.1 hy).2
      simp only [decide_eq_true_eq] at e
      omega
/-- the sorted list is the only one -/
theorem addR_uniq {xs : List (Int × Int)} (h : areS xs = true) {a b : Int} (hab : 0 ≤ a ∧ a < b ∧ b ≤ 100000) {ys : List (Int × Int)} (hp : ys.Perm (outL a b xs ++ [joinS a b xs])) (hs : ys.Pairwise fun x y => x.1 ≤ y.1) : ys = addR a b xs := by
  have hq := addR_sorted h hab
  have hr : ys.Perm (addR a b xs) := by
    refine hp.trans ?_
    refine ((addR_perm hab.2.1 xs (fun x hx => (areS_mem h hx).2.2)).append_right _).trans ?_
    unfold addR
    rw [List.append_assoc]
    exact List.Perm.append_left _ (List.perm_append_comm (l₁ := highL b xs) (l₂ := [joinS a b xs]))
  refine List.Perm.eq_of_pairwise (le := fun x y => x.1 ≤ y.1) (fun x y hx hy h1 h2 => ?_) hs (hq.imp (fun e => by omega)) hr
  have hx' := hr.mem_iff.1 hx
  obtain ⟨i, hi, rfl⟩ := List.mem_iff_getElem.1 hx'
  obtain ⟨j, hj, rfl⟩ := List.mem_iff_getElem.1 hy
  rcases Nat.lt_trichotomy i j with c | c | c
  · have := List.pairwise_iff_getElem.1 hq i j hi hj c; omega
  · subst c; rfl
  · have := List.pairwise_iff_getElem.1 hq j i hj hi c; omega
theorem addR_len {a b : Int} (hab : a < b) {xs : List (Int × Int)} (h : areS xs = true) : (addR a b xs).length = (outL a b xs).length + 1 := by
  have := (addR_perm hab xs (fun x hx => (areS_mem h hx).2.2)).length_eq
  unfold addR
  simp only [List.length_append, List.length_cons] at this ⊢
  omega
/-- the days of what is put together lie in their range -/
theorem outL_mem {xs : List (Int × Int)} (h : areS xs = true) {a b : Int} (hab : 0 ≤ a ∧ a < b ∧ b ≤ 100000) {x : Int × Int} (hx : x ∈ outL a b xs ++ [joinS a b xs]) : 0 ≤ x.1 ∧ x.1 ≤ 100000 := by
  rcases List.mem_append.1 hx with hx | hx
  · have := areS_mem h (List.mem_filter.1 hx).1
    omega
  · rw [List.mem_singleton.1 hx]
    have hj := joinS_inv h hab xs.length (Nat.le_refl _)
    rw [List.take_length] at hj
    omega
/-- the value -/
def addL (xs : List (Int × Int)) (a b : Int) : List (Int × Int) := if spC xs (spB a b) = 0 then (if (addR a b xs).length ≤ 20 then addR a b xs else []) else []
def addC (xs : List (Int × Int)) (a b : Int) : Int := if spC xs (spB a b) = 0 then (if (addR a b xs).length ≤ 20 then 0 else 3) else spC xs (spB a b)
theorem addL_le (xs : List (Int × Int)) (a b : Int) : (addL xs a b).length ≤ 20 := by
  unfold addL
  split
  · split
    · assumption
    · simp
  · simp
end Go.Proofs.Ytldemcdocpdkfaa
