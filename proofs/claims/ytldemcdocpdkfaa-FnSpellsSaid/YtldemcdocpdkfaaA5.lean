/-
  Chapter 15 in plain mathematics: spells of sickness, the number of a day in its case, what is paid. No program is named here.
-/
import Derived.Test.YtldemcdocpdkfaaW
set_option linter.unusedSimpArgs false
set_option linter.unusedVariables false
namespace Go.Proofs.Ytldemcdocpdkfaa
theorem drop_cons {α : Type} {xs : List α} {k : Nat} {x : α} (h : xs[k]? = some x) : xs.drop k = x :: xs.drop (k + 1) := by
  obtain ⟨hk, he⟩ := List.getElem?_eq_some_iff.1 h
  rw [List.drop_eq_getElem_cons hk, he]
/-- are two numbers the days of a spell -/
def spB (f t : Int) : Bool := inR 0 100000 f && inR 0 100000 t && decide (f < t)
theorem spB_iff {f t : Int} : spB f t = true ↔ (0 ≤ f ∧ f ≤ 100000) ∧ (0 ≤ t ∧ t ≤ 100000) ∧ f < t := by
  unfold spB
  simp only [Bool.and_eq_true, inR_iff, decide_eq_true_eq, and_assoc]
/-- spells in order, the first one behind 'last' -/
def spOk (last : Int) : List (Int × Int) → Bool
  | [] => true
  | (f, t) :: r => spB f t && decide (last < f) && spOk t r
def areS (xs : List (Int × Int)) : Bool := decide (xs.length ≤ 20) && spOk (-1000) xs
/-- the last day before the k-th spell -/
def lastT (xs : List (Int × Int)) (k : Nat) : Int := if k = 0 then -1000 else (xs.getD (k - 1) (0, 0)).2
theorem lastT_zero (xs : List (Int × Int)) : lastT xs 0 = -1000 := rfl
theorem lastT_succ {xs : List (Int × Int)} {k : Nat} {f t : Int} (h : xs[k]? = some (f, t)) : lastT xs (k + 1) = t := by
  unfold lastT
  rw [if_neg (by omega), Nat.add_sub_cancel]
  simp [List.getD, h]
theorem lastT_pos {xs : List (Int × Int)} {k : Nat} {f t : Int} (h0 : 0 < k) (h : xs[k - 1]? = some (f, t)) : lastT xs k = t := by
  have := lastT_succ h
  rwa [Nat.sub_add_cancel h0] at this
theorem spOk_cons {xs : List (Int × Int)} {k : Nat} {f t last : Int} (h : xs[k]? = some (f, t)) : spOk last (xs.drop k) = (spB f t && decide (last < f) && spOk t (xs.drop (k + 1))) := by
  rw [drop_cons h]; rfl
theorem spOk_bad {xs : List (Int × Int)} {k : Nat} {f t last : Int} (h : xs[k]? = some (f, t)) (hb : spB f t = false) : spOk last (xs.drop k) = false := by rw [spOk_cons h, hb]; rfl
theorem spOk_low {xs : List (Int × Int)} {k : Nat} {f t last : Int} (h : xs[k]? = some (f, t)) (hb : f ≤ last) : spOk last (xs.drop k) = false := by
  rw [spOk_cons h, decide_eq_false (by omega)]; simp
theorem spOk_next {xs : List (Int × Int)} {k : Nat} {f t last : Int} (h : xs[k]? = some (f, t)) (hb : spB f t = true) (hl : last < f) : spOk last (xs.drop k) = spOk t (xs.drop (k + 1)) := by
  rw [spOk_cons h, hb, decide_eq_true hl]; rfl
theorem areS_split {xs : List (Int × Int)} (h : areS xs = true) : xs.length ≤ 20 ∧ spOk (-1000) xs = true := by
  simpa only [areS, Bool.and_eq_true, decide_eq_true_eq] using h
/-- what holds of each spell of valid ones -/
theorem spOk_all : ∀ {xs : List (Int × Int)} {last : Int}, spOk last xs = true → ∀ (i : Nat) (f t : Int), xs[i]? = some (f, t) → spB f t = true ∧ last < f
  | [], _, _, i, f, t, hi => by simp at hi
  | (f0, t0) :: r, last, h, i, f, t, hi => by
    have h' : (spB f0 t0 = true ∧ last < f0) ∧ spOk t0 r = true := by
      simpa only [spOk, Bool.and_eq_true, decide_eq_true_eq] using h
    obtain ⟨⟨h1, h2⟩, h3⟩ := h'
    cases i with
    | zero =>
      simp only [List.getElem?_cons_zero, Option.some.injEq, Prod.mk.injEq] at hi
      obtain ⟨rfl, rfl⟩ := hi
      exact ⟨h1, h2⟩
    | succ i =>
      simp only [List.getElem?_cons_succ] at hi
      obtain ⟨h5, h6⟩ := spOk_all h3 i f t hi
      have := spB_iff.1 h1
      exact ⟨h5, by omega⟩
theorem areS_at {xs : List (Int × Int)} (h : areS xs = true) {i : Nat} {f t : Int} (hi : xs[i]? = some (f, t)) : (0 ≤ f ∧ f ≤ 100000) ∧ (0 ≤ t ∧ t ≤ 100000) ∧ f < t := spB_iff.1 (spOk_all (areS_split h).2 i f t hi).1
theorem lastT_bd {xs : List (Int × Int)} (h : areS xs = true) {k : Nat} (hk : k ≤ xs.length) : -1000 ≤ lastT xs k ∧ lastT xs k ≤ 100000 := by
  by_cases h0 : k = 0
  · subst h0; rw [lastT_zero]; omega
  · have hx : xs[k - 1]? = some ((xs[k - 1]'(by omega)).1, (xs[k - 1]'(by omega)).2) := List.getElem?_eq_getElem (by omega)
    rw [lastT_pos (by omega) hx]
    have := areS_at h hx
    omega
/-- the sum of the days -/
def daysL : List (Int × Int) → Int
  | [] => 0
  | (f, t) :: r => (t - f) + daysL r
theorem daysL_app (xs ys : List (Int × Int)) : daysL (xs ++ ys) = daysL xs + daysL ys := by
  induction xs with
  | nil => simp [daysL]
  | cons x xs ih => obtain ⟨f, t⟩ := x; simp only [List.cons_append, daysL, ih]; omega
theorem daysL_take {xs : List (Int × Int)} {k : Nat} {f t : Int} (h : xs[k]? = some (f, t)) : daysL (xs.take (k + 1)) = daysL (xs.take k) + (t - f) := by
  obtain ⟨hk, he⟩ := List.getElem?_eq_some_iff.1 h
  rw [List.take_succ_eq_append_getElem hk, daysL_app, he]
  simp [daysL]
theorem daysL_bd {xs : List (Int × Int)} (h : areS xs = true) : ∀ k : Nat, k ≤ xs.length → 0 ≤ daysL (xs.take k) ∧ daysL (xs.take k) ≤ 100000 * (k : Int) := by
  intro k
  induction k with
  | zero => intro _; simp [daysL]
  | succ k ih =>
    intro hk
    have h1 := ih (by omega)
    have hx : xs[k]? = some ((xs[k]'(by omega)).1, (xs[k]'(by omega)).2) := List.getElem?_eq_getElem (by omega)
    rw [daysL_take hx]
    have h2 := areS_at h hx
    omega
/-- begins the k-th spell a case -/
def begB (xs : List (Int × Int)) (k : Nat) : Bool := decide (56 < (xs.getD k (0, 0)).1 - lastT xs k)
theorem begB_at {xs : List (Int × Int)} {k : Nat} {f t : Int} (h : xs[k]? = some (f, t)) : begB xs k = decide (56 < f - lastT xs k) := by
  unfold begB; simp [List.getD, h]
/-- the days of the case ahead of the k-th spell, before the test whether it begins one -/
def befN (xs : List (Int × Int)) : Nat → Int
  | 0 => 0
  | k + 1 => (if begB xs k = true then 0 else befN xs k) + ((xs.getD k (0, 0)).2 - (xs.getD k (0, 0)).1)
/-- the same, behind that test -/
def befB (xs : List (Int × Int)) (k : Nat) : Int := if begB xs k = true then 0 else befN xs k
theorem befN_succ {xs : List (Int × Int)} {k : Nat} {f t : Int} (h : xs[k]? = some (f, t)) : befN xs (k + 1) = befB xs k + (t - f) := by
  show (if begB xs k = true then 0 else befN xs k) + _ = _
  simp [befB, List.getD, h]
theorem befN_bd {xs : List (Int × Int)} (h : areS xs = true) : ∀ k : Nat, k ≤ xs.length → 0 ≤ befN xs k ∧ befN xs k ≤ 100000 * (k : Int) := by
  intro k
  induction k with
  | zero => intro _; simp [befN]
  | succ k ih =>
    intro hk
    have h1 := ih (by omega)
    have hx : xs[k]? = some ((xs[k]'(by omega)).1, (xs[k]'(by omega)).2) := List.getElem?_eq_getElem (by omega)
    rw [befN_succ hx]
    have h2 := areS_at h hx
    unfold befB
    split <;> omega
theorem befB_bd {xs : List (Int × Int)} (h : areS xs = true) {k : Nat} (hk : k ≤ xs.length) : 0 ≤ befB xs k ∧ befB xs k ≤ 100000 * (k : Int) := by
  have := befN_bd h k hk
  unfold befB
  split <;> omega
/-- is the day one of the k-th spell -/
def dayIn (xs : List (Int × Int)) (day : Int) (k : Nat) : Bool := inR (xs.getD k (0, 0)).1 ((xs.getD k (0, 0)).2 - 1) day
theorem dayIn_at {xs : List (Int × Int)} {k : Nat} {f t day : Int} (h : xs[k]? = some (f, t)) : dayIn xs day k = inR f (t - 1) day := by
  unfold dayIn; simp [List.getD, h]
/-- the number of a day, searched from the k-th spell on -/
def numF (xs : List (Int × Int)) (day : Int) (k : Nat) : Nat → Int
  | 0 => 0
  | m + 1 => if dayIn xs day k = true then befB xs k + day - (xs.getD k (0, 0)).1 + 1 else numF xs day (k + 1) m
/-- the number of a day in its case -/
def numD (xs : List (Int × Int)) (day : Int) : Int := numF xs day 0 xs.length
theorem numF_hit {xs : List (Int × Int)} {k m : Nat} {f t day : Int} (h : xs[k]? = some (f, t)) (hd : inR f (t - 1) day = true) : numF xs day k (m + 1) = befB xs k + day - f + 1 := by
  show (if _ then _ else _) = _
  rw [dayIn_at h, if_pos hd]
  simp [List.getD, h]
theorem numF_miss {xs : List (Int × Int)} {k m : Nat} {f t day : Int} (h : xs[k]? = some (f, t)) (hd : inR f (t - 1) day = false) : numF xs day k (m + 1) = numF xs day (k + 1) m := by
  show (if _ then _ else _) = _
  rw [dayIn_at h, if_neg (by simp [hd])]
theorem numF_bd {xs : List (Int × Int)} (h : areS xs = true) (day : Int) : ∀ (m k : Nat), k + m ≤ xs.length → 0 ≤ numF xs day k m ∧ numF xs day k m ≤ 100000 * ((k + m : Nat) : Int) + 100000 := by
  intro m
  induction m with
  | zero => intro k _; simp [numF]; omega
  | succ m ih =>
    intro k hk
    have hx : xs[k]? = some ((xs[k]'(by omega)).1, (xs[k]'(by omega)).2) := List.getElem?_eq_getElem (by omega)
    cases hd : inR (xs[k]'(by omega)).1 ((xs[k]'(by omega)).2 - 1) day with
    | true =>
      rw [numF_hit hx hd]
      have h1 := befB_bd h (k := k) (by omega)
      have h2 := areS_at h hx
      rw [inR_iff] at hd
      omega
    | false =>
      rw [numF_miss hx hd]
      have := ih (k + 1) (by omega)
      omega
theorem numD_bd {xs : List (Int × Int)} (h : areS xs = true) (day : Int) : 0 ≤ numD xs day ∧ numD xs day ≤ 3000000 := by
  have h1 := numF_bd h day xs.length 0 (by omega)
  have h2 := (areS_split h).1
  unfold numD
  omega
/-- what is paid for the day with a number in its case -/
def payN (n rate : Int) : Int := if n ≤ 3 then 0 else if n ≤ 185 then rate else if n ≤ 367 then rate / 2 else 0
theorem payN_bd {n rate : Int} (h : 0 ≤ rate ∧ rate ≤ 100000) : 0 ≤ payN n rate ∧ payN n rate ≤ 100000 := by
  unfold payN
  split
  · omega
  · split
    · omega
    · split <;> omega
/-- the sum of g over n days from a on -/
def sumR (g : Int → Int) (a : Int) : Nat → Int
  | 0 => 0
  | n + 1 => sumR g a n + g (a + n)
theorem sumR_bd {g : Int → Int} {M : Int} (h : ∀ x, 0 ≤ g x ∧ g x ≤ M) (a : Int) : ∀ n : Nat, 0 ≤ sumR g a n ∧ sumR g a n ≤ M * (n : Int) := by
  intro n
  induction n with
  | zero => simp [sumR]
  | succ n ih =>
    have := h (a + n)
    have e : M * ((n + 1 : Nat) : Int) = M * (n : Int) + M := by rw [Int.natCast_add, Int.mul_add]; simp
    show 0 ≤ sumR g a n + _ ∧ sumR g a n + _ ≤ _
    rw [e]
    omega
/-- the code of spells and of other arguments that are in range or not -/
def spC (xs : List (Int × Int)) (t : Bool) : Int := if areS xs = true then (if t = true then 0 else 2) else 1
theorem spC_cases (xs : List (Int × Int)) (t : Bool) : (spC xs t = 0 ∧ areS xs = true ∧ t = true) ∨ (spC xs t = 2 ∧ areS xs = true ∧ t = false) ∨ (spC xs t = 1 ∧ areS xs = false) := by
  unfold spC
  cases h : areS xs <;> cases t <;> simp
/-- the day on which the pay of a case is exhausted for the first time, from the k-th spell on: none is 'none' -/
def exhF (xs : List (Int × Int)) (k : Nat) : Nat → Option Int
  | 0 => none
  | m + 1 => if 367 < befN xs (k + 1) then some ((xs.getD k (0, 0)).2 - (befN xs (k + 1) - 367)) else exhF xs (k + 1) m
def exhD (xs : List (Int × Int)) : Option Int := exhF xs 0 xs.length
theorem sumR_congr {g h : Int → Int} {a : Int} {n : Nat} (e : ∀ i : Nat, i < n → g (a + i) = h (a + i)) : sumR g a n = sumR h a n := by
  induction n with
  | zero => rfl
  | succ n ih =>
    show sumR g a n + _ = sumR h a n + _
    rw [ih (fun i hi => e i (by omega)), e n (by omega)]
theorem sumR_zero {g : Int → Int} {a : Int} {n : Nat} (e : ∀ i : Nat, i < n → g (a + i) = 0) : sumR g a n = 0 := by
  induction n with
  | zero => rfl
  | succ n ih =>
    show sumR g a n + _ = 0
    rw [ih (fun i hi => e i (by omega)), e n (by omega)]; rfl
theorem sumR_add (g : Int → Int) (a : Int) (n m : Nat) : sumR g a (n + m) = sumR g a n + sumR g (a + n) m := by
  induction m with
  | zero => simp [sumR]
  | succ m ih =>
    show sumR g a (n + m) + g (a + ((n + m : Nat) : Int)) = sumR g a n + (sumR g (a + n) m + g (a + n + m))
    rw [ih, show a + ((n + m : Nat) : Int) = a + n + m by omega, Int.add_assoc]
theorem sumR_plus (g h : Int → Int) (a : Int) (n : Nat) : sumR (fun x => g x + h x) a n = sumR g a n + sumR h a n := by
  induction n with
  | zero => rfl
  | succ n ih =>
    show sumR (fun x => g x + h x) a n + (g (a + n) + h (a + n)) = (sumR g a n + g (a + n)) + (sumR h a n + h (a + n))
    rw [ih]; omega
/-- g on the days of [a, b], 0 elsewhere -/
def onR (a b : Int) (g : Int → Int) (x : Int) : Int := if inR a b x = true then g x else 0
theorem sumR_onR (g : Int → Int) (a : Int) (n N : Nat) (h0 : 0 ≤ a) (hN : a + n ≤ N) : sumR (onR a (a + n - 1) g) 0 N = sumR g a n := by
  obtain ⟨a, rfl⟩ := Int.eq_ofNat_of_zero_le h0
  have e : N = a + (n + (N - a - n)) := by omega
  rw [e, sumR_add, sumR_add]
  have z1 : sumR (onR (a : Int) (a + n - 1) g) 0 a = 0 := sumR_zero fun i hi => by
    unfold onR; rw [if_neg (by rw [inR_iff]; omega)]
  have z2 : sumR (onR (a : Int) (a + n - 1) g) (0 + a + n) (N - a - n) = 0 := sumR_zero fun i hi => by
    unfold onR; rw [if_neg (by rw [inR_iff]; omega)]
  have z3 : sumR (onR (a : Int) (a + n - 1) g) (0 + a) n = sumR g a n := by
    rw [Int.zero_add]
    exact sumR_congr fun i hi => by unfold onR; rw [if_pos (by rw [inR_iff]; omega)]
  rw [z1, z2, z3]; omega
theorem onR_comm (a b c d : Int) (g : Int → Int) : onR a b (onR c d g) = onR c d (onR a b g) := by
  funext x
  unfold onR
  split <;> split <;> rfl
/-- two intervals: the sum over the first of what lies in the second is the sum over the second of what lies in the first -/
theorem sumR_swap (g : Int → Int) (a c : Int) (n m : Nat) (ha : 0 ≤ a) (hc : 0 ≤ c) : sumR (onR c (c + m - 1) g) a n = sumR (onR a (a + n - 1) g) c m := by
  have h1 := sumR_onR (onR c (c + m - 1) g) a n (a.toNat + n + c.toNat + m) ha (by omega)
  have h2 := sumR_onR (onR a (a + n - 1) g) c m (a.toNat + n + c.toNat + m) hc (by omega)
  rw [← h1, ← h2, onR_comm]
/-- what is paid for a day of the k-th spell -/
def payS (xs : List (Int × Int)) (rate : Int) (k : Nat) (x : Int) : Int := payN (befB xs k + x - (xs.getD k (0, 0)).1 + 1) rate
/-- what is paid for the days from a (n of them) that lie in the k-th spell, as the reference counts it -/
def spellP (xs : List (Int × Int)) (rate a : Int) (n : Nat) (k : Nat) : Int := sumR (onR a (a + n - 1) (payS xs rate k)) (xs.getD k (0, 0)).1 ((xs.getD k (0, 0)).2 - (xs.getD k (0, 0)).1).toNat
def payK (xs : List (Int × Int)) (rate a : Int) (n : Nat) : Nat → Int
  | 0 => 0
  | k + 1 => payK xs rate a n k + spellP xs rate a n k
theorem payN_zero (rate : Int) : payN 0 rate = 0 := rfl
theorem onR_hit {a b x : Int} {g : Int → Int} (h : inR a b x = true) : onR a b g x = g x := if_pos h
theorem onR_miss {a b x : Int} {g : Int → Int} (h : inR a b x = false) : onR a b g x = 0 := if_neg (by simp [h])
/-- the spells lie one behind the other -/
theorem apart {xs : List (Int × Int)} (h : areS xs = true) {k j : Nat} {f t f' t' : Int} (hk : xs[k]? = some (f, t)) (hj : xs[j]? = some (f', t')) (hlt : k < j) : t < f' := by
  have key : ∀ (zs : List (Int × Int)) (last : Int) (k j : Nat) (f t f' t' : Int), spOk last zs = true → zs[k]? = some (f, t) → zs[j]? = some (f', t') → k < j → t < f' := by
    intro zs
    induction zs with
    | nil => intro last k j f t f' t' _ hk _ _; simp at hk
    | cons z zs ih =>
      intro last k j f t f' t' ho hk hj hlt
      obtain ⟨f0, t0⟩ := z
      have ho' : (spB f0 t0 = true ∧ last < f0) ∧ spOk t0 zs = true := by
        simpa only [spOk, Bool.and_eq_true, decide_eq_true_eq] using ho
      cases j with
      | zero => omega
      | succ j =>
        simp only [List.getElem?_cons_succ] at hj
        cases k with
        | zero =>
          simp only [List.getElem?_cons_zero, Option.some.injEq, Prod.mk.injEq] at hk
          obtain ⟨rfl, rfl⟩ := hk
          exact (spOk_all ho'.2 j f' t' hj).2
        | succ k =>
          simp only [List.getElem?_cons_succ] at hk
          exact ih t0 k j f t f' t' ho'.2 hk hj (by omega)
  exact key xs (-1000) k j f t f' t' (areS_split h).2 hk hj hlt
theorem getD_at {xs : List (Int × Int)} {k : Nat} {p : Int × Int} (h : xs[k]? = some p) : xs.getD k (0, 0) = p := by simp [List.getD, h]
/-- the pay of a day, as a sum over the spells -/
def dayK (xs : List (Int × Int)) (rate x : Int) (k : Nat) : Nat → Int
  | 0 => 0
  | m + 1 => onR (xs.getD k (0, 0)).1 ((xs.getD k (0, 0)).2 - 1) (payS xs rate k) x + dayK xs rate x (k + 1) m
theorem dayK_none {xs : List (Int × Int)} {rate x : Int} : ∀ (m k : Nat), (∀ j, k ≤ j → j < k + m → dayIn xs x j = false) → dayK xs rate x k m = 0 := by
  intro m
  induction m with
  | zero => intro k _; rfl
  | succ m ih =>
    intro k h
    show onR _ _ _ x + dayK xs rate x (k + 1) m = 0
    rw [onR_miss (h k (Nat.le_refl _) (by omega)), ih (k + 1) (fun j h1 h2 => h j (by omega) (by omega))]; rfl
theorem numF_pay {xs : List (Int × Int)} (h : areS xs = true) (rate x : Int) : ∀ (m k : Nat), k + m ≤ xs.length → payN (numF xs x k m) rate = dayK xs rate x k m := by
  intro m
  induction m with
  | zero => intro k _; rfl
  | succ m ih =>
    intro k hk
    have hx : xs[k]? = some ((xs[k]'(by omega)).1, (xs[k]'(by omega)).2) := List.getElem?_eq_getElem (by omega)
    generalize (xs[k]'(by omega)).1 = f at hx
    generalize (xs[k]'(by omega)).2 = t at hx
    show _ = onR _ _ _ x + dayK xs rate x (k + 1) m
    cases hd : inR f (t - 1) x with
    | true =>
      rw [numF_hit hx hd, dayK_none, getD_at hx, onR_hit hd, Int.add_zero]
      · unfold payS; rw [getD_at hx]
      · intro j h1 h2
        have hj : xs[j]? = some ((xs[j]'(by omega)).1, (xs[j]'(by omega)).2) := List.getElem?_eq_getElem (by omega)
        rw [dayIn_at hj, inR_ff]
        have := apart h hx hj (by omega)
        rw [inR_iff] at hd
        omega
    | false => rw [numF_miss hx hd, ih (k + 1) (by omega), getD_at hx, onR_miss hd]; omega
theorem sumR_dayK {xs : List (Int × Int)} (h : areS xs = true) (rate a : Int) (n : Nat) (ha : 0 ≤ a) : ∀ (m k : Nat), k + m ≤ xs.length → payK xs rate a n k + sumR (fun x => dayK xs rate x k m) a n = payK xs rate a n (k + m) := by
  intro m
  induction m with
  | zero => intro k _; rw [sumR_zero (fun i _ => rfl)]; simp
  | succ m ih =>
    intro k hk
    have hx : xs[k]? = some ((xs[k]'(by omega)).1, (xs[k]'(by omega)).2) := List.getElem?_eq_getElem (by omega)
    generalize (xs[k]'(by omega)).1 = f at hx
    generalize (xs[k]'(by omega)).2 = t at hx
    have hft := areS_at h hx
    have h1 := ih (k + 1) (by omega)
    have h2 : sumR (fun x => dayK xs rate x k (m + 1)) a n = sumR (onR f (t - 1) (payS xs rate k)) a n + sumR (fun x => dayK xs rate x (k + 1) m) a n := by
      rw [← sumR_plus]
      exact sumR_congr fun i _ => by show onR _ _ _ _ + _ = _; rw [getD_at hx]
    have h3 : sumR (onR f (t - 1) (payS xs rate k)) a n = spellP xs rate a n k := by
      have h4 := sumR_swap (payS xs rate k) a f n (t - f).toNat ha hft.1.1
      unfold spellP
      rw [getD_at hx, ← h4]
      rw [show f + ((t - f).toNat : Int) - 1 = t - 1 by omega]
    rw [show k + (m + 1) = k + 1 + m by omega, ← h1, h2, h3]
    show _ = payK xs rate a n k + spellP xs rate a n k + _
    omega
/-- the pay of n days from a on -/
def payT (xs : List (Int × Int)) (rate a : Int) (n : Nat) : Int := sumR (fun x => payN (numD xs x) rate) a n
theorem payT_eq {xs : List (Int × Int)} (h : areS xs = true) (rate a : Int) (n : Nat) (ha : 0 ≤ a) : payK xs rate a n xs.length = payT xs rate a n := by
  have h1 := sumR_dayK h rate a n ha xs.length 0 (by omega)
  rw [Nat.zero_add] at h1
  rw [← h1]
  show 0 + _ = _
  rw [Int.zero_add]
  exact sumR_congr fun i _ => (numF_pay h rate _ xs.length 0 (by omega)).symm
/-- the number of a day of the k-th spell -/
theorem numD_in {xs : List (Int × Int)} (h : areS xs = true) {k : Nat} {f t x : Int} (hx : xs[k]? = some (f, t)) (hd : inR f (t - 1) x = true) : numD xs x = befB xs k + x - f + 1 := by
  have hk : k < xs.length := (List.getElem?_eq_some_iff.1 hx).1
  have key : ∀ (d j : Nat), j + d = k → numF xs x j (xs.length - j) = befB xs k + x - f + 1 := by
    intro d
    induction d with
    | zero =>
      intro j hj
      obtain rfl : j = k := by omega
      rw [show xs.length - j = (xs.length - j - 1) + 1 by omega]
      exact numF_hit hx hd
    | succ d ih =>
      intro j hj
      have hj' : xs[j]? = some ((xs[j]'(by omega)).1, (xs[j]'(by omega)).2) := List.getElem?_eq_getElem (by omega)
      have ha := apart h hj' hx (by omega)
      have hm : inR (xs[j]'(by omega)).1 ((xs[j]'(by omega)).2 - 1) x = false := by
        rw [inR_ff]; rw [inR_iff] at hd; omega
      rw [show xs.length - j = (xs.length - (j + 1)) + 1 by omega, numF_miss hj' hm]
      exact ih (j + 1) (by omega)
  exact key k 0 (by omega)
theorem numD_last {xs : List (Int × Int)} (h : areS xs = true) {k : Nat} {f t : Int} (hx : xs[k]? = some (f, t)) : numD xs (t - 1) = befN xs (k + 1) := by
  have := areS_at h hx
  rw [numD_in h hx (by rw [inR_iff]; omega), befN_succ hx]; omega
theorem numD_first {xs : List (Int × Int)} (h : areS xs = true) {k : Nat} {f t : Int} (hx : xs[k]? = some (f, t)) : numD xs f = befB xs k + 1 := by
  have := areS_at h hx
  rw [numD_in h hx (by rw [inR_iff]; omega)]; omega
theorem exhF_hit {xs : List (Int × Int)} {k m : Nat} {f t : Int} (hx : xs[k]? = some (f, t)) (h : 367 < befN xs (k + 1)) : exhF xs k (m + 1) = some (t - (befN xs (k + 1) - 367)) := by
  show (if _ then _ else _) = _
  rw [if_pos h, getD_at hx]
theorem exhF_miss {xs : List (Int × Int)} {k m : Nat} (h : ¬ 367 < befN xs (k + 1)) : exhF xs k (m + 1) = exhF xs (k + 1) m := by
  show (if _ then _ else _) = _
  rw [if_neg h]
/-- value and code of the day on which the pay is exhausted -/
def exhV (xs : List (Int × Int)) : Int := (exhD xs).getD 0
def exhC (xs : List (Int × Int)) : Int := if areS xs = true then (match exhD xs with | some _ => 0 | none => 4) else 1
/-- the cases: the indexes of the spells that begin one -/
def casF (xs : List (Int × Int)) : Nat → List Int
  | 0 => []
  | k + 1 => if begB xs k = true then casF xs k ++ [(k : Int)] else casF xs k
theorem casF_len (xs : List (Int × Int)) : ∀ k, (casF xs k).length ≤ k := by
  intro k
  induction k with
  | zero => exact Nat.le_refl _
  | succ k ih =>
    show (if _ then _ else _ : List Int).length ≤ _
    split
    · rw [List.length_append]; simp; omega
    · omega
end Go.Proofs.Ytldemcdocpdkfaa
