/-
  The plain law of burying: sorted lists, what is put in, and the words for a class.
-/
import Derived.Test.YtaikfclgmkfooaaGreatDoorW
set_option linter.unusedSimpArgs false
set_option linter.unusedVariables false
namespace Go.Proofs.YtaikfclgmkfooaaGreatDoor
open Go.RowKit
def gz (xs : List Int) (i : Nat) : Int := xs.getD i 0
theorem gz_at {xs : List Int} {k : Nat} {x : Int} (h : xs[k]? = some x) : gz xs k = x := by simp [gz, List.getD, h]
theorem gz_get {xs : List Int} {k : Nat} (h : k < xs.length) : xs[k]? = some (gz xs k) := by
  rw [List.getElem?_eq_getElem h, gz_at (List.getElem?_eq_getElem h)]
theorem gz_mem {xs : List Int} {k : Nat} (h : k < xs.length) : gz xs k ∈ xs := List.mem_of_getElem? (gz_get h)
theorem RdI.atZ {w : World} {B : Nat} {A : Option Addr} {n : Nat} {xs : List Int} {k : Nat} (h : RdI w B A n xs) (hk : k < n) : ∃ ad, A = some ad ∧ ad.block < B ∧ w.cell? (ad.add k) = some (.int .i64 (gz xs k)) := by
  obtain ⟨ad, z, h1, h2, h3, h4⟩ := h.atI hk
  exact ⟨ad, h1, h2, by rw [gz_at h3]; exact h4⟩
/-- a list contains a number -/
def hs (ds : List Int) (x : Int) : Bool := ds.any (fun z => z == x)
theorem hs_iff {ds : List Int} {x : Int} : hs ds x = true ↔ x ∈ ds := by
  unfold hs
  rw [List.any_eq_true]
  constructor
  · rintro ⟨z, hz, e⟩
    rw [beq_iff_eq] at e
    exact e ▸ hz
  · intro h
    exact ⟨x, h, by simp⟩
/-- a list that grows -/
def incB (ds : List Int) : Bool := decide (ds.Pairwise (· < ·))
theorem incB_iff {ds : List Int} : incB ds = true ↔ ds.Pairwise (· < ·) := by unfold incB; exact decide_eq_true_iff
theorem inc_steps {ds : List Int} : ds.Pairwise (· < ·) ↔ ∀ i, i + 1 < ds.length → gz ds i < gz ds (i + 1) := by
  rw [List.pairwise_iff_getElem]
  constructor
  · intro h i hi
    have := h i (i + 1) (by omega) hi (by omega)
    rw [gz_at (List.getElem?_eq_getElem (show i < ds.length by omega)), gz_at (List.getElem?_eq_getElem hi)]
    exact this
  · intro h
    have h2 : ∀ k i, i + k + 1 < ds.length → gz ds i < gz ds (i + k + 1) := by
      intro k
      induction k with
      | zero => intro i hi; exact h i hi
      | succ k ih =>
        intro i hi
        have h3 := ih i (by omega)
        have h4 := h (i + k + 1) (by omega)
        rw [show i + (k + 1) + 1 = i + k + 1 + 1 by omega]
        omega
    intro i j hi hj hij
    have := h2 (j - i - 1) i (by omega)
    rw [show i + (j - i - 1) + 1 = j by omega, gz_at (List.getElem?_eq_getElem hi), gz_at (List.getElem?_eq_getElem hj)] at this
    exact this
theorem incB_t {ds : List Int} (h : ∀ i, i + 1 < ds.length → gz ds i < gz ds (i + 1)) : incB ds = true := incB_iff.2 (inc_steps.2 h)
theorem incB_f {ds : List Int} {i : Nat} (hi : i + 1 < ds.length) (h : ¬ gz ds i < gz ds (i + 1)) : incB ds = false := by
  cases hb : incB ds with
  | false => rfl
  | true => exact absurd (inc_steps.1 (incB_iff.1 hb) i hi) h
/-- a growing list of numbers from 0 to n - 1 has at most n elements -/
theorem inc_len {ds : List Int} {n : Nat} (h : incB ds = true) (hr : ds.all (inR 0 ((n : Int) - 1)) = true) : ds.length ≤ n := by
  have h1 := inc_steps.1 (incB_iff.1 h)
  have h2 : ∀ i, i < ds.length → (i : Int) ≤ gz ds i := by
    intro i
    induction i with
    | zero =>
      intro hi
      have := inR_iff.1 (List.all_eq_true.1 hr _ (gz_mem hi))
      omega
    | succ i ih =>
      intro hi
      have := ih (by omega)
      have := h1 i hi
      omega
  rcases Nat.eq_zero_or_pos ds.length with h0 | h0
  · omega
  · have h3 := h2 (ds.length - 1) (by omega)
    have h4 := inR_iff.1 (List.all_eq_true.1 hr _ (gz_mem (show ds.length - 1 < ds.length by omega)))
    omega
/-- what makes a class -/
def okC (ss ds : List Int) (ch : Int) : Bool := inR 1 60 (ss.length : Int) && ss.all (inR 1 1000) && ds.all (inR 0 ((ss.length : Int) - 1)) && inR 0 1000000000000 ch && incB ds
theorem okC_iff {ss ds : List Int} {ch : Int} : okC ss ds ch = true ↔ (1 ≤ ss.length ∧ ss.length ≤ 60) ∧ ss.all (inR 1 1000) = true ∧ ds.all (inR 0 ((ss.length : Int) - 1)) = true ∧ (0 ≤ ch ∧ ch ≤ 1000000000000) ∧ incB ds = true := by
  unfold okC
  simp only [Bool.and_eq_true, inR_iff, and_assoc]
  constructor
  · rintro ⟨h1, h2, h3, h4, h5, h6, h7⟩; exact ⟨by omega, by omega, h3, h4, h5, h6, h7⟩
  · rintro ⟨h1, h2, h3, h4, h5, h6, h7⟩; exact ⟨by omega, by omega, h3, h4, h5, h6, h7⟩
/-- the sorted list -/
def srt (zs : List Int) : List Int := zs.mergeSort fun x y => decide (x ≤ y)
theorem srt_perm (zs : List Int) : (srt zs).Perm zs := List.mergeSort_perm zs _
theorem srt_sorted (zs : List Int) : (srt zs).Pairwise (· ≤ ·) := by
  have h := List.pairwise_mergeSort (le := fun x y : Int => decide (x ≤ y)) (fun a b c h1 h2 => by simp only [decide_eq_true_eq] at *; omega) (fun a b => by simp only [Bool.or_eq_true, decide_eq_true_eq]; omega) zs
  exact h.imp (fun e => by simpa using e)
theorem sorted_uniq {xs ys : List Int} (h1 : xs.Pairwise (· ≤ ·)) (h2 : ys.Pairwise (· ≤ ·)) (hp : xs.Perm ys) : xs = ys :=
  List.Perm.eq_of_pairwise (le := fun x y : Int => x ≤ y) (fun x y _ _ h1 h2 => by omega) h1 h2 hp
theorem srt_eq {xs ys : List Int} (h : xs.Perm ys) : srt xs = srt ys := sorted_uniq (srt_sorted _) (srt_sorted _) ((srt_perm xs).trans (h.trans (srt_perm ys).symm))
theorem srt_same {xs : List Int} (h : xs.Pairwise (· < ·)) : srt xs = xs := sorted_uniq (srt_sorted _) (h.imp (fun e => by omega)) (srt_perm xs)
theorem srt_len (xs : List Int) : (srt xs).length = xs.length := (srt_perm xs).length_eq
theorem srt_all (p : Int → Bool) (xs : List Int) : (srt xs).all p = xs.all p := by
  rw [Bool.eq_iff_iff, List.all_eq_true, List.all_eq_true]
  exact ⟨fun h x hx => h x ((srt_perm xs).mem_iff.2 hx), fun h x hx => h x ((srt_perm xs).mem_iff.1 hx)⟩
/-- a number put in at its place -/
def cutP (ds : List Int) (x : Int) : Nat := (ds.takeWhile (fun z => decide (z < x))).length
def insL (ds : List Int) (x : Int) : List Int := ds.take (cutP ds x) ++ x :: ds.drop (cutP ds x)
theorem cutP_cons (d : Int) (ds : List Int) (x : Int) : cutP (d :: ds) x = if d < x then cutP ds x + 1 else 0 := by
  unfold cutP
  by_cases h : d < x <;> simp [List.takeWhile_cons, h]
theorem cutP_le (ds : List Int) (x : Int) : cutP ds x ≤ ds.length := by
  induction ds with
  | nil => exact Nat.le_refl _
  | cons d ds ih => rw [cutP_cons, List.length_cons]; split <;> omega
theorem cutP_lt {ds : List Int} {x : Int} : ∀ i, i < cutP ds x → gz ds i < x := by
  induction ds with
  | nil => intro i hi; simp [cutP] at hi
  | cons d ds ih =>
    intro i hi
    rw [cutP_cons] at hi
    split at hi
    · next h =>
      cases i with
      | zero => exact h
      | succ i => exact ih i (by omega)
    · omega
theorem cutP_stop {ds : List Int} {x : Int} (h : cutP ds x < ds.length) : ¬ gz ds (cutP ds x) < x := by
  induction ds with
  | nil => simp at h
  | cons d ds ih =>
    rw [cutP_cons] at h ⊢
    split
    · next h1 =>
      rw [if_pos h1] at h
      exact ih (by simpa using h)
    · next h1 => exact h1
theorem cutP_eq {ds : List Int} {x : Int} {k : Nat} (hk : k ≤ ds.length) (h1 : ∀ i, i < k → gz ds i < x) (h2 : k < ds.length → ¬ gz ds k < x) : cutP ds x = k := by
  rcases Nat.lt_trichotomy (cutP ds x) k with c | c | c
  · exact absurd (h1 _ c) (cutP_stop (by omega))
  · exact c
  · exact absurd (cutP_lt k c) (h2 (by have := cutP_le ds x; omega))
theorem insL_perm (ds : List Int) (x : Int) : (insL ds x).Perm (ds ++ [x]) := by
  unfold insL
  have h1 : ds = ds.take (cutP ds x) ++ ds.drop (cutP ds x) := (List.take_append_drop _ _).symm
  have h2 : (ds.take (cutP ds x) ++ x :: ds.drop (cutP ds x)).Perm (x :: (ds.take (cutP ds x) ++ ds.drop (cutP ds x))) := List.perm_middle
  refine h2.trans ?_
  rw [List.take_append_drop]
  exact (List.perm_append_comm (l₁ := [x]) (l₂ := ds))
theorem insL_len (ds : List Int) (x : Int) : (insL ds x).length = ds.length + 1 := by rw [(insL_perm ds x).length_eq]; simp
theorem insL_inc {ds : List Int} {x : Int} (h : ds.Pairwise (· < ·)) (hx : x ∉ ds) : (insL ds x).Pairwise (· < ·) := by
  have h0 : (ds.take (cutP ds x) ++ ds.drop (cutP ds x)).Pairwise (· < ·) := by rw [List.take_append_drop]; exact h
  rw [List.pairwise_append] at h0
  unfold insL
  rw [List.pairwise_append, List.pairwise_cons]
  have hA : ∀ a ∈ ds.take (cutP ds x), a < x := by
    intro a ha
    obtain ⟨i, hi, rfl⟩ := List.mem_iff_getElem.1 ha
    rw [List.length_take] at hi
    have := cutP_lt (ds := ds) (x := x) i (by omega)
    rw [gz_at (List.getElem?_eq_getElem (show i < ds.length by omega))] at this
    rw [List.getElem_take]
    exact this
  have hB : ∀ b ∈ ds.drop (cutP ds x), x < b := by
    intro b hb
    rcases Nat.lt_or_ge (cutP ds x) ds.length with c | c
    · have h1 := cutP_stop c
      have h2 : ds.drop (cutP ds x) = ds[cutP ds x] :: ds.drop (cutP ds x + 1) := List.drop_eq_getElem_cons c
      rw [gz_at (List.getElem?_eq_getElem c)] at h1
      have h3 : x < ds[cutP ds x] := by
        have : x ≠ ds[cutP ds x] := fun e => hx (e ▸ List.getElem_mem c)
        omega
      have h4 := h0.2.1
      rw [h2] at hb h4
      rw [List.pairwise_cons] at h4
      rcases List.mem_cons.1 hb with rfl | hb
      · exact h3
      · have := h4.1 b hb; omega
    · rw [List.drop_eq_nil_of_le c] at hb
      cases hb
  refine ⟨h0.1, ⟨hB, h0.2.1⟩, fun a ha b hb => ?_⟩
  rcases List.mem_cons.1 hb with rfl | hb
  · exact hA a ha
  · exact h0.2.2 a ha b hb
/-- all put in, one by one -/
def buR : List Int → List Int → Option (List Int)
  | ds, [] => some ds
  | ds, x :: ms => if hs ds x = true then none else buR (insL ds x) ms
theorem nodup_inc {xs : List Int} (h : xs.Pairwise (· < ·)) : xs.Nodup := h.imp (fun e => by omega)
/-- the law: putting in one by one is sorting all, where nothing comes twice -/
theorem buR_eq : ∀ (ms ds : List Int), ds.Pairwise (· < ·) → buR ds ms = if incB (srt (ds ++ ms)) = true then some (srt (ds ++ ms)) else none
  | [], ds, h => by
    rw [List.append_nil, srt_same h, if_pos (incB_iff.2 h)]
    rfl
  | x :: ms, ds, h => by
    unfold buR
    by_cases hx : hs ds x = true
    · rw [if_pos hx, if_neg]
      intro hi
      have h1 : (ds ++ x :: ms).Nodup := (srt_perm _).nodup_iff.1 (nodup_inc (incB_iff.1 hi))
      rw [List.nodup_append] at h1
      exact h1.2.2 x (hs_iff.1 hx) x (by simp) rfl
    · rw [if_neg hx, buR_eq ms _ (insL_inc h (fun e => hx (hs_iff.2 e)))]
      have hp : (insL ds x ++ ms).Perm (ds ++ x :: ms) := by
        have := (insL_perm ds x).append_right ms
        rwa [List.append_assoc] at this
      rw [srt_eq hp]
/-- the code of burying, and what is left -/
def buC (ss ds ms : List Int) : Int := if ms.length ≤ 120 ∧ ms.all (inR 0 ((ss.length : Int) - 1)) = true then (if incB (srt (ds ++ ms)) = true then 0 else 5) else 2
/-- a list, or a number, where the code is none -/
def kL (k : Int) (xs : List Int) : List Int := if k = 0 then xs else []
def kI (k x : Int) : Int := if k = 0 then x else 0
end Go.Proofs.YtaikfclgmkfooaaGreatDoor
