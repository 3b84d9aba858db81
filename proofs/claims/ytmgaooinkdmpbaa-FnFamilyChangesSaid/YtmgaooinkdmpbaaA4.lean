/-
  Contracts of the functions of chapter 14: what a family is.
-/
import Derived.Test.YtmgaooinkdmpbaaQ
import Derived.Test.YtmgaooinkdmpbaaI3
set_option linter.unusedSimpArgs false
set_option linter.unusedVariables false
namespace Go.Proofs.Ytmgaooinkdmpbaa
open Go.RowKit
def gv (xs : List Int) (i : Nat) : Int := xs.getD i 0
theorem gv_at {xs : List Int} {k : Nat} {x : Int} (h : xs[k]? = some x) : gv xs k = x := by simp [gv, List.getD, h]
theorem RdI.atG {w : World} {B : Nat} {A : Option Addr} {n : Nat} {xs : List Int} {k : Nat} (h : RdI w B A n xs) (hk : k < n) :
    ∃ ad, A = some ad ∧ ad.block < B ∧ w.cell? (ad.add k) = some (.int .i64 (gv xs k)) := by
  obtain ⟨ad, z, h1, h2, h3, h4⟩ := RdI.atI h hk
  exact ⟨ad, h1, h2, by rw [gv_at h3]; exact h4⟩
/-- the children of a family: months in order, none behind the ninth month of the death -/
def kidsP (d : Int) (n : Nat) (xs : List Int) : Prop := ∀ i, i < n → (0 ≤ gv xs i ∧ gv xs i ≤ 35999) ∧ gv xs i ≤ d + 9 ∧ (0 < i → gv xs (i - 1) ≤ gv xs i)
/-- what a family is -/
def famP (d m wd lf : Int) (n : Nat) (xs : List Int) : Prop :=
  (0 ≤ d ∧ d ≤ 35999) ∧ (m = -1 ∨ 0 ≤ m ∧ m ≤ 35999) ∧ (wd = -1 ∨ 0 ≤ wd ∧ wd ≤ 35999) ∧ (lf = -1 ∨ 0 ≤ lf ∧ lf ≤ 35999) ∧ n ≤ 12 ∧ (wd = -1 ∨ wd = d + 1 ∧ m ≠ -1 ∧ m ≤ d) ∧ (lf = -1 ∨ wd ≠ -1 ∧ wd ≤ lf) ∧ kidsP d n xs
noncomputable def famT (d m wd lf : Int) (n : Nat) (xs : List Int) : Bool := @decide (famP d m wd lf n xs) (Classical.propDecidable _)
theorem famT_t {d m wd lf : Int} {n : Nat} {xs : List Int} : famT d m wd lf n xs = true ↔ famP d m wd lf n xs := by unfold famT; exact @decide_eq_true_iff _ (Classical.propDecidable _)
theorem fam_no {d m wd lf : Int} {n : Nat} {xs : List Int} (h : (0 ≤ d ∧ d ≤ 35999) → (m = -1 ∨ 0 ≤ m ∧ m ≤ 35999) → (wd = -1 ∨ 0 ≤ wd ∧ wd ≤ 35999) → (lf = -1 ∨ 0 ≤ lf ∧ lf ≤ 35999) → n ≤ 12 → (wd = -1 ∨ wd = d + 1 ∧ m ≠ -1 ∧ m ≤ d) → (lf = -1 ∨ wd ≠ -1 ∧ wd ≤ lf) → False) : famT d m wd lf n xs = false := by
  cases e : famT d m wd lf n xs with
  | false => rfl
  | true =>
    obtain ⟨h1, h2, h3, h4, h5, h6, h7, _⟩ := famT_t.1 e
    exact absurd (h h1 h2 h3 h4 h5 h6 h7) (fun h => h)
theorem fam_kid {d m wd lf : Int} {n : Nat} {xs : List Int} (h : ¬ kidsP d n xs) : famT d m wd lf n xs = false := by
  cases e : famT d m wd lf n xs with
  | false => rfl
  | true => exact absurd (famT_t.1 e).2.2.2.2.2.2.2 h
theorem fam_yes {d m wd lf : Int} {n : Nat} {xs : List Int} (h : (0 ≤ d ∧ d ≤ 35999) ∧ (m = -1 ∨ 0 ≤ m ∧ m ≤ 35999) ∧ (wd = -1 ∨ 0 ≤ wd ∧ wd ≤ 35999) ∧ (lf = -1 ∨ 0 ≤ lf ∧ lf ≤ 35999) ∧ n ≤ 12 ∧ (wd = -1 ∨ wd = d + 1 ∧ m ≠ -1 ∧ m ≤ d) ∧ (lf = -1 ∨ wd ≠ -1 ∧ wd ≤ lf)) (hk : kidsP d n xs) : famT d m wd lf n xs = true := by
  obtain ⟨h1, h2, h3, h4, h5, h6, h7⟩ := h
  exact famT_t.2 ⟨h1, h2, h3, h4, h5, h6, h7, hk⟩
/-- in order -/
def srtP (n : Nat) (xs : List Int) : Prop := ∀ i, i < n → 0 < i → gv xs (i - 1) ≤ gv xs i
noncomputable def srtT (n : Nat) (xs : List Int) : Bool := @decide (srtP n xs) (Classical.propDecidable _)
theorem srtT_t {n : Nat} {xs : List Int} : srtT n xs = true ↔ srtP n xs := by unfold srtT; exact @decide_eq_true_iff _ (Classical.propDecidable _)
theorem srtT_f {n : Nat} {xs : List Int} (h : ¬ srtP n xs) : Hid (srtT n xs = false) := by
  show _ = _
  cases e : srtT n xs with
  | false => rfl
  | true => exact absurd (srtT_t.1 e) h
theorem srtT_y {n : Nat} {xs : List Int} (h : srtP n xs) : Hid (srtT n xs = true) := srtT_t.2 h
theorem gv_get {xs : List Int} {i : Nat} (h : i < xs.length) : gv xs i = xs[i] := by simp [gv, List.getD, h]
/-- the two readings of the children -/
theorem kids_iff {d : Int} {n : Nat} {xs : List Int} (hl : xs.length = n) (M : Int) (hM : M = min 35999 (d + 9)) : (xs.all (inR 0 M) = true ∧ srtT n xs = true) ↔ kidsP d n xs := by
  subst hl hM
  rw [srtT_t, List.all_eq_true]
  constructor
  · rintro ⟨h1, h2⟩ i hi
    have h3 := inR_iff.1 (h1 _ (List.getElem_mem hi))
    rw [← gv_get hi] at h3
    exact ⟨by omega, by omega, fun h0 => h2 i hi h0⟩
  · intro h
    refine ⟨fun x hx => ?_, fun i hi h0 => (h i hi).2.2 h0⟩
    obtain ⟨i, hi, rfl⟩ := List.getElem_of_mem hx
    have h3 := h i hi
    rw [gv_get hi] at h3
    rw [inR_iff]
    omega
set_option maxHeartbeats 400000 in
theorem isNaN_any (x : Int) (w : World) : Calls Try.prog 71 #[.int .i64 x] w fun e w' => e = .returned (.bool false) ∧ w = w' := by
  go_enter Try.func71, Try.ntmps71
  go_wp2
  go_ret
  exact ⟨rfl, rfl⟩
set_option maxHeartbeats 400000 in
theorem less_any (x y : Int) (w : World) : Calls Try.prog 69 #[.int .i64 x, .int .i64 y] w fun e w' => e = .returned (.bool (decide (x < y))) ∧ w = w' := by
  go_enter Try.func69, Try.ntmps69
  go_wp2_with (go_at_call 71; (with_reducible refine (isNaN_any _ _).mono ?_); rintro ee w1 ⟨rfl, rfl⟩)
  go_ret
  exact ⟨rfl, rfl⟩
set_option maxHeartbeats 1000000 in
theorem isSorted_any (A : Option Addr) (n c : Nat) (xs : List Int) (w : World) (h : RdI w w.heap.size A n xs) (hn : n ≤ 1048576) : Calls Try.prog 62 #[.slice A n c] w fun e w' => e = .returned (.bool (srtT n xs)) ∧ Below w.heap.size w w' := by
  have H := Lib.hid h
  clear h
  go_enter Try.func62, Try.ntmps62
  go_wp2
  go_loopw [3] (fun i wr => ∃ i' : Int, i = .int .i64 i' ∧ -1 ≤ i' ∧ i' ≤ (n : Int) - 1 ∧ Hid (∀ j : Nat, i' < (j : Int) → j < n → 0 < j → gv xs (j - 1) ≤ gv xs j) ∧ Below w.heap.size w wr) (fun i _ => (intOf i).toNat)
  case atStart => exact ⟨_, rfl, by omega, by omega, fun j h1 h2 h3 => by omega, Below.refl _ _⟩
  case round =>
    obtain ⟨i', rfl, hi1, hi2, HB, hR⟩ := hrel
    by_cases h0 : 0 < i'
    · obtain ⟨k, rfl⟩ := Int.eq_ofNat_of_zero_le (show 0 ≤ i' by omega)
      obtain ⟨ad, rfl, hb, hx⟩ := RdI.atG (H.out.below hR) (k := k) (by omega)
      obtain ⟨ad', e', hb', hy⟩ := RdI.atG (H.out.below hR) (k := k - 1) (by omega)
      cases e'
      have c0 : ∀ x : InC wr, x.w.cell? (ad.add k) = some (.int .i64 (gv xs k)) := fun x => x.cell hx
      have c1 : ∀ x : InC wr, x.w.cell? (ad.add (k - 1)) = some (.int .i64 (gv xs (k - 1))) := fun x => x.cell hy
      have hk1 : ((k : Int) - 1) = ((k - 1 : Nat) : Int) := by omega
      have HL := fun W => less_any (gv xs k) (gv xs (k - 1)) W
      have hkn : (k : Int) < (n : Int) := by omega
      clear hx hy
      by_cases hq : gv xs k < gv xs (k - 1)
      · have HQ := srtT_f (n := n) (xs := xs) (fun h => by have := h k (by omega) (by omega); omega)
        rw [decide_eq_true hq] at HL
        generalize gv xs k = X at *
        generalize gv xs (k - 1) = Y at *
        clear hq
        go_wp2_with fail
        (refine wp_region_inC (by kernel_rfl) (by kernel_rfl) ?_; (repeat go_big_quiet_step ((go_at_call 69; with_reducible exact Calls.inC_same (HL _)))); refine wpQuiet_nil ?_; rintro w1 ⟨⟨_, hb1⟩, rfl⟩)
        go_wp2
        go_ret
        exact ⟨by rw [HQ.out]; rfl, bel_step hR hb1⟩
      · have HB2 : Hid (∀ j : Nat, (k : Int) - 1 < (j : Int) → j < n → 0 < j → gv xs (j - 1) ≤ gv xs j) := fun j h1 h2 h3 => by
          by_cases e : j = k
          · subst e; omega
          · exact HB.out j (by omega) h2 h3
        rw [decide_eq_false hq] at HL
        generalize gv xs k = X at *
        generalize gv xs (k - 1) = Y at *
        clear hq
        go_wp2_with fail
        (refine wp_region_inC (by kernel_rfl) (by kernel_rfl) ?_; (repeat go_big_quiet_step ((go_at_call 69; with_reducible exact Calls.inC_same (HL _)))); refine wpQuiet_nil ?_; rintro w1 ⟨⟨_, hb1⟩, rfl⟩)
        go_wp2
        go_roundw
        case rel => exact ⟨(k : Int) - 1, by first | rfl | go_num, by omega, by omega, HB2.out, bel_step hR hb1⟩
        case measure => simp [intOf]; omega
    · have HQ := srtT_y (n := n) (xs := xs) (fun j h1 h2 => HB.out j (by omega) h1 h2)
      go_wp2
      go_ret
      exact ⟨by rw [HQ.out]; rfl, hR⟩
end Go.Proofs.Ytmgaooinkdmpbaa
