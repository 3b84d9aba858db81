/-
  Chapter 14, for the law of changes: what changes and when, and what is over.
-/
import Derived.Test.YtmgaooinkdmpbaaR4
import Derived.Test.YtmgaooinkdmpbaaP4
import Derived.Test.YtmgaooinkdmpbaaI4
set_option linter.unusedSimpArgs false
set_option linter.unusedVariables false
namespace Go.Proofs.Ytmgaooinkdmpbaa
open Go.RowKit
theorem nxF_spec {d wd lf : Int} {xs : List Int} : ∀ (k : Nat) (y z : Int), nxF d wd lf xs y k = some z → y ≤ z ∧ z < y + k ∧ ∀ u, y ≤ u → u < z → difB d wd lf xs u = false := by
  intro k
  induction k with
  | zero => intro y z h; cases h
  | succ k ih =>
    intro y z h
    by_cases hd : difB d wd lf xs y = true
    · rw [nxF_hit hd (by omega)] at h
      injection h with h
      subst h
      exact ⟨Int.le_refl _, by omega, fun u h1 h2 => by omega⟩
    · have hd' : difB d wd lf xs y = false := by simpa using hd
      rw [nxF_miss hd' (by omega)] at h
      obtain ⟨h1, h2, h3⟩ := ih (y + 1) z (by simpa using h)
      refine ⟨by omega, by omega, fun u h4 h5 => ?_⟩
      by_cases he : u = y
      · rw [he]; exact hd'
      · exact h3 u (by omega) h5
theorem dif_split {d wd lf : Int} {xs : List Int} {y : Int} (h : difB d wd lf xs y = false) : widB wd lf y = widB wd lf (y - 1) ∧ orpN d y xs = orpN d (y - 1) xs := by
  unfold difB at h
  simp only [Bool.or_eq_false_iff, bne_eq_false_iff_eq] at h
  exact h
theorem same_until {d wd lf : Int} {xs : List Int} {a : Int} : ∀ k : Nat, (∀ u, a < u → u ≤ a + k → difB d wd lf xs u = false) → widB wd lf (a + k) = widB wd lf a ∧ orpN d (a + k) xs = orpN d a xs := by
  intro k
  induction k with
  | zero => intro _; simp
  | succ k ih =>
    intro h
    have h1 := ih (fun u h2 h3 => h u h2 (by omega))
    have h2 := dif_split (h (a + ((k + 1 : Nat) : Int)) (by omega) (by omega))
    rw [show a + ((k + 1 : Nat) : Int) - 1 = a + k by omega] at h2
    exact ⟨h2.1.trans h1.1, h2.2.trans h1.2⟩
/-- the months up to the next change are alike -/
theorem next_pack (d m wd lf : Int) (n : Nat) (xs : List Int) (x : Int) : ∃ (v c : Int) (r : Bool) (k : Int), nxV d m wd lf n xs x = v ∧ nxC d m wd lf n xs x = c ∧ ((c != 0) = true ∨ (c = 0 ∧ (0 ≤ x ∧ x < v ∧ v ≤ 36000) ∧ ∀ mid, x ≤ mid → mid < v → gwV d m wd lf n xs mid = .tuple #[.bool r, .int .i64 0] ∧ orV d m wd lf n xs mid = .tuple #[.int .i64 k, .int .i64 0])) := by
  by_cases h : faC d m wd lf n xs (inR 0 35999 x) = 0
  · cases hn : nxF d wd lf xs (x + 1) (35999 - x).toNat with
    | none =>
      have := (nx_none h hn).out
      exact ⟨_, _, false, 0, this.1, this.2, .inl rfl⟩
    | some y =>
      have h1 := (nx_some h hn).out
      obtain ⟨h2, h3, h4⟩ := nxF_spec _ _ _ hn
      have hf : famT d m wd lf n xs = true ∧ inR 0 35999 x = true := by
        rcases faC_cases d m wd lf n xs (inR 0 35999 x) with ⟨_, hf, hb⟩ | ⟨h0, _, _⟩ | ⟨h0, _⟩
        · exact ⟨famT_t.2 hf, hb⟩
        · rw [h] at h0; cases h0
        · rw [h] at h0; cases h0
      have hx := inR_iff.1 hf.2
      refine ⟨y, 0, widB wd lf x, orpN d x xs, h1.1, h1.2, .inr ⟨rfl, by omega, fun mid h5 h6 => ?_⟩⟩
      have hm : faC d m wd lf n xs (inR 0 35999 mid) = 0 := by
        unfold faC
        rw [if_pos hf.1, inR_iff.2 (show 0 ≤ mid ∧ mid ≤ 35999 by omega)]
        rfl
      have hs := same_until (d := d) (wd := wd) (lf := lf) (xs := xs) (a := x) (mid - x).toNat (fun u h7 h8 => h4 u (by omega) (by omega))
      rw [show x + (((mid - x).toNat : Nat) : Int) = mid by omega] at hs
      exact ⟨by unfold gwV; rw [if_pos hm, hs.1], by unfold orV; rw [if_pos hm, hs.2]⟩
  · have := (nx_bad h).out
    refine ⟨_, _, false, 0, this.1, this.2, .inl ?_⟩
    simpa using h
theorem endK_ge (xs : List Int) : ∀ e : Int, e ≤ endK e xs ∧ ∀ b ∈ xs, b + 192 ≤ endK e xs := by
  induction xs with
  | nil => intro e; exact ⟨Int.le_refl _, fun b hb => by cases hb⟩
  | cons z r ih =>
    intro e
    have h := ih (max e (z + 192))
    refine ⟨Int.le_trans (Int.le_max_left _ _) h.1, fun b hb => ?_⟩
    rcases List.mem_cons.1 hb with rfl | hb
    · exact Int.le_trans (Int.le_max_right _ _) h.1
    · exact h.2 b hb
/-- nothing is paid at the end and behind it -/
theorem over {d wd lf : Int} {xs : List Int} {y : Int} (hw : wd = -1 ∨ lf ≠ -1) (hy : epE d lf xs ≤ y) : widB wd lf y = false ∧ orpN d y xs = 0 := by
  have h1 := endK_ge xs (max (d + 1) lf)
  unfold epE at hy
  constructor
  · unfold widB
    rcases hw with rfl | hw
    · simp
    · rw [decide_eq_false hw, decide_eq_false (show ¬ y < lf by have := Int.le_max_right (d + 1) lf; omega)]
      simp
  · unfold orpN
    have : xs.countP (orpB d y) = 0 := by
      rw [List.countP_eq_zero]
      intro b hb
      have := h1.2 b hb
      unfold orpB
      rw [decide_eq_false (show ¬ y - b < 192 by omega)]
      simp
    rw [this]
    rfl
theorem nxF_none {d wd lf : Int} {xs : List Int} (hw : wd = -1 ∨ lf ≠ -1) : ∀ (k : Nat) (y : Int), epE d lf xs < y → nxF d wd lf xs y k = none := by
  intro k
  induction k with
  | zero => intro y _; rfl
  | succ k ih =>
    intro y hy
    have h1 := over (d := d) (xs := xs) hw (y := y) (by omega)
    have h2 := over (d := d) (xs := xs) hw (y := y - 1) (by omega)
    have hd : difB d wd lf xs y = false := by unfold difB; rw [h1.1, h1.2, h2.1, h2.2]; rfl
    rw [nxF_miss hd (by omega)]
    exact ih _ (by omega)
theorem end_pack (d m wd lf : Int) (n : Nat) (xs : List Int) : ∃ (v c : Int), epV d m wd lf n xs = v ∧ epC d m wd lf n xs = c ∧ ((c == 0) = false ∨ (c = 0 ∧ peV d m wd lf n xs v 1 1 = .tuple #[.int .i64 0, .int .i64 0] ∧ nxC d m wd lf n xs v = 4)) := by
  cases hf : famT d m wd lf n xs with
  | false =>
    have := (ep_1 hf).out
    exact ⟨_, _, this.1, this.2, .inl rfl⟩
  | true =>
    by_cases hw : wd = -1 ∨ lf ≠ -1
    · cases hb : inR 0 35999 (epE d lf xs) with
      | false =>
        have := (ep_3 hf hw hb).out
        exact ⟨_, _, this.1, this.2, .inl rfl⟩
      | true =>
        have := (ep_0 hf hw hb).out
        refine ⟨_, _, this.1, this.2, .inr ⟨rfl, ?_, ?_⟩⟩
        · have h0 : faC d m wd lf n xs ((inR 0 35999 (epE d lf xs) && (inR 0 1000000 1 && inR 0 1000000 1))) = 0 := by unfold faC; rw [if_pos hf, hb]; rfl
          have h1 := over (d := d) (xs := xs) hw (Int.le_refl (epE d lf xs))
          unfold peV penN
          rw [if_pos h0, h1.1, h1.2]
          rfl
        · have h0 : faC d m wd lf n xs (inR 0 35999 (epE d lf xs)) = 0 := by unfold faC; rw [if_pos hf, hb]; rfl
          exact (nx_none h0 (nxF_none hw _ _ (by omega))).out.2
    · have := (ep_4 hf (by omega) (by omega)).out
      exact ⟨_, _, this.1, this.2, .inl rfl⟩
/-- who marries again gets nothing from then on -/
theorem rem_pack {d m wd lf : Int} {n : Nat} {xs : List Int} {x : Int} (h : rmC d m wd lf n xs x = 0) : famT d m wd x n xs = true ∧ gwV d m wd x n xs x = .tuple #[.bool false, .int .i64 0] := by
  unfold rmC at h
  split at h
  · next h0 =>
    split at h
    · next hq =>
      rcases faC_cases d m wd lf n xs (inR 0 35999 x) with ⟨_, hf, hb⟩ | ⟨h1, _, _⟩ | ⟨h1, _⟩
      · have hx := inR_iff.1 hb
        unfold widB at hq
        simp only [Bool.and_eq_true, decide_eq_true_eq] at hq
        have hF : famT d m wd x n xs = true := by
          rw [famT_t] at *
          unfold famP at *
          obtain ⟨a1, a2, a3, a4, a5, a6, a7, a8⟩ := hf
          refine ⟨a1, a2, a3, .inr hx, a5, a6, ?_, a8⟩
          omega
        refine ⟨hF, ?_⟩
        have h2 : faC d m wd x n xs (inR 0 35999 x) = 0 := by unfold faC; rw [if_pos hF, hb]; rfl
        unfold gwV
        rw [if_pos h2]
        have : widB wd x x = false := by
          unfold widB
          rw [decide_eq_false (show ¬ x = -1 by omega), decide_eq_false (show ¬ x < x by omega)]
          simp
        rw [this]
      · rw [h0] at h1; cases h1
      · rw [h0] at h1; cases h1
    · cases h
  · next h0 => exact absurd h h0
end Go.Proofs.Ytmgaooinkdmpbaa
