/-
  Contracts of the functions of chapter 8: BothAlive (impl).
-/
import Derived.Test.YtggfonpjmplmfaaJ4
set_option linter.unusedSimpArgs false
set_option linter.unusedVariables false
namespace Go.Proofs.Ytggfonpjmplmfaa
open Go.RowKit
theorem prC_split {f x : Int} {n : Nat} {xs : List Int} {g y : Int} {m : Nat} {ys : List Int} {t : Bool} (h : prC f x n xs g y m ys t = 0) : okTP f n xs ∧ okTP g m ys ∧ (f ≤ x ∧ x ≤ 100) ∧ (g ≤ y ∧ y ≤ 150) ∧ t = true ∧ lv f n xs x ≠ 0 ∧ lv g m ys y ≠ 0 := by
  unfold prC at h
  split at h
  · next h1 =>
    split at h
    · next h2 =>
      split at h
      · exact absurd h (by decide)
      · next h3 =>
        have h4 := h2.1
        simp only [inPB, Bool.and_eq_true, inR_iff] at h4
        exact ⟨okT_t.1 h1.1, okT_t.1 h1.2, by omega, by omega, h2.2, fun e => h3 (.inl e), fun e => h3 (.inr e)⟩
    · exact absurd h (by decide)
  · exact absurd h (by decide)
theorem mul_bd {a b : Int} (ha : 0 ≤ a ∧ a ≤ 1000000) (hb : 0 ≤ b ∧ b ≤ 1000000) : 0 ≤ a * b ∧ a * b ≤ 1000000000000 :=
  ⟨Int.mul_nonneg ha.1 hb.1, Int.le_trans (Int.mul_le_mul ha.2 hb.2 hb.1 (by omega)) (by omega)⟩
noncomputable def baV (f x : Int) (n : Nat) (xs : List Int) (g y : Int) (m : Nat) (ys : List Int) (z : Int) : Value :=
  if prC f x n xs g y m ys (inR 0 150 z) = 0 then .tuple #[.int .i64 (fr (lv f n xs (x + z) * lv g m ys (y + z)) (lv f n xs x * lv g m ys y) (lv f n xs (x + z) * lv g m ys (y + z))), .int .i64 (fr (lv f n xs (x + z) * lv g m ys (y + z)) (lv f n xs x * lv g m ys y) (lv f n xs x * lv g m ys y)), .int .i64 0]
  else .tuple #[.int .i64 0, .int .i64 0, .int .i64 (prC f x n xs g y m ys (inR 0 150 z))]
theorem baV_shape (f x : Int) (n : Nat) (xs : List Int) (g y : Int) (m : Nat) (ys : List Int) (z : Int) : ∃ a b k, baV f x n xs g y m ys z = .tuple #[.int .i64 a, .int .i64 b, .int .i64 k] := by
  unfold baV
  split
  · exact ⟨_, _, _, rfl⟩
  · exact ⟨_, _, _, rfl⟩
set_option maxHeartbeats 2000000 in
theorem iBoth_any (f x : Int) (A : Option Addr) (n c : Nat) (xs : List Int) (g y : Int) (B : Option Addr) (m d : Nat) (ys : List Int) (z : Int) (w : World) (h : RdI w w.heap.size A n xs) (hc : n ≤ c) (hcm : c ≤ maxLen) (hn : n ≤ 1048576) (h' : RdI w w.heap.size B m ys) (hd : m ≤ d) (hdm : d ≤ maxLen) (hm : m ≤ 1048576) : Calls Try.prog 26 #[.agg #[.int .i64 f, .slice A n c], .int .i64 x, .agg #[.int .i64 g, .slice B m d], .int .i64 y, .int .i64 z] w fun e w' => e = .returned (baV f x n xs g y m ys z) ∧ Below w.heap.size w w' := by
  have HC := fun W (hB : Below w.heap.size w W) => iPair_any f x A n c xs g y B m d ys z W ((h.below hB).more hB.size) hc hcm hn ((h'.below hB).more hB.size) hd hdm hm
  obtain ⟨W0, hW0⟩ : ∃ W0 : World, W0 = (w.alloc (.cells #[.int .i64 f, .slice A n c] 28)).alloc (.cells #[.int .i64 g, .slice B m d] 28) := ⟨_, rfl⟩
  have hB0 : Below w.heap.size w W0 := by rw [hW0]; exact ((Below.refl _ _).alloc (Nat.le_refl _) _).alloc (by simp) _
  have hs0 : W0.heap.size = w.heap.size + 1 + 1 := by rw [hW0]; simp
  have c0 : W0.cell? ⟨w.heap.size, 0, none⟩ = some (.int .i64 f) := by rw [hW0]; simp [go_sem]
  have c1 : W0.cell? ⟨w.heap.size, 1, none⟩ = some (.slice A n c) := by rw [hW0]; simp [go_sem]
  have c2 : W0.cell? ⟨w.heap.size + 1, 0, none⟩ = some (.int .i64 g) := by rw [hW0]; simp [go_sem]
  have c3 : W0.cell? ⟨w.heap.size + 1, 1, none⟩ = some (.slice B m d) := by rw [hW0]; simp [go_sem]
  have hs1 : w.heap.size < W0.heap.size := by omega
  have hs2 : w.heap.size + 1 < W0.heap.size := by omega
  clear hs0
  by_cases e : prC f x n xs g y m ys (inR 0 150 z) = 0
  · obtain ⟨hT, hU, hx, hy, hz, e5, e6⟩ := prC_split e
    have hz := inR_iff.1 hz
    have hf0 := hT.1
    have hg0 := hU.1
    have HQ : Hid (baV f x n xs g y m ys z = _) := if_pos e
    have L1 := Lib.hid (fun W (hB : Below w.heap.size w W) => iLives_any f A n c xs x W ((h.below hB).more hB.size) hT.1 hT.2.1.2 ⟨by omega, by omega⟩)
    have L2 := Lib.hid (fun W (hB : Below w.heap.size w W) => iLives_any g B m d ys y W ((h'.below hB).more hB.size) hU.1 hU.2.1.2 ⟨by omega, by omega⟩)
    have L3 := Lib.hid (fun W (hB : Below w.heap.size w W) => iLives_any f A n c xs (x + z) W ((h.below hB).more hB.size) hT.1 hT.2.1.2 ⟨by omega, by omega⟩)
    have L4 := Lib.hid (fun W (hB : Below w.heap.size w W) => iLives_any g B m d ys (y + z) W ((h'.below hB).more hB.size) hU.1 hU.2.1.2 ⟨by omega, by omega⟩)
    have b1 := lv_bd hT (age := x) (by omega)
    have b2 := lv_bd hU (age := y) (by omega)
    have b3 := lv_bd hT (age := x + z) (by omega)
    have b4 := lv_bd hU (age := y + z) (by omega)
    rw [e] at HC
    have HC := Lib.hid HC
    clear h h' e hT hU
    generalize lv f n xs x = X at *
    generalize lv g m ys y = Y at *
    generalize lv f n xs (x + z) = P at *
    generalize lv g m ys (y + z) = Q at *
    have m1 := mul_bd b1 b2
    have m2 := mul_bd b3 b4
    have m3 : 0 < X * Y := Int.mul_pos (by omega) (by omega)
    have q1 := IntWalk.i64_in (X * Y) (by omega)
    have q2 := IntWalk.i64_in (P * Q) (by omega)
    have q3 := IntWalk.i64_in (x + z) (by omega)
    have q4 := IntWalk.i64_in (y + z) (by omega)
    have HX := Lib.hid (fun W => iFr_any (P * Q) (X * Y) W (by omega) (by omega))
    go_enter Try.func26, Try.ntmps26
    go_upto_region 1 with fail
    rw [← hW0]
    clear hW0
    go_wp2_with (go_at_call 62; (with_reducible refine Calls.mono (HC.out _ ?_) ?_); (first | exact hB0 | exact hW1 | exact hW2 | exact hW3 | exact hW4); rintro ee w1 ⟨rfl, hb1⟩; obtain ⟨hc1, hf1⟩ := bcell hb1; have hB1 := bel_step (w := W0) (by first | exact Below.refl _ _ | exact hB1 | exact hB2 | exact hB3 | exact hB4) hb1; have hy1 : W0.heap.size ≤ w1.heap.size := hB1.size; have hW1 := bel_step hB0 hB1; have hv1 : w.heap.size < w1.heap.size := Nat.lt_of_lt_of_le hs1 hy1; have hx1 : w.heap.size + 1 < w1.heap.size := Nat.lt_of_lt_of_le hs2 hy1)
    have d0 := (hB1.cell (p := ⟨w.heap.size, 0, none⟩) hs1).trans c0
    have d1 := (hB1.cell (p := ⟨w.heap.size, 1, none⟩) hs1).trans c1
    have d2 := (hB1.cell (p := ⟨w.heap.size + 1, 0, none⟩) hs2).trans c2
    have d3 := (hB1.cell (p := ⟨w.heap.size + 1, 1, none⟩) hs2).trans c3
    clear hc1 hf1
    go_region_held3 (fun W' => Below w1.heap.size w1 W' ∧ ∀ b o, b < w1.heap.size → W'.cell? ⟨b, o, none⟩ = w1.cell? ⟨b, o, none⟩) (first | exact bS (Below.refl _ _).drew | exact bS hb5 | exact bS hb9 | exact bS hb8 | exact bS hb7 | exact bS hb6) (first | (go_at_call 52; (with_reducible refine Calls.mono (L3.out _ ?_) ?_); (first | exact hW1.drew | exact hW6 | exact hW7 | exact hW8 | exact hW9); rintro ee w6 ⟨rfl, hb6⟩; have hb6 := bel_step (w := w1) (by first | exact (Below.refl _ _).drew | exact hb6 | exact hb7 | exact hb8 | exact hb9) hb6; have hW6 := bel_step hW1 hb6) | (go_at_call 52; (with_reducible refine Calls.mono (L4.out _ ?_) ?_); (first | exact hW1.drew | exact hW6 | exact hW7 | exact hW8 | exact hW9); rintro ee w7 ⟨rfl, hb7⟩; have hb7 := bel_step (w := w1) (by first | exact (Below.refl _ _).drew | exact hb6 | exact hb7 | exact hb8 | exact hb9) hb7; have hW7 := bel_step hW1 hb7) | (go_at_call 52; (with_reducible refine Calls.mono (L1.out _ ?_) ?_); (first | exact hW1.drew | exact hW6 | exact hW7 | exact hW8 | exact hW9); rintro ee w8 ⟨rfl, hb8⟩; have hb8 := bel_step (w := w1) (by first | exact (Below.refl _ _).drew | exact hb6 | exact hb7 | exact hb8 | exact hb9) hb8; have hW8 := bel_step hW1 hb8) | (go_at_call 52; (with_reducible refine Calls.mono (L2.out _ ?_) ?_); (first | exact hW1.drew | exact hW6 | exact hW7 | exact hW8 | exact hW9); rintro ee w9 ⟨rfl, hb9⟩; have hb9 := bel_step (w := w1) (by first | exact (Below.refl _ _).drew | exact hb6 | exact hb7 | exact hb8 | exact hb9) hb9; have hW9 := bel_step hW1 hb9) | (go_at_call 59; (with_reducible refine Calls.mono (HX.out _) ?_); rintro ee w5 ⟨rfl, hb5⟩; have hb5 := bel_step (w := w1) (by first | exact hb9 | exact hb8 | exact hb7 | exact hb6) hb5; have hW5 := bel_step hW1 hb5))
    go_wp2
    go_returns
    exact ⟨by rw [HQ.out]; rfl, hW5⟩
  · have HQ : Hid (baV f x n xs g y m ys z = _) := if_neg e
    clear h h'
    generalize prC f x n xs g y m ys (inR 0 150 z) = k at *
    have HC := Lib.hid HC
    go_enter Try.func26, Try.ntmps26
    go_upto_region 1 with fail
    rw [← hW0]
    clear hW0
    go_wp2_with (go_at_call 62; (with_reducible refine Calls.mono (HC.out _ ?_) ?_); (first | exact hB0 | exact hW1 | exact hW2 | exact hW3 | exact hW4); rintro ee w1 ⟨rfl, hb1⟩; obtain ⟨hc1, hf1⟩ := bcell hb1; have hB1 := bel_step (w := W0) (by first | exact Below.refl _ _ | exact hB1 | exact hB2 | exact hB3 | exact hB4) hb1; have hy1 : W0.heap.size ≤ w1.heap.size := hB1.size; have hW1 := bel_step hB0 hB1; have hv1 : w.heap.size < w1.heap.size := Nat.lt_of_lt_of_le hs1 hy1; have hx1 : w.heap.size + 1 < w1.heap.size := Nat.lt_of_lt_of_le hs2 hy1)
    (go_returns; exact ⟨by rw [HQ.out]; rfl, by first | exact hW5 | exact hW4 | exact hW3 | exact hW2 | exact hW1 | (go_grown; done)⟩)
end Go.Proofs.Ytggfonpjmplmfaa
