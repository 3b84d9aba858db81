/-
  Contracts of the functions of chapter 8: the chances (the reference's side).
-/
import Derived.Test.YtggfonpjmplmfaaJ5
set_option linter.unusedSimpArgs false
set_option linter.unusedVariables false
namespace Go.Proofs.Ytggfonpjmplmfaa
open Go.RowKit
def chV (a b c d : Int) : Value := .tuple #[.int .i64 (c * d), .int .i64 (a * b - (a - c) * (b - d)), .int .i64 (a * b)]
theorem okT_anti {f : Int} {n : Nat} {xs : List Int} (h : okTP f n xs) (i : Nat) : ∀ k, i + k < n → gv xs (i + k) ≤ gv xs i := by
  have hm := okT_mono h
  obtain ⟨_, h2, h3, h4, _, h6⟩ := h
  intro k
  induction k with
  | zero => intro _; exact Int.le_refl _
  | succ k ih =>
    intro hk
    have h7 := ih (by omega)
    by_cases h8 : i + k + 1 < n - 1
    · have h9 := (h6 (i + k + 1) h8).2 (by omega)
      rw [Nat.add_sub_cancel] at h9
      exact Int.le_trans h9 h7
    · have h9 : i + (k + 1) = n - 1 := by omega
      rw [h9, h4]
      exact (hm i (by omega)).1
theorem lv_anti {f : Int} {n : Nat} {xs : List Int} (h : okTP f n xs) {x z : Int} (hx : f ≤ x) (hz : 0 ≤ z) : lv f n xs (x + z) ≤ lv f n xs x := by
  by_cases h1 : x + z < f + n
  · have e1 : lv f n xs (x + z) = gv xs (x + z - f).toNat := if_pos h1
    have e2 : lv f n xs x = gv xs (x - f).toNat := if_pos (by omega)
    have e3 : (x + z - f).toNat = (x - f).toNat + z.toNat := by omega
    rw [e1, e2, e3]
    exact okT_anti h _ _ (by omega)
  · have e1 : lv f n xs (x + z) = 0 := if_neg h1
    rw [e1]
    exact (lv_bd h hx).1
set_option maxHeartbeats 2000000 in
theorem sCh_any (f x : Int) (A : Option Addr) (n c : Nat) (xs : List Int) (g y : Int) (B : Option Addr) (m d : Nat) (ys : List Int) (z : Int) (w : World) (h : RdI w w.heap.size A n xs) (h' : RdI w w.heap.size B m ys) (hT : okTP f n xs) (hU : okTP g m ys) (hx : f ≤ x ∧ x ≤ 150) (hy : g ≤ y ∧ y ≤ 150) (hz : 0 ≤ z ∧ z ≤ 150) : Calls Try.prog 61 #[.agg #[.int .i64 f, .slice A n c], .int .i64 x, .agg #[.int .i64 g, .slice B m d], .int .i64 y, .int .i64 z] w fun e w' => e = .returned (chV (lv f n xs x) (lv g m ys y) (lv f n xs (x + z)) (lv g m ys (y + z))) ∧ Below w.heap.size w w' := by
  have hf0 := hT.1
  have hg0 := hU.1
  have L1 := Lib.hid (fun W (hB : Below w.heap.size w W) => sLives_any f A n c xs x W ((h.below hB).more hB.size) hT.1 hT.2.1.2 ⟨by omega, by omega⟩)
  have L2 := Lib.hid (fun W (hB : Below w.heap.size w W) => sLives_any g B m d ys y W ((h'.below hB).more hB.size) hU.1 hU.2.1.2 ⟨by omega, by omega⟩)
  have L3 := Lib.hid (fun W (hB : Below w.heap.size w W) => sLives_any f A n c xs (x + z) W ((h.below hB).more hB.size) hT.1 hT.2.1.2 ⟨by omega, by omega⟩)
  have L4 := Lib.hid (fun W (hB : Below w.heap.size w W) => sLives_any g B m d ys (y + z) W ((h'.below hB).more hB.size) hU.1 hU.2.1.2 ⟨by omega, by omega⟩)
  have b1 := lv_bd hT (age := x) (by omega)
  have b2 := lv_bd hU (age := y) (by omega)
  have b3 := lv_bd hT (age := x + z) (by omega)
  have b4 := lv_bd hU (age := y + z) (by omega)
  have a1 := lv_anti hT (x := x) (z := z) (by omega) (by omega)
  have a2 := lv_anti hU (x := y) (z := z) (by omega) (by omega)
  obtain ⟨W0, hW0⟩ : ∃ W0 : World, W0 = (w.alloc (.cells #[.int .i64 f, .slice A n c] 28)).alloc (.cells #[.int .i64 g, .slice B m d] 28) := ⟨_, rfl⟩
  have hB0 : Below w.heap.size w W0 := by rw [hW0]; exact ((Below.refl _ _).alloc (Nat.le_refl _) _).alloc (by simp) _
  have hs0 : W0.heap.size = w.heap.size + 1 + 1 := by rw [hW0]; simp
  have c0 : W0.cell? ⟨w.heap.size, 0, none⟩ = some (.int .i64 f) := by rw [hW0]; simp [go_sem]
  have c1 : W0.cell? ⟨w.heap.size, 1, none⟩ = some (.slice A n c) := by rw [hW0]; simp [go_sem]
  have c2 : W0.cell? ⟨w.heap.size + 1, 0, none⟩ = some (.int .i64 g) := by rw [hW0]; simp [go_sem]
  have c3 : W0.cell? ⟨w.heap.size + 1, 1, none⟩ = some (.slice B m d) := by rw [hW0]; simp [go_sem]
  have hs1 : w.heap.size < W0.heap.size := by omega
  have hs2 : w.heap.size + 1 < W0.heap.size := by omega
  clear hs0
  clear h h' hT hU
  generalize lv f n xs x = X at *
  generalize lv g m ys y = Y at *
  generalize lv f n xs (x + z) = P at *
  generalize lv g m ys (y + z) = Q at *
  have m1 := mul_bd b1 b2
  have m2 := mul_bd b3 b4
  have m3 := mul_bd (a := X - P) (b := Y - Q) (by omega) (by omega)
  have q1 := IntWalk.i64_in (X * Y) (by omega)
  have q2 := IntWalk.i64_in (P * Q) (by omega)
  have q3 := IntWalk.i64_in (x + z) (by omega)
  have q4 := IntWalk.i64_in (y + z) (by omega)
  have q5 := IntWalk.i64_in (X - P) (by omega)
  have q6 := IntWalk.i64_in (Y - Q) (by omega)
  have q7 := IntWalk.i64_in ((X - P) * (Y - Q)) (by omega)
  have q8 := IntWalk.i64_in (X * Y - (X - P) * (Y - Q)) (by omega)
  go_enter Try.func61, Try.ntmps61
  go_upto_region 1 with fail
  rw [← hW0]
  clear hW0
  go_region_held3 (fun W' => Below W0.heap.size W0 W' ∧ ∀ b o, b < W0.heap.size → W'.cell? ⟨b, o, none⟩ = W0.cell? ⟨b, o, none⟩) (first | exact bS (Below.refl _ _).drew | exact bS hb6 | exact bS hb7) (first | (go_at_call 49; (with_reducible refine Calls.mono (L1.out _ ?_) ?_); (first | exact hB0.drew | exact hW6 | exact hW7); rintro ee w6 ⟨rfl, hb6⟩; have hb6 := bel_step (w := W0) (by first | exact (Below.refl _ _).drew | exact hb6 | exact hb7) hb6; have hW6 := bel_step hB0 hb6) | (go_at_call 49; (with_reducible refine Calls.mono (L2.out _ ?_) ?_); (first | exact hB0.drew | exact hW6 | exact hW7); rintro ee w7 ⟨rfl, hb7⟩; have hb7 := bel_step (w := W0) (by first | exact (Below.refl _ _).drew | exact hb6 | exact hb7) hb7; have hW7 := bel_step hB0 hb7))
  have d0 := (hb7.cell (p := ⟨w.heap.size, 0, none⟩) hs1).trans c0
  have d1 := (hb7.cell (p := ⟨w.heap.size, 1, none⟩) hs1).trans c1
  have d2 := (hb7.cell (p := ⟨w.heap.size + 1, 0, none⟩) hs2).trans c2
  have d3 := (hb7.cell (p := ⟨w.heap.size + 1, 1, none⟩) hs2).trans c3
  have hs3 : w.heap.size < w7.heap.size := Nat.lt_of_lt_of_le hs1 hb7.size
  have hs4 : w.heap.size + 1 < w7.heap.size := Nat.lt_of_lt_of_le hs2 hb7.size
  clear c0 c1 c2 c3 hs1 hs2
  go_wp2_with fail
  go_region_held3 (fun W' => Below w7.heap.size w7 W' ∧ ∀ b o, b < w7.heap.size → W'.cell? ⟨b, o, none⟩ = w7.cell? ⟨b, o, none⟩) (first | exact bS (Below.refl _ _).drew | exact bS hb8 | exact bS hb9) (first | (go_at_call 49; (with_reducible refine Calls.mono (L3.out _ ?_) ?_); (first | exact hW7.drew | exact hW8); rintro ee w8 ⟨rfl, hb8⟩; have hb8 := bel_step (w := w7) (by first | exact (Below.refl _ _).drew | exact hb8) hb8; have hW8 := bel_step hW7 hb8) | (go_at_call 49; (with_reducible refine Calls.mono (L4.out _ ?_) ?_); (first | exact hW7.drew | exact hW8); rintro ee w9 ⟨rfl, hb9⟩; have hb9 := bel_step (w := w7) (by first | exact (Below.refl _ _).drew | exact hb8) hb9; have hW9 := bel_step hW7 hb9))
  go_wp2
  go_returns
  exact ⟨rfl, hW9⟩
end Go.Proofs.Ytggfonpjmplmfaa
