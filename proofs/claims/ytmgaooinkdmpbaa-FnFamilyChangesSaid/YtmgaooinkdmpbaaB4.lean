/-
  Contracts of the functions of chapter 14: IsFamily.
-/
import Derived.Test.YtmgaooinkdmpbaaA4
set_option linter.unusedSimpArgs false
set_option linter.unusedVariables false
namespace Go.Proofs.Ytmgaooinkdmpbaa
open Go.RowKit
theorem opC (x : Int) : ((x != -1) = false ∧ Hid (x = -1)) ∨ ((x != -1) = true ∧ inR 0 35999 x = true) ∨ ((x != -1) = true ∧ inR 0 35999 x = false) := by
  by_cases h : x = -1
  · exact .inl ⟨by simp [h], h⟩
  · cases e : inR 0 35999 x with
    | true => exact .inr (.inl ⟨by simp [h], rfl⟩)
    | false => exact .inr (.inr ⟨by simp [h], rfl⟩)
theorem opC_no {x : Int} (h : (x != -1) = true) (h2 : inR 0 35999 x = false) : Hid (¬ (x = -1 ∨ 0 ≤ x ∧ x ≤ 35999)) := by
  show ¬ _
  rw [bne_iff_ne] at h
  rw [inR_ff] at h2
  omega
theorem opC_yes {x : Int} (h2 : inR 0 35999 x = true) : Hid (x = -1 ∨ 0 ≤ x ∧ x ≤ 35999) := .inr (inR_iff.1 h2)
theorem fam_pass {d m wd lf : Int} {n : Nat} {xs : List Int} (hl : xs.length = n) (h : (0 ≤ d ∧ d ≤ 35999) ∧ (m = -1 ∨ 0 ≤ m ∧ m ≤ 35999) ∧ (wd = -1 ∨ 0 ≤ wd ∧ wd ≤ 35999) ∧ (lf = -1 ∨ 0 ≤ lf ∧ lf ≤ 35999) ∧ (wd = -1 ∨ wd = d + 1 ∧ m ≠ -1 ∧ m ≤ d) ∧ (lf = -1 ∨ wd ≠ -1 ∧ wd ≤ lf)) (M : Int) (hM : M = min 35999 (d + 9)) :
    famT d m wd lf n xs = (decide (n ≤ 12) && xs.all (inR 0 M) && srtT n xs) := by
  have hk := kids_iff (d := d) hl M hM
  obtain ⟨h1, h2, h3, h4, h6, h7⟩ := h
  rw [Bool.eq_iff_iff, famT_t, Bool.and_eq_true, Bool.and_eq_true, decide_eq_true_eq, and_assoc, hk]
  exact ⟨fun h => ⟨h.2.2.2.2.1, h.2.2.2.2.2.2.2⟩, fun h => ⟨h1, h2, h3, h4, h.1, h6, h7, h.2⟩⟩
theorem fp_s {b p s : Bool} {n : Nat} (h : b = (decide (n ≤ 12) && p && s)) (h1 : n ≤ 12) (h2 : p = true) : b = s := by rw [h, decide_eq_true h1, h2]; rfl
theorem fp_b {b p s : Bool} {n : Nat} (h : b = (decide (n ≤ 12) && p && s)) (h2 : ¬ p = true) : b = false := by rw [h, Bool.eq_false_iff.2 h2]; simp
theorem fp_n {b p s : Bool} {n : Nat} (h : b = (decide (n ≤ 12) && p && s)) (h1 : ¬ n ≤ 12) : b = false := by rw [h, decide_eq_false h1]; rfl
theorem eqC (x y : Int) : ((x == y) = true ∧ (x != y) = false ∧ Hid (x = y)) ∨ ((x == y) = false ∧ (x != y) = true ∧ Hid (x ≠ y)) := by
  by_cases h : x = y
  · exact .inl ⟨by simp [h], by simp [h], h⟩
  · exact .inr ⟨by simp [h], by simp [h], h⟩
theorem ltC (x y : Int) : (decide (x < y) = true ∧ Hid (x < y)) ∨ (decide (x < y) = false ∧ Hid (y ≤ x)) := by
  by_cases h : x < y
  · exact .inl ⟨by simp [h], h⟩
  · exact .inr ⟨by simp [h], Int.not_lt.1 h⟩
set_option maxHeartbeats 4000000 in
theorem iFam_any (d m wd lf : Int) (A : Option Addr) (n c : Nat) (xs : List Int) (w : World) (h : RdI w w.heap.size A n xs) (hc : n ≤ c) (hcm : c ≤ maxLen) (hn : n ≤ 1048576) : Calls Try.prog 24 #[.agg #[.int .i64 d, .int .i64 m, .int .i64 wd, .int .i64 lf, .slice A n c]] w fun ee w' => ee = .returned (.bool (famT d m wd lf n xs)) ∧ Below w.heap.size w w' := by
  have H := Lib.hid h
  have hl := Lib.hid h.len
  have HK := Lib.hid (fun M hM => kids_iff (d := d) h.len M hM)
  clear h
  go_enter Try.func24, Try.ntmps24
  go_wp2
  go_loop [13] (fun i => ∃ k : Nat, k ≤ 3 ∧ i = .int .i64 k ∧ Hid (0 < k → m = -1 ∨ 0 ≤ m ∧ m ≤ 35999) ∧ Hid (1 < k → wd = -1 ∨ 0 ≤ wd ∧ wd ≤ 35999) ∧ Hid (2 < k → lf = -1 ∨ 0 ≤ lf ∧ lf ≤ 35999)) (fun i => 3 - (intOf i).toNat)
  case atStart => exact ⟨0, by omega, rfl, fun h => by omega, fun h => by omega, fun h => by omega⟩
  case round =>
    obtain ⟨k, hk, rfl, H1, H2, H3⟩ := hrel
    obtain rfl | rfl | rfl | rfl : k = 0 ∨ k = 1 ∨ k = 2 ∨ k = 3 := by omega
    · have HM := fun W => isMonth_any m W
      rcases opC m with ⟨g1, g2⟩ | ⟨g1, g2⟩ | ⟨g1, g2⟩
      · have HO : Hid (m = -1 ∨ 0 ≤ m ∧ m ≤ 35999) := .inl g2.out
        clear HM
        go_wp2
        go_round
        case rel => exact ⟨1, by omega, by go_num, fun _ => HO.out, fun h => by omega, fun h => by omega⟩
        case measure => simp [intOf]
      · have HO := opC_yes g2
        rw [g2] at HM
        clear g2
        go_wp2_with (go_at_call 60; (with_reducible refine (HM _).mono ?_); rintro ee w1 ⟨rfl, rfl⟩)
        go_round
        case rel => exact ⟨1, by omega, by go_num, fun _ => HO.out, fun h => by omega, fun h => by omega⟩
        case measure => simp [intOf]
      · have HO := opC_no g1 g2
        have HQ : Hid (famT d m wd lf n xs = false) := fam_no (fun _ h _ _ _ _ _ => HO.out h)
        rw [g2] at HM
        clear g2
        go_wp2_with (go_at_call 60; (with_reducible refine (HM _).mono ?_); rintro ee w1 ⟨rfl, rfl⟩)
        go_returns
        exact ⟨by rw [HQ.out]; rfl, by go_grown⟩
    · have HM := fun W => isMonth_any wd W
      rcases opC wd with ⟨g1, g2⟩ | ⟨g1, g2⟩ | ⟨g1, g2⟩
      · have HO : Hid (wd = -1 ∨ 0 ≤ wd ∧ wd ≤ 35999) := .inl g2.out
        clear HM
        go_wp2
        go_round
        case rel => exact ⟨2, by omega, by go_num, fun _ => H1.out (by omega), fun _ => HO.out, fun h => by omega⟩
        case measure => simp [intOf]
      · have HO := opC_yes g2
        rw [g2] at HM
        clear g2
        go_wp2_with (go_at_call 60; (with_reducible refine (HM _).mono ?_); rintro ee w1 ⟨rfl, rfl⟩)
        go_round
        case rel => exact ⟨2, by omega, by go_num, fun _ => H1.out (by omega), fun _ => HO.out, fun h => by omega⟩
        case measure => simp [intOf]
      · have HO := opC_no g1 g2
        have HQ : Hid (famT d m wd lf n xs = false) := fam_no (fun _ _ h _ _ _ _ => HO.out h)
        rw [g2] at HM
        clear g2
        go_wp2_with (go_at_call 60; (with_reducible refine (HM _).mono ?_); rintro ee w1 ⟨rfl, rfl⟩)
        go_returns
        exact ⟨by rw [HQ.out]; rfl, by go_grown⟩
    · have HM := fun W => isMonth_any lf W
      rcases opC lf with ⟨g1, g2⟩ | ⟨g1, g2⟩ | ⟨g1, g2⟩
      · have HO : Hid (lf = -1 ∨ 0 ≤ lf ∧ lf ≤ 35999) := .inl g2.out
        clear HM
        go_wp2
        go_round
        case rel => exact ⟨3, by omega, by go_num, fun _ => H1.out (by omega), fun _ => H2.out (by omega), fun _ => HO.out⟩
        case measure => simp [intOf]
      · have HO := opC_yes g2
        rw [g2] at HM
        clear g2
        go_wp2_with (go_at_call 60; (with_reducible refine (HM _).mono ?_); rintro ee w1 ⟨rfl, rfl⟩)
        go_round
        case rel => exact ⟨3, by omega, by go_num, fun _ => H1.out (by omega), fun _ => H2.out (by omega), fun _ => HO.out⟩
        case measure => simp [intOf]
      · have HO := opC_no g1 g2
        have HQ : Hid (famT d m wd lf n xs = false) := fam_no (fun _ _ _ h _ _ _ => HO.out h)
        rw [g2] at HM
        clear g2
        go_wp2_with (go_at_call 60; (with_reducible refine (HM _).mono ?_); rintro ee w1 ⟨rfl, rfl⟩)
        go_returns
        exact ⟨by rw [HQ.out]; rfl, by go_grown⟩
    · have h1 := H1.out (by omega)
      have h2 := H2.out (by omega)
      have h3 := H3.out (by omega)
      clear H1 H2 H3
      have HD := fun W => isMonth_any d W
      have HA := Lib.hid (fun M W hR => allIn_any A n c xs 0 M W hR (by unfold maxLen; omega))
      have HS := Lib.hid (fun W hR => isSorted_any A n c xs W hR hn)
      have hW : Below w.heap.size w ((w.alloc (.cells #[.int .i64 d, .int .i64 m, .int .i64 wd, .int .i64 lf, .slice A n c] 26)).alloc (.cells #[.int .i64 m, .int .i64 wd, .int .i64 lf] 2)) := by go_grown
      have c4 : ((w.alloc (.cells #[.int .i64 d, .int .i64 m, .int .i64 wd, .int .i64 lf, .slice A n c] 26)).alloc (.cells #[.int .i64 m, .int .i64 wd, .int .i64 lf] 2)).cell? ⟨w.heap.size, 4, none⟩ = some (.slice A n c) := by simp [go_sem]
      have HNo : Hid (¬ n ≤ 12 → famT d m wd lf n xs = false) := fun h => fam_no (fun _ _ _ _ h5 _ _ => h h5)
      cases e0 : inR 0 35999 d with
      | false =>
        have HQ : Hid (famT d m wd lf n xs = false) := fam_no (fun h _ _ _ _ _ _ => by rw [inR_ff] at e0; omega)
        rw [e0] at HD
        (go_wp2_with (go_at_call 60; (with_reducible refine (HD _).mono ?_); rintro ee w1 ⟨rfl, rfl⟩); go_returns; exact ⟨by rw [HQ.out]; rfl, by go_grown⟩)
      | true =>
        rw [e0] at HD
        have h0 := inR_iff.1 e0
        clear e0
        rcases eqC wd (-1) with ⟨a1, a2, a3⟩ | ⟨a1, a2, a3⟩
        · rcases eqC lf (-1) with ⟨b1, b2, b3⟩ | ⟨b1, b2, b3⟩
          · have HY := Lib.hid (fam_pass (xs := xs) hl.out ⟨h0, h1, h2, h3, .inl a3.out, .inl b3.out⟩)
            (have HY1 := Lib.hid (fun hM => HY.out (d + 9) hM); have HY2 := Lib.hid (fun hM => HY.out 35999 hM); have HA1 := HA.out (d + 9); have HA2 := HA.out 35999; clear HY HA HK; generalize xs.all (inR 0 (d + 9)) = p at *; generalize xs.all (inR 0 35999) = q at *; generalize srtT n xs = s at *; have HA1 := Lib.hid HA1; have HA2 := Lib.hid HA2; go_wp2_with (first | (go_at_call 60; (with_reducible refine (HD _).mono ?_); rintro ee w1 ⟨rfl, rfl⟩) | ((go_at_call 61; (with_reducible refine Calls.mono (HA1.out _ (H.out.later hW)) ?_); rintro ee w2 ⟨rfl, hb2⟩; have hB2 := bel_step hW hb2); have k4 := keepC hb2 c4) | ((go_at_call 61; (with_reducible refine Calls.mono (HA2.out _ (H.out.later hW)) ?_); rintro ee w2 ⟨rfl, hb2⟩; have hB2 := bel_step hW hb2); have k4 := keepC hb2 c4) | (go_at_call 62; (with_reducible refine Calls.mono (HS.out _ (H.out.later hB2)) ?_); rintro ee w3 ⟨rfl, hb3⟩; have hB3 := bel_step hB2 hb3)); all_goals go_returns; all_goals first | exact ⟨by rw [HNo.out (by omega)]; rfl, by go_grown⟩ | first | exact ⟨by rw [fp_s (HY1.out (by omega)) (by omega) (by assumption)]; rfl, hB3⟩ | exact ⟨by rw [fp_b (HY1.out (by omega)) (by assumption)]; rfl, hB2⟩ | exact ⟨by rw [fp_n (HY1.out (by omega)) (by omega)]; rfl, by go_grown⟩ | first | exact ⟨by rw [fp_s (HY2.out (by omega)) (by omega) (by assumption)]; rfl, hB3⟩ | exact ⟨by rw [fp_b (HY2.out (by omega)) (by assumption)]; rfl, hB2⟩ | exact ⟨by rw [fp_n (HY2.out (by omega)) (by omega)]; rfl, by go_grown⟩)
          · have HQ : Hid (famT d m wd lf n xs = false) := fam_no (fun _ _ _ _ _ _ h => by have := a3.out; have := b3.out; omega)
            (go_wp2_with (go_at_call 60; (with_reducible refine (HD _).mono ?_); rintro ee w1 ⟨rfl, rfl⟩); go_returns; exact ⟨by rw [HQ.out]; rfl, by go_grown⟩)
        · rcases eqC wd (d + 1) with ⟨c1, c2, c3⟩ | ⟨c1, c2, c3⟩
          · rcases eqC m (-1) with ⟨d1, d2, d3⟩ | ⟨d1, d2, d3⟩
            · have HQ : Hid (famT d m wd lf n xs = false) := fam_no (fun _ _ _ _ _ h _ => by have := a3.out; have := d3.out; omega)
              (go_wp2_with (go_at_call 60; (with_reducible refine (HD _).mono ?_); rintro ee w1 ⟨rfl, rfl⟩); go_returns; exact ⟨by rw [HQ.out]; rfl, by go_grown⟩)
            · rcases ltC d m with ⟨f1, f2⟩ | ⟨f1, f2⟩
              · have HQ : Hid (famT d m wd lf n xs = false) := fam_no (fun _ _ _ _ _ h _ => by have := a3.out; have := f2.out; omega)
                (go_wp2_with (go_at_call 60; (with_reducible refine (HD _).mono ?_); rintro ee w1 ⟨rfl, rfl⟩); go_returns; exact ⟨by rw [HQ.out]; rfl, by go_grown⟩)
              · rcases eqC lf (-1) with ⟨b1, b2, b3⟩ | ⟨b1, b2, b3⟩
                · have HY := Lib.hid (fam_pass (xs := xs) hl.out ⟨h0, h1, h2, h3, .inr ⟨c3.out, d3.out, f2.out⟩, .inl b3.out⟩)
                  (have HY1 := Lib.hid (fun hM => HY.out (d + 9) hM); have HY2 := Lib.hid (fun hM => HY.out 35999 hM); have HA1 := HA.out (d + 9); have HA2 := HA.out 35999; clear HY HA HK; generalize xs.all (inR 0 (d + 9)) = p at *; generalize xs.all (inR 0 35999) = q at *; generalize srtT n xs = s at *; have HA1 := Lib.hid HA1; have HA2 := Lib.hid HA2; go_wp2_with (first | (go_at_call 60; (with_reducible refine (HD _).mono ?_); rintro ee w1 ⟨rfl, rfl⟩) | ((go_at_call 61; (with_reducible refine Calls.mono (HA1.out _ (H.out.later hW)) ?_); rintro ee w2 ⟨rfl, hb2⟩; have hB2 := bel_step hW hb2); have k4 := keepC hb2 c4) | ((go_at_call 61; (with_reducible refine Calls.mono (HA2.out _ (H.out.later hW)) ?_); rintro ee w2 ⟨rfl, hb2⟩; have hB2 := bel_step hW hb2); have k4 := keepC hb2 c4) | (go_at_call 62; (with_reducible refine Calls.mono (HS.out _ (H.out.later hB2)) ?_); rintro ee w3 ⟨rfl, hb3⟩; have hB3 := bel_step hB2 hb3)); all_goals go_returns; all_goals first | exact ⟨by rw [HNo.out (by omega)]; rfl, by go_grown⟩ | first | exact ⟨by rw [fp_s (HY1.out (by omega)) (by omega) (by assumption)]; rfl, hB3⟩ | exact ⟨by rw [fp_b (HY1.out (by omega)) (by assumption)]; rfl, hB2⟩ | exact ⟨by rw [fp_n (HY1.out (by omega)) (by omega)]; rfl, by go_grown⟩ | first | exact ⟨by rw [fp_s (HY2.out (by omega)) (by omega) (by assumption)]; rfl, hB3⟩ | exact ⟨by rw [fp_b (HY2.out (by omega)) (by assumption)]; rfl, hB2⟩ | exact ⟨by rw [fp_n (HY2.out (by omega)) (by omega)]; rfl, by go_grown⟩)
                · rcases ltC lf wd with ⟨k1, k2⟩ | ⟨k1, k2⟩
                  · have HQ : Hid (famT d m wd lf n xs = false) := fam_no (fun _ _ _ _ _ _ h => by have := b3.out; have := k2.out; omega)
                    (go_wp2_with (go_at_call 60; (with_reducible refine (HD _).mono ?_); rintro ee w1 ⟨rfl, rfl⟩); go_returns; exact ⟨by rw [HQ.out]; rfl, by go_grown⟩)
                  · have HY := Lib.hid (fam_pass (xs := xs) hl.out ⟨h0, h1, h2, h3, .inr ⟨c3.out, d3.out, f2.out⟩, .inr ⟨a3.out, k2.out⟩⟩)
                    (have HY1 := Lib.hid (fun hM => HY.out (d + 9) hM); have HY2 := Lib.hid (fun hM => HY.out 35999 hM); have HA1 := HA.out (d + 9); have HA2 := HA.out 35999; clear HY HA HK; generalize xs.all (inR 0 (d + 9)) = p at *; generalize xs.all (inR 0 35999) = q at *; generalize srtT n xs = s at *; have HA1 := Lib.hid HA1; have HA2 := Lib.hid HA2; go_wp2_with (first | (go_at_call 60; (with_reducible refine (HD _).mono ?_); rintro ee w1 ⟨rfl, rfl⟩) | ((go_at_call 61; (with_reducible refine Calls.mono (HA1.out _ (H.out.later hW)) ?_); rintro ee w2 ⟨rfl, hb2⟩; have hB2 := bel_step hW hb2); have k4 := keepC hb2 c4) | ((go_at_call 61; (with_reducible refine Calls.mono (HA2.out _ (H.out.later hW)) ?_); rintro ee w2 ⟨rfl, hb2⟩; have hB2 := bel_step hW hb2); have k4 := keepC hb2 c4) | (go_at_call 62; (with_reducible refine Calls.mono (HS.out _ (H.out.later hB2)) ?_); rintro ee w3 ⟨rfl, hb3⟩; have hB3 := bel_step hB2 hb3)); all_goals go_returns; all_goals first | exact ⟨by rw [HNo.out (by omega)]; rfl, by go_grown⟩ | first | exact ⟨by rw [fp_s (HY1.out (by omega)) (by omega) (by assumption)]; rfl, hB3⟩ | exact ⟨by rw [fp_b (HY1.out (by omega)) (by assumption)]; rfl, hB2⟩ | exact ⟨by rw [fp_n (HY1.out (by omega)) (by omega)]; rfl, by go_grown⟩ | first | exact ⟨by rw [fp_s (HY2.out (by omega)) (by omega) (by assumption)]; rfl, hB3⟩ | exact ⟨by rw [fp_b (HY2.out (by omega)) (by assumption)]; rfl, hB2⟩ | exact ⟨by rw [fp_n (HY2.out (by omega)) (by omega)]; rfl, by go_grown⟩)
          · have HQ : Hid (famT d m wd lf n xs = false) := fam_no (fun _ _ _ _ _ h _ => by have := a3.out; have := c3.out; omega)
            (go_wp2_with (go_at_call 60; (with_reducible refine (HD _).mono ?_); rintro ee w1 ⟨rfl, rfl⟩); go_returns; exact ⟨by rw [HQ.out]; rfl, by go_grown⟩)
end Go.Proofs.Ytmgaooinkdmpbaa
