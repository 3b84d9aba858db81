/-
  Contracts: SurvivalOf, MiddleAge.
-/
import Derived.Test.YtggfonpjmplmfaaK3
set_option linter.unusedSimpArgs false
set_option linter.unusedVariables false
namespace Go.Proofs.Ytggfonpjmplmfaa
open Go.RowKit
noncomputable def suC (f : Int) (n : Nat) (xs : List Int) (age y : Int) : Int := if ageC f n xs age = 0 then (if inR 0 150 y = true then (if lv f n xs age = 0 then 5 else 0) else 2) else ageC f n xs age
noncomputable def suV (f : Int) (n : Nat) (xs : List Int) (age y : Int) : Value := if suC f n xs age y = 0 then .tuple #[.int .i64 (fr (lv f n xs (age + y)) (lv f n xs age) (lv f n xs (age + y))), .int .i64 (fr (lv f n xs (age + y)) (lv f n xs age) (lv f n xs age)), .int .i64 0] else .tuple #[.int .i64 0, .int .i64 0, .int .i64 (suC f n xs age y)]
theorem suV_k {f : Int} {n : Nat} {xs : List Int} {age y k : Int} (h : suC f n xs age y = k) (hk : k ≠ 0) : Hid (suV f n xs age y = .tuple #[.int .i64 0, .int .i64 0, .int .i64 k]) := by
  show _ = _
  unfold suV
  rw [if_neg (by rw [h]; exact hk), h]
set_option maxHeartbeats 1000000 in
theorem iSurv_any (f : Int) (A : Option Addr) (n c : Nat) (xs : List Int) (age y : Int) (w : World) (h : RdI w w.heap.size A n xs) (hc : n ≤ c) (hcm : c ≤ maxLen) (hn : n ≤ 1048576) : Calls Try.prog 24 #[.agg #[.int .i64 f, .slice A n c], .int .i64 age, .int .i64 y] w fun e w' => e = .returned (suV f n xs age y) ∧ Below w.heap.size w w' := by
  have HC := fun W (hB : Below w.heap.size w W) => iIsT_any_age f A n c xs age W ((h.below hB).more hB.size) hc hcm hn
  have HR := fun W => inRange_any y 0 150 W
  by_cases e : ageC f n xs age = 0
  · obtain ⟨hT, ha⟩ := ageC_split e
    have hf0 := hT.1
    rw [e] at HC
    have HC := Lib.hid HC
    cases e2 : inR 0 150 y with
    | false =>
      have HQ := suV_k (k := 2) (by unfold suC; rw [if_pos e, e2]; rfl) (by decide)
      rw [e2] at HR
      have HR := Lib.hid HR
      clear h e e2 hT
      go_enter Try.func24, Try.ntmps24
      go_wp2_with (first | (go_at_call 51; (with_reducible refine (HC.out _ (by go_grown)).mono ?_); rintro ee w1 ⟨rfl, hb1⟩; obtain ⟨hc1, hf1⟩ := bcell hb1; have hB1 := bel_step (w := w) (by go_grown) hb1; have hz1 := hb1.size; (try simp at hz1); have hy1 : w.heap.size < w1.heap.size := by omega) | (go_at_call 58; (with_reducible refine (HR.out _).mono ?_); rintro ee w9 ⟨rfl, rfl⟩))
      (go_returns; exact ⟨by rw [HQ.out]; rfl, by go_grown⟩)
    | true =>
      have hy := inR_iff.1 e2
      rw [e2] at HR
      have HR := Lib.hid HR
      have HL := Lib.hid (fun W (hB : Below w.heap.size w W) => iLives_any f A n c xs age W ((h.below hB).more hB.size) hT.1 hT.2.1.2 ⟨ha.1, by omega⟩)
      have HL2 := Lib.hid (fun W (hB : Below w.heap.size w W) => iLives_any f A n c xs (age + y) W ((h.below hB).more hB.size) hT.1 hT.2.1.2 ⟨by omega, by omega⟩)
      have b1 := lv_bd hT ha.1
      have b2 := lv_bd hT (age := age + y) (by omega)
      by_cases e3 : lv f n xs age = 0
      · have HQ := suV_k (k := 5) (by unfold suC; rw [if_pos e, if_pos e2, if_pos e3]) (by decide)
        have HL := HL.out
        rw [e3] at HL
        have HL := Lib.hid HL
        clear h e e2 e3 hT HL2 b1 b2
        go_enter Try.func24, Try.ntmps24
        go_wp2_with (first | (go_at_call 51; (with_reducible refine (HC.out _ (by go_grown)).mono ?_); rintro ee w1 ⟨rfl, hb1⟩; obtain ⟨hc1, hf1⟩ := bcell hb1; have hB1 := bel_step (w := w) (by go_grown) hb1; have hz1 := hb1.size; (try simp at hz1); have hy1 : w.heap.size < w1.heap.size := by omega) | (go_at_call 58; (with_reducible refine (HR.out _).mono ?_); rintro ee w9 ⟨rfl, rfl⟩) | (go_at_call 52; (with_reducible refine (HL.out _ (by go_grown)).mono ?_); rintro ee w2 ⟨rfl, hb2⟩; obtain ⟨hc2, hf2⟩ := bcell hb2; have hB2 := bel_step (w := w) (by go_grown) hb2; have hz2 := hb2.size; (try simp at hz2); have hy2 : w.heap.size < w2.heap.size := by omega))
        (go_returns; exact ⟨by rw [HQ.out]; rfl, by go_grown⟩)
      · have HQ : Hid (suV f n xs age y = .tuple #[.int .i64 (fr (lv f n xs (age + y)) (lv f n xs age) (lv f n xs (age + y))), .int .i64 (fr (lv f n xs (age + y)) (lv f n xs age) (lv f n xs age)), .int .i64 0]) := if_pos (by unfold suC; rw [if_pos e, if_pos e2, if_neg e3])
        generalize lv f n xs age = L at *
        generalize lv f n xs (age + y) = M at *
        have HX := Lib.hid (fun W => iFr_any M L W (by omega) (by omega))
        have q2 := IntWalk.i64_in (age + y) (by omega)
        clear h e e2 hT
        go_enter Try.func24, Try.ntmps24
        go_wp2_with (first | (go_at_call 51; (with_reducible refine (HC.out _ (by go_grown)).mono ?_); rintro ee w1 ⟨rfl, hb1⟩; obtain ⟨hc1, hf1⟩ := bcell hb1; have hB1 := bel_step (w := w) (by go_grown) hb1; have hz1 := hb1.size; (try simp at hz1); have hy1 : w.heap.size < w1.heap.size := by omega) | (go_at_call 58; (with_reducible refine (HR.out _).mono ?_); rintro ee w9 ⟨rfl, rfl⟩) | (go_at_call 52; (with_reducible refine (HL.out _ (by go_grown)).mono ?_); rintro ee w2 ⟨rfl, hb2⟩; obtain ⟨hc2, hf2⟩ := bcell hb2; have hB2 := bel_step (w := w) (by go_grown) hb2; have hz2 := hb2.size; (try simp at hz2); have hy2 : w.heap.size < w2.heap.size := by omega))
        have c0 : w2.cell? ⟨w.heap.size, 0, none⟩ = some (.int .i64 f) := by rw [hc2 _ _ hy1, hc1 _ _ (by simp)]; simp [go_sem]
        have c1 : w2.cell? ⟨w.heap.size, 1, none⟩ = some (.slice A n c) := by rw [hc2 _ _ hy1, hc1 _ _ (by simp)]; simp [go_sem]
        clear hc1 hf1 hc2 hf2 HC HR
        go_region_held3 (fun W' => Below w2.heap.size w2 W' ∧ ∀ b o, b < w2.heap.size → W'.cell? ⟨b, o, none⟩ = w2.cell? ⟨b, o, none⟩) (first | exact bS (Below.refl _ _).drew | exact bS hb5 | exact bS hb3 | exact bS hb4) (first | (go_at_call 52; (with_reducible refine Calls.mono (HL.out _ ?_) ?_); (first | exact hB2.drew | exact hB3 | exact hB4); rintro ee w3 ⟨rfl, hb3⟩; have hb3 := bel_step (w := w2) (by first | exact (Below.refl _ _).drew | exact hb3 | exact hb4) hb3; have hB3 := bel_step hB2 hb3) | (go_at_call 52; (with_reducible refine Calls.mono (HL2.out _ ?_) ?_); (first | exact hB2.drew | exact hB3 | exact hB4); rintro ee w4 ⟨rfl, hb4⟩; have hb4 := bel_step (w := w2) (by first | exact (Below.refl _ _).drew | exact hb3 | exact hb4) hb4; have hB4 := bel_step hB2 hb4) | (go_at_call 59; (with_reducible refine Calls.mono (HX.out _) ?_); rintro ee w5 ⟨rfl, hb5⟩; have hb5 := bel_step (w := w2) (by first | exact hb4 | exact hb3) hb5; have hB5 := bel_step hB2 hb5))
        go_wp2
        go_returns
        exact ⟨by rw [HQ.out]; rfl, hB5⟩
  · have HQ := suV_k (k := ageC f n xs age) (y := y) (by unfold suC; rw [if_neg e]) e
    clear h
    generalize ageC f n xs age = k at *
    have HC := Lib.hid HC
    go_enter Try.func24, Try.ntmps24
    go_wp2_with (go_at_call 51; (with_reducible refine (HC.out _ (by go_grown)).mono ?_); rintro ee w1 ⟨rfl, hb1⟩; obtain ⟨hc1, hf1⟩ := bcell hb1; have hB1 := bel_step (w := w) (by go_grown) hb1; have hz1 := hb1.size; (try simp at hz1); have hy1 : w.heap.size < w1.heap.size := by omega)
    (go_returns; exact ⟨by rw [HQ.out]; rfl, by go_grown⟩)
set_option maxHeartbeats 1000000 in
theorem sSurv_any (f : Int) (A : Option Addr) (n c : Nat) (xs : List Int) (age y : Int) (w : World) (h : RdI w w.heap.size A n xs) (hc : n ≤ c) (hcm : c ≤ maxLen) (hn : n ≤ 1048576) : Calls Try.prog 23 #[.agg #[.int .i64 f, .slice A n c], .int .i64 age, .int .i64 y] w fun e w' => e = .returned (suV f n xs age y) ∧ Below w.heap.size w w' := by
  have HC := fun W (hB : Below w.heap.size w W) => sIsT_any_age f A n c xs age W ((h.below hB).more hB.size) hc hcm hn
  have HR := fun W => sIn_any y 0 150 W
  by_cases e : ageC f n xs age = 0
  · obtain ⟨hT, ha⟩ := ageC_split e
    have hf0 := hT.1
    rw [e] at HC
    have HC := Lib.hid HC
    cases e2 : inR 0 150 y with
    | false =>
      have HQ := suV_k (k := 2) (by unfold suC; rw [if_pos e, e2]; rfl) (by decide)
      rw [e2] at HR
      have HR := Lib.hid HR
      clear h e e2 hT
      go_enter Try.func23, Try.ntmps23
      go_wp2_with (first | (go_at_call 48; (with_reducible refine (HC.out _ (by go_grown)).mono ?_); rintro ee w1 ⟨rfl, hb1⟩; obtain ⟨hc1, hf1⟩ := bcell hb1; have hB1 := bel_step (w := w) (by go_grown) hb1; have hz1 := hb1.size; (try simp at hz1); have hy1 : w.heap.size < w1.heap.size := by omega) | (go_at_call 56; (with_reducible refine (HR.out _).mono ?_); rintro ee w9 ⟨rfl, rfl⟩))
      (go_returns; exact ⟨by rw [HQ.out]; rfl, by go_grown⟩)
    | true =>
      have hy := inR_iff.1 e2
      rw [e2] at HR
      have HR := Lib.hid HR
      have HL := Lib.hid (fun W (hB : Below w.heap.size w W) => sLives_any f A n c xs age W ((h.below hB).more hB.size) hT.1 hT.2.1.2 ⟨ha.1, by omega⟩)
      have HL2 := Lib.hid (fun W (hB : Below w.heap.size w W) => sLives_any f A n c xs (age + y) W ((h.below hB).more hB.size) hT.1 hT.2.1.2 ⟨by omega, by omega⟩)
      have b1 := lv_bd hT ha.1
      have b2 := lv_bd hT (age := age + y) (by omega)
      by_cases e3 : lv f n xs age = 0
      · have HQ := suV_k (k := 5) (by unfold suC; rw [if_pos e, if_pos e2, if_pos e3]) (by decide)
        have HL := HL.out
        rw [e3] at HL
        have HL := Lib.hid HL
        clear h e e2 e3 hT HL2 b1 b2
        go_enter Try.func23, Try.ntmps23
        go_wp2_with (first | (go_at_call 48; (with_reducible refine (HC.out _ (by go_grown)).mono ?_); rintro ee w1 ⟨rfl, hb1⟩; obtain ⟨hc1, hf1⟩ := bcell hb1; have hB1 := bel_step (w := w) (by go_grown) hb1; have hz1 := hb1.size; (try simp at hz1); have hy1 : w.heap.size < w1.heap.size := by omega) | (go_at_call 56; (with_reducible refine (HR.out _).mono ?_); rintro ee w9 ⟨rfl, rfl⟩) | (go_at_call 49; (with_reducible refine (HL.out _ (by go_grown)).mono ?_); rintro ee w2 ⟨rfl, hb2⟩; obtain ⟨hc2, hf2⟩ := bcell hb2; have hB2 := bel_step (w := w) (by go_grown) hb2; have hz2 := hb2.size; (try simp at hz2); have hy2 : w.heap.size < w2.heap.size := by omega))
        (go_returns; exact ⟨by rw [HQ.out]; rfl, by go_grown⟩)
      · have HQ : Hid (suV f n xs age y = .tuple #[.int .i64 (fr (lv f n xs (age + y)) (lv f n xs age) (lv f n xs (age + y))), .int .i64 (fr (lv f n xs (age + y)) (lv f n xs age) (lv f n xs age)), .int .i64 0]) := if_pos (by unfold suC; rw [if_pos e, if_pos e2, if_neg e3])
        generalize lv f n xs age = L at *
        generalize lv f n xs (age + y) = M at *
        have HX := Lib.hid (fun W => sFr_any M L W (by omega) (by omega))
        have q2 := IntWalk.i64_in (age + y) (by omega)
        clear h e e2 hT
        go_enter Try.func23, Try.ntmps23
        go_wp2_with (first | (go_at_call 48; (with_reducible refine (HC.out _ (by go_grown)).mono ?_); rintro ee w1 ⟨rfl, hb1⟩; obtain ⟨hc1, hf1⟩ := bcell hb1; have hB1 := bel_step (w := w) (by go_grown) hb1; have hz1 := hb1.size; (try simp at hz1); have hy1 : w.heap.size < w1.heap.size := by omega) | (go_at_call 56; (with_reducible refine (HR.out _).mono ?_); rintro ee w9 ⟨rfl, rfl⟩) | (go_at_call 49; (with_reducible refine (HL.out _ (by go_grown)).mono ?_); rintro ee w2 ⟨rfl, hb2⟩; obtain ⟨hc2, hf2⟩ := bcell hb2; have hB2 := bel_step (w := w) (by go_grown) hb2; have hz2 := hb2.size; (try simp at hz2); have hy2 : w.heap.size < w2.heap.size := by omega))
        have c0 : w2.cell? ⟨w.heap.size, 0, none⟩ = some (.int .i64 f) := by rw [hc2 _ _ hy1, hc1 _ _ (by simp)]; simp [go_sem]
        have c1 : w2.cell? ⟨w.heap.size, 1, none⟩ = some (.slice A n c) := by rw [hc2 _ _ hy1, hc1 _ _ (by simp)]; simp [go_sem]
        clear hc1 hf1 hc2 hf2 HC HR
        go_region_held3 (fun W' => Below w2.heap.size w2 W' ∧ ∀ b o, b < w2.heap.size → W'.cell? ⟨b, o, none⟩ = w2.cell? ⟨b, o, none⟩) (first | exact bS (Below.refl _ _).drew | exact bS hb5 | exact bS hb3 | exact bS hb4) (first | (go_at_call 49; (with_reducible refine Calls.mono (HL.out _ ?_) ?_); (first | exact hB2.drew | exact hB3 | exact hB4); rintro ee w3 ⟨rfl, hb3⟩; have hb3 := bel_step (w := w2) (by first | exact (Below.refl _ _).drew | exact hb3 | exact hb4) hb3; have hB3 := bel_step hB2 hb3) | (go_at_call 49; (with_reducible refine Calls.mono (HL2.out _ ?_) ?_); (first | exact hB2.drew | exact hB3 | exact hB4); rintro ee w4 ⟨rfl, hb4⟩; have hb4 := bel_step (w := w2) (by first | exact (Below.refl _ _).drew | exact hb3 | exact hb4) hb4; have hB4 := bel_step hB2 hb4) | (go_at_call 57; (with_reducible refine Calls.mono (HX.out _) ?_); rintro ee w5 ⟨rfl, hb5⟩; have hb5 := bel_step (w := w2) (by first | exact hb4 | exact hb3) hb5; have hB5 := bel_step hB2 hb5))
        go_wp2
        go_returns
        exact ⟨by rw [HQ.out]; rfl, hB5⟩
  · have HQ := suV_k (k := ageC f n xs age) (y := y) (by unfold suC; rw [if_neg e]) e
    clear h
    generalize ageC f n xs age = k at *
    have HC := Lib.hid HC
    go_enter Try.func23, Try.ntmps23
    go_wp2_with (go_at_call 48; (with_reducible refine (HC.out _ (by go_grown)).mono ?_); rintro ee w1 ⟨rfl, hb1⟩; obtain ⟨hc1, hf1⟩ := bcell hb1; have hB1 := bel_step (w := w) (by go_grown) hb1; have hz1 := hb1.size; (try simp at hz1); have hy1 : w.heap.size < w1.heap.size := by omega)
    (go_returns; exact ⟨by rw [HQ.out]; rfl, by go_grown⟩)
theorem suV_shape (f : Int) (n : Nat) (xs : List Int) (age y : Int) : ∃ a b k, suV f n xs age y = .tuple #[.int .i64 a, .int .i64 b, .int .i64 k] := by
  unfold suV
  split
  · exact ⟨_, _, _, rfl⟩
  · exact ⟨_, _, _, rfl⟩
end Go.Proofs.Ytggfonpjmplmfaa
