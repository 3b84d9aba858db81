/-
  Contracts of the functions of chapter 8: two tables and their code.
-/
import Derived.Test.YtmefjjamkebinaaR3
set_option linter.unusedSimpArgs false
set_option linter.unusedVariables false
namespace Go.Proofs.Ytmefjjamkebinaa
open Go.RowKit
/-- two ages that fit two tables -/
def inPB (f x g y : Int) : Bool := inR f 150 x && inR 0 100 x && inR g 150 y
/-- the code of two tables, two ages and a test -/
noncomputable def prC (f x : Int) (n : Nat) (xs : List Int) (g y : Int) (m : Nat) (ys : List Int) (t : Bool) : Int :=
  if okT f n xs = true ∧ okT g m ys = true then (if inPB f x g y = true ∧ t = true then (if lv f n xs x = 0 ∨ lv g m ys y = 0 then 5 else 0) else 2) else 1
set_option maxHeartbeats 1000000 in
theorem isPair_any (f x : Int) (A : Option Addr) (n c : Nat) (xs : List Int) (g y : Int) (B : Option Addr) (m d : Nat) (ys : List Int) (w : World) : Calls Try.prog 57 #[.agg #[.int .i64 f, .slice A n c], .int .i64 x, .agg #[.int .i64 g, .slice B m d], .int .i64 y] w fun e w' => e = .returned (.bool (inPB f x g y)) ∧ Below w.heap.size w w' := by
  have H1 := fun W => inRange_any x 0 100 W
  have H2 := fun W => inRange_any x f 150 W
  have H3 := fun W => inRange_any y g 150 W
  cases e1 : inR 0 100 x with
  | false =>
    have HQ : Hid (inPB f x g y = false) := by show _ = _; unfold inPB; rw [e1]; simp
    rw [e1] at H1
    have H1 := Lib.hid H1
    clear e1 H2 H3
    go_enter Try.func57, Try.ntmps57
    go_wp2_with (go_at_call 37; (with_reducible refine (H1.out _).mono ?_); rintro ee w1 ⟨rfl, rfl⟩)
    (go_returns; exact ⟨by rw [HQ.out]; rfl, by first | exact hW5 | exact hW4 | exact hW3 | exact hW2 | exact hW1 | (go_grown; done)⟩)
  | true =>
    rw [e1] at H1
    have H1 := Lib.hid H1
    cases e2 : inR f 150 x with
    | false =>
      have HQ : Hid (inPB f x g y = false) := by show _ = _; unfold inPB; rw [e2]; simp
      rw [e2] at H2
      have H2 := Lib.hid H2
      clear e1 e2 H3
      go_enter Try.func57, Try.ntmps57
      go_wp2_with (first | (go_at_call 37; (with_reducible refine (H1.out _).mono ?_); rintro ee w1 ⟨rfl, rfl⟩) | (go_at_call 37; (with_reducible refine (H2.out _).mono ?_); rintro ee w2 ⟨rfl, rfl⟩))
      (go_returns; exact ⟨by rw [HQ.out]; rfl, by first | exact hW5 | exact hW4 | exact hW3 | exact hW2 | exact hW1 | (go_grown; done)⟩)
    | true =>
      have HQ : Hid (inPB f x g y = inR g 150 y) := by show _ = _; unfold inPB; rw [e2, e1]; simp
      rw [e2] at H2
      have H2 := Lib.hid H2
      clear e1 e2
      generalize inR g 150 y = b at *
      have H3 := Lib.hid H3
      go_enter Try.func57, Try.ntmps57
      go_wp2_with (first | (go_at_call 37; (with_reducible refine (H1.out _).mono ?_); rintro ee w1 ⟨rfl, rfl⟩) | (go_at_call 37; (with_reducible refine (H2.out _).mono ?_); rintro ee w2 ⟨rfl, rfl⟩) | (go_at_call 37; (with_reducible refine (H3.out _).mono ?_); rintro ee w3 ⟨rfl, rfl⟩))
      (go_returns; exact ⟨by rw [HQ.out]; rfl, by first | exact hW5 | exact hW4 | exact hW3 | exact hW2 | exact hW1 | (go_grown; done)⟩)
set_option maxHeartbeats 2000000 in
theorem iPair_any (f x : Int) (A : Option Addr) (n c : Nat) (xs : List Int) (g y : Int) (B : Option Addr) (m d : Nat) (ys : List Int) (z : Int) (w : World) (h : RdI w w.heap.size A n xs) (hc : n ≤ c) (hcm : c ≤ maxLen) (hn : n ≤ 1048576) (h' : RdI w w.heap.size B m ys) (hd : m ≤ d) (hdm : d ≤ maxLen) (hm : m ≤ 1048576) : Calls Try.prog 28 #[.agg #[.int .i64 f, .slice A n c], .int .i64 x, .agg #[.int .i64 g, .slice B m d], .int .i64 y, .int .i64 z] w fun e w' => e = .returned (.int .i64 (prC f x n xs g y m ys (inR 0 150 z))) ∧ Below w.heap.size w w' := by
  have HT := fun W (hB : Below w.heap.size w W) => iIsT_any f A n c xs W ((h.below hB).more hB.size) hc hcm hn
  have HU := fun W (hB : Below w.heap.size w W) => iIsT_any g B m d ys W ((h'.below hB).more hB.size) hd hdm hm
  have HP := fun W => isPair_any f x A n c xs g y B m d ys W
  have HZ := fun W => inRange_any z 0 150 W
  obtain ⟨W0, hW0⟩ : ∃ W0 : World, W0 = (w.alloc (.cells #[.int .i64 f, .slice A n c] 26)).alloc (.cells #[.int .i64 g, .slice B m d] 26) := ⟨_, rfl⟩
  have hB0 : Below w.heap.size w W0 := by rw [hW0]; exact ((Below.refl _ _).alloc (Nat.le_refl _) _).alloc (by simp) _
  have hs0 : W0.heap.size = w.heap.size + 1 + 1 := by rw [hW0]; simp
  have c0 : W0.cell? ⟨w.heap.size, 0, none⟩ = some (.int .i64 f) := by rw [hW0]; simp [go_sem]
  have c1 : W0.cell? ⟨w.heap.size, 1, none⟩ = some (.slice A n c) := by rw [hW0]; simp [go_sem]
  have c2 : W0.cell? ⟨w.heap.size + 1, 0, none⟩ = some (.int .i64 g) := by rw [hW0]; simp [go_sem]
  have c3 : W0.cell? ⟨w.heap.size + 1, 1, none⟩ = some (.slice B m d) := by rw [hW0]; simp [go_sem]
  have hs1 : w.heap.size < W0.heap.size := by omega
  have hs2 : w.heap.size + 1 < W0.heap.size := by omega
  clear hs0
  cases e1 : okT f n xs with
  | false =>
    have HQ : Hid (prC f x n xs g y m ys (inR 0 150 z) = 1) := by show _ = _; unfold prC; rw [if_neg (by simp [e1])]
    rw [e1] at HT
    have HT := Lib.hid HT
    clear e1 h h' HU HP HZ
    go_enter Try.func28, Try.ntmps28
    go_upto_region 1 with fail
    rw [← hW0]
    clear hW0
    go_wp2_with (go_loud (go_at_call 18; (with_reducible refine Calls.mono (HT.out _ ?_) ?_); (first | exact hB0 | exact hW1 | exact hW2 | exact hW3 | exact hW4); rintro ee w1 ⟨rfl, hb1⟩; obtain ⟨hc1, hf1⟩ := bcell hb1; have hB1 := bel_step (w := W0) (by first | exact Below.refl _ _ | exact hB1 | exact hB2 | exact hB3 | exact hB4) hb1; have hy1 : W0.heap.size ≤ w1.heap.size := hB1.size; have hW1 := bel_step hB0 hB1; have hv1 : w.heap.size < w1.heap.size := Nat.lt_of_lt_of_le hs1 hy1; have hx1 : w.heap.size + 1 < w1.heap.size := Nat.lt_of_lt_of_le hs2 hy1))
    (go_returns; exact ⟨by rw [HQ.out]; rfl, by first | exact hW5 | exact hW4 | exact hW3 | exact hW2 | exact hW1 | (go_grown; done)⟩)
  | true =>
    rw [e1] at HT
    have HT := Lib.hid HT
    cases e2 : okT g m ys with
    | false =>
      have HQ : Hid (prC f x n xs g y m ys (inR 0 150 z) = 1) := by show _ = _; unfold prC; rw [if_neg (by simp [e2])]
      rw [e2] at HU
      have HU := Lib.hid HU
      clear e1 e2 h h' HP HZ
      go_enter Try.func28, Try.ntmps28
      go_upto_region 1 with fail
      rw [← hW0]
      clear hW0
      have tok1 : True := trivial
      go_wp2_with (first | (clear tok1; (go_at_call 18; (with_reducible refine Calls.mono (HT.out _ ?_) ?_); (first | exact hB0 | exact hW1 | exact hW2 | exact hW3 | exact hW4); rintro ee w1 ⟨rfl, hb1⟩; obtain ⟨hc1, hf1⟩ := bcell hb1; have hB1 := bel_step (w := W0) (by first | exact Below.refl _ _ | exact hB1 | exact hB2 | exact hB3 | exact hB4) hb1; have hy1 : W0.heap.size ≤ w1.heap.size := hB1.size; have hW1 := bel_step hB0 hB1; have hv1 : w.heap.size < w1.heap.size := Nat.lt_of_lt_of_le hs1 hy1; have hx1 : w.heap.size + 1 < w1.heap.size := Nat.lt_of_lt_of_le hs2 hy1)) | (go_at_call 18; (with_reducible refine Calls.mono (HU.out _ ?_) ?_); (first | exact hB0 | exact hW1 | exact hW2 | exact hW3 | exact hW4); rintro ee w2 ⟨rfl, hb2⟩; obtain ⟨hc2, hf2⟩ := bcell hb2; have hB2 := bel_step (w := W0) (by first | exact Below.refl _ _ | exact hB1 | exact hB2 | exact hB3 | exact hB4) hb2; have hy2 : W0.heap.size ≤ w2.heap.size := hB2.size; have hW2 := bel_step hB0 hB2; have hv2 : w.heap.size < w2.heap.size := Nat.lt_of_lt_of_le hs1 hy2; have hx2 : w.heap.size + 1 < w2.heap.size := Nat.lt_of_lt_of_le hs2 hy2))
      (go_returns; exact ⟨by rw [HQ.out]; rfl, by first | exact hW5 | exact hW4 | exact hW3 | exact hW2 | exact hW1 | (go_grown; done)⟩)
    | true =>
      rw [e2] at HU
      have HU := Lib.hid HU
      have hT := okT_t.1 e1
      have hU := okT_t.1 e2
      cases e3 : inPB f x g y with
      | false =>
        have HQ : Hid (prC f x n xs g y m ys (inR 0 150 z) = 2) := by show _ = _; unfold prC; rw [if_pos ⟨e1, e2⟩, if_neg (by simp [e3])]
        rw [e3] at HP
        have HP := Lib.hid HP
        clear e1 e2 e3 h h' HZ hT hU
        go_enter Try.func28, Try.ntmps28
        go_upto_region 1 with fail
        rw [← hW0]
        clear hW0
        have tok1 : True := trivial
        go_wp2_with (first | (clear tok1; (go_at_call 18; (with_reducible refine Calls.mono (HT.out _ ?_) ?_); (first | exact hB0 | exact hW1 | exact hW2 | exact hW3 | exact hW4); rintro ee w1 ⟨rfl, hb1⟩; obtain ⟨hc1, hf1⟩ := bcell hb1; have hB1 := bel_step (w := W0) (by first | exact Below.refl _ _ | exact hB1 | exact hB2 | exact hB3 | exact hB4) hb1; have hy1 : W0.heap.size ≤ w1.heap.size := hB1.size; have hW1 := bel_step hB0 hB1; have hv1 : w.heap.size < w1.heap.size := Nat.lt_of_lt_of_le hs1 hy1; have hx1 : w.heap.size + 1 < w1.heap.size := Nat.lt_of_lt_of_le hs2 hy1)) | (go_at_call 18; (with_reducible refine Calls.mono (HU.out _ ?_) ?_); (first | exact hB0 | exact hW1 | exact hW2 | exact hW3 | exact hW4); rintro ee w2 ⟨rfl, hb2⟩; obtain ⟨hc2, hf2⟩ := bcell hb2; have hB2 := bel_step (w := W0) (by first | exact Below.refl _ _ | exact hB1 | exact hB2 | exact hB3 | exact hB4) hb2; have hy2 : W0.heap.size ≤ w2.heap.size := hB2.size; have hW2 := bel_step hB0 hB2; have hv2 : w.heap.size < w2.heap.size := Nat.lt_of_lt_of_le hs1 hy2; have hx2 : w.heap.size + 1 < w2.heap.size := Nat.lt_of_lt_of_le hs2 hy2) | (go_at_call 57; (with_reducible refine Calls.mono (HP.out _) ?_); rintro ee w3 ⟨rfl, hb3⟩; obtain ⟨hc3, hf3⟩ := bcell hb3; have hB3 := bel_step (w := W0) (by first | exact hB4 | exact hB3 | exact hB2) hb3; have hy3 : W0.heap.size ≤ w3.heap.size := hB3.size; have hW3 := bel_step hB0 hB3; have hv3 : w.heap.size < w3.heap.size := Nat.lt_of_lt_of_le hs1 hy3; have hx3 : w.heap.size + 1 < w3.heap.size := Nat.lt_of_lt_of_le hs2 hy3))
        (go_returns; exact ⟨by rw [HQ.out]; rfl, by first | exact hW5 | exact hW4 | exact hW3 | exact hW2 | exact hW1 | (go_grown; done)⟩)
      | true =>
        rw [e3] at HP
        have HP := Lib.hid HP
        have e3' := e3
        simp only [inPB, Bool.and_eq_true, inR_iff] at e3'
        cases e4 : inR 0 150 z with
        | false =>
          have HQ : Hid (prC f x n xs g y m ys false = 2) := by show _ = _; unfold prC; rw [if_pos ⟨e1, e2⟩, if_neg (by simp)]
          rw [e4] at HZ
          have HZ := Lib.hid HZ
          clear e1 e2 e3 e3' e4 h h' hT hU
          go_enter Try.func28, Try.ntmps28
          go_upto_region 1 with fail
          rw [← hW0]
          clear hW0
          have tok1 : True := trivial
          have tok4 : True := trivial
          go_wp2_with (first | (clear tok1; (go_at_call 18; (with_reducible refine Calls.mono (HT.out _ ?_) ?_); (first | exact hB0 | exact hW1 | exact hW2 | exact hW3 | exact hW4); rintro ee w1 ⟨rfl, hb1⟩; obtain ⟨hc1, hf1⟩ := bcell hb1; have hB1 := bel_step (w := W0) (by first | exact Below.refl _ _ | exact hB1 | exact hB2 | exact hB3 | exact hB4) hb1; have hy1 : W0.heap.size ≤ w1.heap.size := hB1.size; have hW1 := bel_step hB0 hB1; have hv1 : w.heap.size < w1.heap.size := Nat.lt_of_lt_of_le hs1 hy1; have hx1 : w.heap.size + 1 < w1.heap.size := Nat.lt_of_lt_of_le hs2 hy1)) | (go_at_call 18; (with_reducible refine Calls.mono (HU.out _ ?_) ?_); (first | exact hB0 | exact hW1 | exact hW2 | exact hW3 | exact hW4); rintro ee w2 ⟨rfl, hb2⟩; obtain ⟨hc2, hf2⟩ := bcell hb2; have hB2 := bel_step (w := W0) (by first | exact Below.refl _ _ | exact hB1 | exact hB2 | exact hB3 | exact hB4) hb2; have hy2 : W0.heap.size ≤ w2.heap.size := hB2.size; have hW2 := bel_step hB0 hB2; have hv2 : w.heap.size < w2.heap.size := Nat.lt_of_lt_of_le hs1 hy2; have hx2 : w.heap.size + 1 < w2.heap.size := Nat.lt_of_lt_of_le hs2 hy2) | (go_at_call 57; (with_reducible refine Calls.mono (HP.out _) ?_); rintro ee w3 ⟨rfl, hb3⟩; obtain ⟨hc3, hf3⟩ := bcell hb3; have hB3 := bel_step (w := W0) (by first | exact hB4 | exact hB3 | exact hB2) hb3; have hy3 : W0.heap.size ≤ w3.heap.size := hB3.size; have hW3 := bel_step hB0 hB3; have hv3 : w.heap.size < w3.heap.size := Nat.lt_of_lt_of_le hs1 hy3; have hx3 : w.heap.size + 1 < w3.heap.size := Nat.lt_of_lt_of_le hs2 hy3) | (go_at_call 37; (with_reducible refine (HZ.out _).mono ?_); rintro ee w9 ⟨rfl, rfl⟩))
          (go_returns; exact ⟨by rw [HQ.out]; rfl, by first | exact hW5 | exact hW4 | exact hW3 | exact hW2 | exact hW1 | (go_grown; done)⟩)
        | true =>
          rw [e4] at HZ
          have HZ := Lib.hid HZ
          have HX := fun W (hB : Below w.heap.size w W) => iLives_any f A n c xs x W ((h.below hB).more hB.size) hT.1 hT.2.1.2 ⟨by omega, by omega⟩
          have HY := fun W (hB : Below w.heap.size w W) => iLives_any g B m d ys y W ((h'.below hB).more hB.size) hU.1 hU.2.1.2 ⟨by omega, by omega⟩
          by_cases e5 : lv f n xs x = 0
          · have HQ : Hid (prC f x n xs g y m ys true = 5) := by show _ = _; unfold prC; rw [if_pos ⟨e1, e2⟩, if_pos ⟨e3, rfl⟩, if_pos (.inl e5)]
            rw [e5] at HX
            have HX := Lib.hid HX
            clear e1 e2 e3 e3' e4 e5 h h' hT hU HY
            go_enter Try.func28, Try.ntmps28
            go_upto_region 1 with fail
            rw [← hW0]
            clear hW0
            have tok1 : True := trivial
            have tok4 : True := trivial
            go_wp2_with (first | (clear tok1; (go_at_call 18; (with_reducible refine Calls.mono (HT.out _ ?_) ?_); (first | exact hB0 | exact hW1 | exact hW2 | exact hW3 | exact hW4); rintro ee w1 ⟨rfl, hb1⟩; obtain ⟨hc1, hf1⟩ := bcell hb1; have hB1 := bel_step (w := W0) (by first | exact Below.refl _ _ | exact hB1 | exact hB2 | exact hB3 | exact hB4) hb1; have hy1 : W0.heap.size ≤ w1.heap.size := hB1.size; have hW1 := bel_step hB0 hB1; have hv1 : w.heap.size < w1.heap.size := Nat.lt_of_lt_of_le hs1 hy1; have hx1 : w.heap.size + 1 < w1.heap.size := Nat.lt_of_lt_of_le hs2 hy1)) | (go_at_call 18; (with_reducible refine Calls.mono (HU.out _ ?_) ?_); (first | exact hB0 | exact hW1 | exact hW2 | exact hW3 | exact hW4); rintro ee w2 ⟨rfl, hb2⟩; obtain ⟨hc2, hf2⟩ := bcell hb2; have hB2 := bel_step (w := W0) (by first | exact Below.refl _ _ | exact hB1 | exact hB2 | exact hB3 | exact hB4) hb2; have hy2 : W0.heap.size ≤ w2.heap.size := hB2.size; have hW2 := bel_step hB0 hB2; have hv2 : w.heap.size < w2.heap.size := Nat.lt_of_lt_of_le hs1 hy2; have hx2 : w.heap.size + 1 < w2.heap.size := Nat.lt_of_lt_of_le hs2 hy2) | (go_at_call 57; (with_reducible refine Calls.mono (HP.out _) ?_); rintro ee w3 ⟨rfl, hb3⟩; obtain ⟨hc3, hf3⟩ := bcell hb3; have hB3 := bel_step (w := W0) (by first | exact hB4 | exact hB3 | exact hB2) hb3; have hy3 : W0.heap.size ≤ w3.heap.size := hB3.size; have hW3 := bel_step hB0 hB3; have hv3 : w.heap.size < w3.heap.size := Nat.lt_of_lt_of_le hs1 hy3; have hx3 : w.heap.size + 1 < w3.heap.size := Nat.lt_of_lt_of_le hs2 hy3) | (go_at_call 37; (with_reducible refine (HZ.out _).mono ?_); rintro ee w9 ⟨rfl, rfl⟩) | (go_at_call 58; (with_reducible refine Calls.mono (HX.out _ ?_) ?_); (first | exact hB0 | exact hW1 | exact hW2 | exact hW3 | exact hW4); rintro ee w4 ⟨rfl, hb4⟩; obtain ⟨hc4, hf4⟩ := bcell hb4; have hB4 := bel_step (w := W0) (by first | exact Below.refl _ _ | exact hB1 | exact hB2 | exact hB3 | exact hB4) hb4; have hy4 : W0.heap.size ≤ w4.heap.size := hB4.size; have hW4 := bel_step hB0 hB4; have hv4 : w.heap.size < w4.heap.size := Nat.lt_of_lt_of_le hs1 hy4; have hx4 : w.heap.size + 1 < w4.heap.size := Nat.lt_of_lt_of_le hs2 hy4))
            (go_returns; exact ⟨by rw [HQ.out]; rfl, by first | exact hW5 | exact hW4 | exact hW3 | exact hW2 | exact hW1 | (go_grown; done)⟩)
          · by_cases e6 : lv g m ys y = 0
            · have HQ : Hid (prC f x n xs g y m ys true = 5) := by show _ = _; unfold prC; rw [if_pos ⟨e1, e2⟩, if_pos ⟨e3, rfl⟩, if_pos (.inr e6)]
              rw [e6] at HY
              generalize lv f n xs x = X at *
              have HX := Lib.hid HX
              have HY := Lib.hid HY
              clear e1 e2 e3 e3' e4 e6 h h' hT hU
              go_enter Try.func28, Try.ntmps28
              go_upto_region 1 with fail
              rw [← hW0]
              clear hW0
              have tok1 : True := trivial
              have tok4 : True := trivial
              go_wp2_with (first | (clear tok1; (go_at_call 18; (with_reducible refine Calls.mono (HT.out _ ?_) ?_); (first | exact hB0 | exact hW1 | exact hW2 | exact hW3 | exact hW4); rintro ee w1 ⟨rfl, hb1⟩; obtain ⟨hc1, hf1⟩ := bcell hb1; have hB1 := bel_step (w := W0) (by first | exact Below.refl _ _ | exact hB1 | exact hB2 | exact hB3 | exact hB4) hb1; have hy1 : W0.heap.size ≤ w1.heap.size := hB1.size; have hW1 := bel_step hB0 hB1; have hv1 : w.heap.size < w1.heap.size := Nat.lt_of_lt_of_le hs1 hy1; have hx1 : w.heap.size + 1 < w1.heap.size := Nat.lt_of_lt_of_le hs2 hy1)) | (go_at_call 18; (with_reducible refine Calls.mono (HU.out _ ?_) ?_); (first | exact hB0 | exact hW1 | exact hW2 | exact hW3 | exact hW4); rintro ee w2 ⟨rfl, hb2⟩; obtain ⟨hc2, hf2⟩ := bcell hb2; have hB2 := bel_step (w := W0) (by first | exact Below.refl _ _ | exact hB1 | exact hB2 | exact hB3 | exact hB4) hb2; have hy2 : W0.heap.size ≤ w2.heap.size := hB2.size; have hW2 := bel_step hB0 hB2; have hv2 : w.heap.size < w2.heap.size := Nat.lt_of_lt_of_le hs1 hy2; have hx2 : w.heap.size + 1 < w2.heap.size := Nat.lt_of_lt_of_le hs2 hy2) | (go_at_call 57; (with_reducible refine Calls.mono (HP.out _) ?_); rintro ee w3 ⟨rfl, hb3⟩; obtain ⟨hc3, hf3⟩ := bcell hb3; have hB3 := bel_step (w := W0) (by first | exact hB4 | exact hB3 | exact hB2) hb3; have hy3 : W0.heap.size ≤ w3.heap.size := hB3.size; have hW3 := bel_step hB0 hB3; have hv3 : w.heap.size < w3.heap.size := Nat.lt_of_lt_of_le hs1 hy3; have hx3 : w.heap.size + 1 < w3.heap.size := Nat.lt_of_lt_of_le hs2 hy3) | (go_at_call 37; (with_reducible refine (HZ.out _).mono ?_); rintro ee w9 ⟨rfl, rfl⟩) | (clear tok4; (go_at_call 58; (with_reducible refine Calls.mono (HX.out _ ?_) ?_); (first | exact hB0 | exact hW1 | exact hW2 | exact hW3 | exact hW4); rintro ee w4 ⟨rfl, hb4⟩; obtain ⟨hc4, hf4⟩ := bcell hb4; have hB4 := bel_step (w := W0) (by first | exact Below.refl _ _ | exact hB1 | exact hB2 | exact hB3 | exact hB4) hb4; have hy4 : W0.heap.size ≤ w4.heap.size := hB4.size; have hW4 := bel_step hB0 hB4; have hv4 : w.heap.size < w4.heap.size := Nat.lt_of_lt_of_le hs1 hy4; have hx4 : w.heap.size + 1 < w4.heap.size := Nat.lt_of_lt_of_le hs2 hy4)) | (go_at_call 58; (with_reducible refine Calls.mono (HY.out _ ?_) ?_); (first | exact hB0 | exact hW1 | exact hW2 | exact hW3 | exact hW4); rintro ee w5 ⟨rfl, hb5⟩; obtain ⟨hc5, hf5⟩ := bcell hb5; have hB5 := bel_step (w := W0) (by first | exact Below.refl _ _ | exact hB1 | exact hB2 | exact hB3 | exact hB4) hb5; have hy5 : W0.heap.size ≤ w5.heap.size := hB5.size; have hW5 := bel_step hB0 hB5; have hv5 : w.heap.size < w5.heap.size := Nat.lt_of_lt_of_le hs1 hy5; have hx5 : w.heap.size + 1 < w5.heap.size := Nat.lt_of_lt_of_le hs2 hy5))
              (go_returns; exact ⟨by rw [HQ.out]; rfl, by first | exact hW5 | exact hW4 | exact hW3 | exact hW2 | exact hW1 | (go_grown; done)⟩)
            · have HQ : Hid (prC f x n xs g y m ys true = 0) := by show _ = _; unfold prC; rw [if_pos ⟨e1, e2⟩, if_pos ⟨e3, rfl⟩, if_neg (by simp [e5, e6])]
              generalize lv f n xs x = X at *
              generalize lv g m ys y = Y at *
              have x0 : (X == (0 : Int)) = false := by simpa using e5
              have y0 : (Y == (0 : Int)) = false := by simpa using e6
              have HX := Lib.hid HX
              have HY := Lib.hid HY
              clear e1 e2 e3 e3' e4 h h' hT hU
              go_enter Try.func28, Try.ntmps28
              go_upto_region 1 with fail
              rw [← hW0]
              clear hW0
              have tok1 : True := trivial
              have tok4 : True := trivial
              go_wp2_with (first | (clear tok1; (go_at_call 18; (with_reducible refine Calls.mono (HT.out _ ?_) ?_); (first | exact hB0 | exact hW1 | exact hW2 | exact hW3 | exact hW4); rintro ee w1 ⟨rfl, hb1⟩; obtain ⟨hc1, hf1⟩ := bcell hb1; have hB1 := bel_step (w := W0) (by first | exact Below.refl _ _ | exact hB1 | exact hB2 | exact hB3 | exact hB4) hb1; have hy1 : W0.heap.size ≤ w1.heap.size := hB1.size; have hW1 := bel_step hB0 hB1; have hv1 : w.heap.size < w1.heap.size := Nat.lt_of_lt_of_le hs1 hy1; have hx1 : w.heap.size + 1 < w1.heap.size := Nat.lt_of_lt_of_le hs2 hy1)) | (go_at_call 18; (with_reducible refine Calls.mono (HU.out _ ?_) ?_); (first | exact hB0 | exact hW1 | exact hW2 | exact hW3 | exact hW4); rintro ee w2 ⟨rfl, hb2⟩; obtain ⟨hc2, hf2⟩ := bcell hb2; have hB2 := bel_step (w := W0) (by first | exact Below.refl _ _ | exact hB1 | exact hB2 | exact hB3 | exact hB4) hb2; have hy2 : W0.heap.size ≤ w2.heap.size := hB2.size; have hW2 := bel_step hB0 hB2; have hv2 : w.heap.size < w2.heap.size := Nat.lt_of_lt_of_le hs1 hy2; have hx2 : w.heap.size + 1 < w2.heap.size := Nat.lt_of_lt_of_le hs2 hy2) | (go_at_call 57; (with_reducible refine Calls.mono (HP.out _) ?_); rintro ee w3 ⟨rfl, hb3⟩; obtain ⟨hc3, hf3⟩ := bcell hb3; have hB3 := bel_step (w := W0) (by first | exact hB4 | exact hB3 | exact hB2) hb3; have hy3 : W0.heap.size ≤ w3.heap.size := hB3.size; have hW3 := bel_step hB0 hB3; have hv3 : w.heap.size < w3.heap.size := Nat.lt_of_lt_of_le hs1 hy3; have hx3 : w.heap.size + 1 < w3.heap.size := Nat.lt_of_lt_of_le hs2 hy3) | (go_at_call 37; (with_reducible refine (HZ.out _).mono ?_); rintro ee w9 ⟨rfl, rfl⟩) | (clear tok4; (go_at_call 58; (with_reducible refine Calls.mono (HX.out _ ?_) ?_); (first | exact hB0 | exact hW1 | exact hW2 | exact hW3 | exact hW4); rintro ee w4 ⟨rfl, hb4⟩; obtain ⟨hc4, hf4⟩ := bcell hb4; have hB4 := bel_step (w := W0) (by first | exact Below.refl _ _ | exact hB1 | exact hB2 | exact hB3 | exact hB4) hb4; have hy4 : W0.heap.size ≤ w4.heap.size := hB4.size; have hW4 := bel_step hB0 hB4; have hv4 : w.heap.size < w4.heap.size := Nat.lt_of_lt_of_le hs1 hy4; have hx4 : w.heap.size + 1 < w4.heap.size := Nat.lt_of_lt_of_le hs2 hy4)) | (go_at_call 58; (with_reducible refine Calls.mono (HY.out _ ?_) ?_); (first | exact hB0 | exact hW1 | exact hW2 | exact hW3 | exact hW4); rintro ee w5 ⟨rfl, hb5⟩; obtain ⟨hc5, hf5⟩ := bcell hb5; have hB5 := bel_step (w := W0) (by first | exact Below.refl _ _ | exact hB1 | exact hB2 | exact hB3 | exact hB4) hb5; have hy5 : W0.heap.size ≤ w5.heap.size := hB5.size; have hW5 := bel_step hB0 hB5; have hv5 : w.heap.size < w5.heap.size := Nat.lt_of_lt_of_le hs1 hy5; have hx5 : w.heap.size + 1 < w5.heap.size := Nat.lt_of_lt_of_le hs2 hy5))
              (go_returns; exact ⟨by rw [HQ.out]; rfl, by first | exact hW5 | exact hW4 | exact hW3 | exact hW2 | exact hW1 | (go_grown; done)⟩)
end Go.Proofs.Ytmefjjamkebinaa
