/-
  Contracts of the functions of chapter 8, the reference's side: the code of two tables.
-/
import Derived.Test.YtmefjjamkebinaaJ3
set_option linter.unusedSimpArgs false
set_option linter.unusedVariables false
namespace Go.Proofs.Ytmefjjamkebinaa
open Go.RowKit
set_option maxHeartbeats 2000000 in
theorem sPair_any (f x : Int) (A : Option Addr) (n c : Nat) (xs : List Int) (g y : Int) (B : Option Addr) (m d : Nat) (ys : List Int) (t : Bool) (w : World) (h : RdI w w.heap.size A n xs) (hc : n ≤ c) (hcm : c ≤ maxLen) (hn : n ≤ 1048576) (h' : RdI w w.heap.size B m ys) (hd : m ≤ d) (hdm : d ≤ maxLen) (hm : m ≤ 1048576) : Calls Try.prog 25 #[.agg #[.int .i64 f, .slice A n c], .int .i64 x, .agg #[.int .i64 g, .slice B m d], .int .i64 y, .bool t] w fun e w' => e = .returned (.int .i64 (prC f x n xs g y m ys t)) ∧ Below w.heap.size w w' := by
  have HT := fun W (hB : Below w.heap.size w W) => sIsT_any f A n c xs W ((h.below hB).more hB.size) hc hcm hn
  have HU := fun W (hB : Below w.heap.size w W) => sIsT_any g B m d ys W ((h'.below hB).more hB.size) hd hdm hm
  have HP := fun W => sIn_any x f 100 W
  have HZ := fun W => sIn_any y g 150 W
  obtain ⟨W0, hW0⟩ : ∃ W0 : World, W0 = (w.alloc (.cells #[.int .i64 f, .slice A n c] 26)).alloc (.cells #[.int .i64 g, .slice B m d] 26) := ⟨_, rfl⟩
  have hB0 : Below w.heap.size w W0 := by rw [hW0]; exact ((Below.refl _ _).alloc (Nat.le_refl _) _).alloc (by simp) _
  have hs0 : W0.heap.size = w.heap.size + 1 + 1 := by rw [hW0]; simp
  have c0 : W0.cell? ⟨w.heap.size, 0, none⟩ = some (.int .i64 f) := by rw [hW0]; simp [go_sem]
  have c1 : W0.cell? ⟨w.heap.size, 1, none⟩ = some (.slice A n c) := by rw [hW0]; simp [go_sem]
  have c2 : W0.cell? ⟨w.heap.size + 1, 0, none⟩ = some (.int .i64 g) := by rw [hW0]; simp [go_sem]
  have c3 : W0.cell? ⟨w.heap.size + 1, 1, none⟩ = some (.slice B m d) := by rw [hW0]; simp [go_sem]
  have hs1 : w.heap.size < W0.heap.size := by omega
  have hs2 : w.heap.size + 1 < W0.heap.size := by omega
  clear hs0
  cases e1 : okT f n xs with
  | false =>
    have HQ : Hid (prC f x n xs g y m ys t = 1) := by show _ = _; unfold prC; rw [if_neg (by simp [e1])]
    rw [e1] at HT
    have HT := Lib.hid HT
    clear e1 h h' HU HP HZ
    go_enter Try.func25, Try.ntmps25
    go_upto_region 1 with fail
    rw [← hW0]
    clear hW0
    have tok1 : True := trivial
    have tok4 : True := trivial
    go_wp2_with (go_at_call 55; (with_reducible refine Calls.mono (HT.out _ ?_) ?_); (first | exact hB0 | exact hW1 | exact hW2 | exact hW3 | exact hW4); rintro ee w1 ⟨rfl, hb1⟩; obtain ⟨hc1, hf1⟩ := bcell hb1; have hB1 := bel_step (w := W0) (by first | exact Below.refl _ _ | exact hB1 | exact hB2 | exact hB3 | exact hB4) hb1; have hy1 : W0.heap.size ≤ w1.heap.size := hB1.size; have hW1 := bel_step hB0 hB1; have hv1 : w.heap.size < w1.heap.size := Nat.lt_of_lt_of_le hs1 hy1; have hx1 : w.heap.size + 1 < w1.heap.size := Nat.lt_of_lt_of_le hs2 hy1)
    (go_returns; exact ⟨by rw [HQ.out]; rfl, by first | exact hW5 | exact hW4 | exact hW3 | exact hW2 | exact hW1 | (go_grown; done)⟩)
  | true =>
    rw [e1] at HT
    have HT := Lib.hid HT
    cases e2 : okT g m ys with
    | false =>
      have HQ : Hid (prC f x n xs g y m ys t = 1) := by show _ = _; unfold prC; rw [if_neg (by simp [e2])]
      rw [e2] at HU
      have HU := Lib.hid HU
      clear e1 e2 h h' HP HZ
      go_enter Try.func25, Try.ntmps25
      go_upto_region 1 with fail
      rw [← hW0]
      clear hW0
      have tok1 : True := trivial
      have tok4 : True := trivial
      go_wp2_with (first | (clear tok1; (go_at_call 55; (with_reducible refine Calls.mono (HT.out _ ?_) ?_); (first | exact hB0 | exact hW1 | exact hW2 | exact hW3 | exact hW4); rintro ee w1 ⟨rfl, hb1⟩; obtain ⟨hc1, hf1⟩ := bcell hb1; have hB1 := bel_step (w := W0) (by first | exact Below.refl _ _ | exact hB1 | exact hB2 | exact hB3 | exact hB4) hb1; have hy1 : W0.heap.size ≤ w1.heap.size := hB1.size; have hW1 := bel_step hB0 hB1; have hv1 : w.heap.size < w1.heap.size := Nat.lt_of_lt_of_le hs1 hy1; have hx1 : w.heap.size + 1 < w1.heap.size := Nat.lt_of_lt_of_le hs2 hy1)) | (go_at_call 55; (with_reducible refine Calls.mono (HU.out _ ?_) ?_); (first | exact hB0 | exact hW1 | exact hW2 | exact hW3 | exact hW4); rintro ee w2 ⟨rfl, hb2⟩; obtain ⟨hc2, hf2⟩ := bcell hb2; have hB2 := bel_step (w := W0) (by first | exact Below.refl _ _ | exact hB1 | exact hB2 | exact hB3 | exact hB4) hb2; have hy2 : W0.heap.size ≤ w2.heap.size := hB2.size; have hW2 := bel_step hB0 hB2; have hv2 : w.heap.size < w2.heap.size := Nat.lt_of_lt_of_le hs1 hy2; have hx2 : w.heap.size + 1 < w2.heap.size := Nat.lt_of_lt_of_le hs2 hy2))
      (go_returns; exact ⟨by rw [HQ.out]; rfl, by first | exact hW5 | exact hW4 | exact hW3 | exact hW2 | exact hW1 | (go_grown; done)⟩)
    | true =>
      rw [e2] at HU
      have HU := Lib.hid HU
      have hT := okT_t.1 e1
      have hU := okT_t.1 e2
      have hP : inPB f x g y = (inR f 100 x && inR g 150 y) := by
        have hf := hT.1
        unfold inPB inR
        by_cases k1 : f ≤ x <;> by_cases k2 : x ≤ 100 <;> simp [k1, k2] <;> omega
      cases e3 : inR f 100 x with
      | false =>
        have HQ : Hid (prC f x n xs g y m ys t = 2) := by show _ = _; unfold prC; rw [if_pos ⟨e1, e2⟩, hP, e3, if_neg (by simp)]
        rw [e3] at HP
        have HP := Lib.hid HP
        clear e1 e2 e3 h h' HZ hT hU hP
        go_enter Try.func25, Try.ntmps25
        go_upto_region 1 with fail
        rw [← hW0]
        clear hW0
        have tok1 : True := trivial
        have tok4 : True := trivial
        go_wp2_with (first | (clear tok1; (go_at_call 55; (with_reducible refine Calls.mono (HT.out _ ?_) ?_); (first | exact hB0 | exact hW1 | exact hW2 | exact hW3 | exact hW4); rintro ee w1 ⟨rfl, hb1⟩; obtain ⟨hc1, hf1⟩ := bcell hb1; have hB1 := bel_step (w := W0) (by first | exact Below.refl _ _ | exact hB1 | exact hB2 | exact hB3 | exact hB4) hb1; have hy1 : W0.heap.size ≤ w1.heap.size := hB1.size; have hW1 := bel_step hB0 hB1; have hv1 : w.heap.size < w1.heap.size := Nat.lt_of_lt_of_le hs1 hy1; have hx1 : w.heap.size + 1 < w1.heap.size := Nat.lt_of_lt_of_le hs2 hy1)) | (go_at_call 55; (with_reducible refine Calls.mono (HU.out _ ?_) ?_); (first | exact hB0 | exact hW1 | exact hW2 | exact hW3 | exact hW4); rintro ee w2 ⟨rfl, hb2⟩; obtain ⟨hc2, hf2⟩ := bcell hb2; have hB2 := bel_step (w := W0) (by first | exact Below.refl _ _ | exact hB1 | exact hB2 | exact hB3 | exact hB4) hb2; have hy2 : W0.heap.size ≤ w2.heap.size := hB2.size; have hW2 := bel_step hB0 hB2; have hv2 : w.heap.size < w2.heap.size := Nat.lt_of_lt_of_le hs1 hy2; have hx2 : w.heap.size + 1 < w2.heap.size := Nat.lt_of_lt_of_le hs2 hy2) | (go_at_call 41; (with_reducible refine (HP.out _).mono ?_); rintro ee w8 ⟨rfl, rfl⟩))
        (go_returns; exact ⟨by rw [HQ.out]; rfl, by first | exact hW5 | exact hW4 | exact hW3 | exact hW2 | exact hW1 | (go_grown; done)⟩)
      | true =>
        rw [e3] at HP
        have HP := Lib.hid HP
        cases e4 : inR g 150 y with
        | false =>
          have HQ : Hid (prC f x n xs g y m ys t = 2) := by show _ = _; unfold prC; rw [if_pos ⟨e1, e2⟩, hP, e3, e4, if_neg (by simp)]
          rw [e4] at HZ
          have HZ := Lib.hid HZ
          clear e1 e2 e3 e4 h h' hT hU hP
          go_enter Try.func25, Try.ntmps25
          go_upto_region 1 with fail
          rw [← hW0]
          clear hW0
          have tok1 : True := trivial
          have tok4 : True := trivial
          go_wp2_with (first | (clear tok1; (go_at_call 55; (with_reducible refine Calls.mono (HT.out _ ?_) ?_); (first | exact hB0 | exact hW1 | exact hW2 | exact hW3 | exact hW4); rintro ee w1 ⟨rfl, hb1⟩; obtain ⟨hc1, hf1⟩ := bcell hb1; have hB1 := bel_step (w := W0) (by first | exact Below.refl _ _ | exact hB1 | exact hB2 | exact hB3 | exact hB4) hb1; have hy1 : W0.heap.size ≤ w1.heap.size := hB1.size; have hW1 := bel_step hB0 hB1; have hv1 : w.heap.size < w1.heap.size := Nat.lt_of_lt_of_le hs1 hy1; have hx1 : w.heap.size + 1 < w1.heap.size := Nat.lt_of_lt_of_le hs2 hy1)) | (go_at_call 55; (with_reducible refine Calls.mono (HU.out _ ?_) ?_); (first | exact hB0 | exact hW1 | exact hW2 | exact hW3 | exact hW4); rintro ee w2 ⟨rfl, hb2⟩; obtain ⟨hc2, hf2⟩ := bcell hb2; have hB2 := bel_step (w := W0) (by first | exact Below.refl _ _ | exact hB1 | exact hB2 | exact hB3 | exact hB4) hb2; have hy2 : W0.heap.size ≤ w2.heap.size := hB2.size; have hW2 := bel_step hB0 hB2; have hv2 : w.heap.size < w2.heap.size := Nat.lt_of_lt_of_le hs1 hy2; have hx2 : w.heap.size + 1 < w2.heap.size := Nat.lt_of_lt_of_le hs2 hy2) | (go_at_call 41; (with_reducible refine (HP.out _).mono ?_); rintro ee w8 ⟨rfl, rfl⟩) | (go_at_call 41; (with_reducible refine (HZ.out _).mono ?_); rintro ee w9 ⟨rfl, rfl⟩))
          (go_returns; exact ⟨by rw [HQ.out]; rfl, by first | exact hW5 | exact hW4 | exact hW3 | exact hW2 | exact hW1 | (go_grown; done)⟩)
        | true =>
          have hx := inR_iff.1 e3
          have hy := inR_iff.1 e4
          have hf0 := hT.1
          have hg0 := hU.1
          rw [e4] at HZ
          have HZ := Lib.hid HZ
          have HX := fun W (hB : Below w.heap.size w W) => sLives_any f A n c xs x W ((h.below hB).more hB.size) hT.1 hT.2.1.2 ⟨by omega, by omega⟩
          have HY := fun W (hB : Below w.heap.size w W) => sLives_any g B m d ys y W ((h'.below hB).more hB.size) hU.1 hU.2.1.2 ⟨by omega, by omega⟩
          cases t with
          | false =>
            have HQ : Hid (prC f x n xs g y m ys false = 2) := by show _ = _; unfold prC; rw [if_pos ⟨e1, e2⟩, if_neg (by simp)]
            clear e1 e2 e3 e4 h h' hT hU hP HX HY
            go_enter Try.func25, Try.ntmps25
            go_upto_region 1 with fail
            rw [← hW0]
            clear hW0
            have tok1 : True := trivial
            have tok4 : True := trivial
            go_wp2_with (first | (clear tok1; (go_at_call 55; (with_reducible refine Calls.mono (HT.out _ ?_) ?_); (first | exact hB0 | exact hW1 | exact hW2 | exact hW3 | exact hW4); rintro ee w1 ⟨rfl, hb1⟩; obtain ⟨hc1, hf1⟩ := bcell hb1; have hB1 := bel_step (w := W0) (by first | exact Below.refl _ _ | exact hB1 | exact hB2 | exact hB3 | exact hB4) hb1; have hy1 : W0.heap.size ≤ w1.heap.size := hB1.size; have hW1 := bel_step hB0 hB1; have hv1 : w.heap.size < w1.heap.size := Nat.lt_of_lt_of_le hs1 hy1; have hx1 : w.heap.size + 1 < w1.heap.size := Nat.lt_of_lt_of_le hs2 hy1)) | (go_at_call 55; (with_reducible refine Calls.mono (HU.out _ ?_) ?_); (first | exact hB0 | exact hW1 | exact hW2 | exact hW3 | exact hW4); rintro ee w2 ⟨rfl, hb2⟩; obtain ⟨hc2, hf2⟩ := bcell hb2; have hB2 := bel_step (w := W0) (by first | exact Below.refl _ _ | exact hB1 | exact hB2 | exact hB3 | exact hB4) hb2; have hy2 : W0.heap.size ≤ w2.heap.size := hB2.size; have hW2 := bel_step hB0 hB2; have hv2 : w.heap.size < w2.heap.size := Nat.lt_of_lt_of_le hs1 hy2; have hx2 : w.heap.size + 1 < w2.heap.size := Nat.lt_of_lt_of_le hs2 hy2) | (go_at_call 41; (with_reducible refine (HP.out _).mono ?_); rintro ee w8 ⟨rfl, rfl⟩) | (go_at_call 41; (with_reducible refine (HZ.out _).mono ?_); rintro ee w9 ⟨rfl, rfl⟩))
            (go_returns; exact ⟨by rw [HQ.out]; rfl, by first | exact hW5 | exact hW4 | exact hW3 | exact hW2 | exact hW1 | (go_grown; done)⟩)
          | true =>
            have e34 : inPB f x g y = true := by rw [hP, e3, e4]; rfl
            by_cases e5 : lv f n xs x = 0
            · have HQ : Hid (prC f x n xs g y m ys true = 5) := by show _ = _; unfold prC; rw [if_pos ⟨e1, e2⟩, if_pos ⟨e34, rfl⟩, if_pos (.inl e5)]
              rw [e5] at HX
              have HX := Lib.hid HX
              clear e1 e2 e3 e4 e5 e34 h h' hT hU hP HY
              go_enter Try.func25, Try.ntmps25
              go_upto_region 1 with fail
              rw [← hW0]
              clear hW0
              have tok1 : True := trivial
              have tok4 : True := trivial
              go_wp2_with (first | (clear tok1; (go_at_call 55; (with_reducible refine Calls.mono (HT.out _ ?_) ?_); (first | exact hB0 | exact hW1 | exact hW2 | exact hW3 | exact hW4); rintro ee w1 ⟨rfl, hb1⟩; obtain ⟨hc1, hf1⟩ := bcell hb1; have hB1 := bel_step (w := W0) (by first | exact Below.refl _ _ | exact hB1 | exact hB2 | exact hB3 | exact hB4) hb1; have hy1 : W0.heap.size ≤ w1.heap.size := hB1.size; have hW1 := bel_step hB0 hB1; have hv1 : w.heap.size < w1.heap.size := Nat.lt_of_lt_of_le hs1 hy1; have hx1 : w.heap.size + 1 < w1.heap.size := Nat.lt_of_lt_of_le hs2 hy1)) | (go_at_call 55; (with_reducible refine Calls.mono (HU.out _ ?_) ?_); (first | exact hB0 | exact hW1 | exact hW2 | exact hW3 | exact hW4); rintro ee w2 ⟨rfl, hb2⟩; obtain ⟨hc2, hf2⟩ := bcell hb2; have hB2 := bel_step (w := W0) (by first | exact Below.refl _ _ | exact hB1 | exact hB2 | exact hB3 | exact hB4) hb2; have hy2 : W0.heap.size ≤ w2.heap.size := hB2.size; have hW2 := bel_step hB0 hB2; have hv2 : w.heap.size < w2.heap.size := Nat.lt_of_lt_of_le hs1 hy2; have hx2 : w.heap.size + 1 < w2.heap.size := Nat.lt_of_lt_of_le hs2 hy2) | (go_at_call 41; (with_reducible refine (HP.out _).mono ?_); rintro ee w8 ⟨rfl, rfl⟩) | (go_at_call 41; (with_reducible refine (HZ.out _).mono ?_); rintro ee w9 ⟨rfl, rfl⟩) | (go_at_call 56; (with_reducible refine Calls.mono (HX.out _ ?_) ?_); (first | exact hB0 | exact hW1 | exact hW2 | exact hW3 | exact hW4); rintro ee w4 ⟨rfl, hb4⟩; obtain ⟨hc4, hf4⟩ := bcell hb4; have hB4 := bel_step (w := W0) (by first | exact Below.refl _ _ | exact hB1 | exact hB2 | exact hB3 | exact hB4) hb4; have hy4 : W0.heap.size ≤ w4.heap.size := hB4.size; have hW4 := bel_step hB0 hB4; have hv4 : w.heap.size < w4.heap.size := Nat.lt_of_lt_of_le hs1 hy4; have hx4 : w.heap.size + 1 < w4.heap.size := Nat.lt_of_lt_of_le hs2 hy4))
              (go_returns; exact ⟨by rw [HQ.out]; rfl, by first | exact hW5 | exact hW4 | exact hW3 | exact hW2 | exact hW1 | (go_grown; done)⟩)
            · by_cases e6 : lv g m ys y = 0
              · have HQ : Hid (prC f x n xs g y m ys true = 5) := by show _ = _; unfold prC; rw [if_pos ⟨e1, e2⟩, if_pos ⟨e34, rfl⟩, if_pos (.inr e6)]
                rw [e6] at HY
                generalize lv f n xs x = X at *
                have HX := Lib.hid HX
                have HY := Lib.hid HY
                clear e1 e2 e3 e4 e6 e34 h h' hT hU hP
                go_enter Try.func25, Try.ntmps25
                go_upto_region 1 with fail
                rw [← hW0]
                clear hW0
                have tok1 : True := trivial
                have tok4 : True := trivial
                go_wp2_with (first | (clear tok1; (go_at_call 55; (with_reducible refine Calls.mono (HT.out _ ?_) ?_); (first | exact hB0 | exact hW1 | exact hW2 | exact hW3 | exact hW4); rintro ee w1 ⟨rfl, hb1⟩; obtain ⟨hc1, hf1⟩ := bcell hb1; have hB1 := bel_step (w := W0) (by first | exact Below.refl _ _ | exact hB1 | exact hB2 | exact hB3 | exact hB4) hb1; have hy1 : W0.heap.size ≤ w1.heap.size := hB1.size; have hW1 := bel_step hB0 hB1; have hv1 : w.heap.size < w1.heap.size := Nat.lt_of_lt_of_le hs1 hy1; have hx1 : w.heap.size + 1 < w1.heap.size := Nat.lt_of_lt_of_le hs2 hy1)) | (go_at_call 55; (with_reducible refine Calls.mono (HU.out _ ?_) ?_); (first | exact hB0 | exact hW1 | exact hW2 | exact hW3 | exact hW4); rintro ee w2 ⟨rfl, hb2⟩; obtain ⟨hc2, hf2⟩ := bcell hb2; have hB2 := bel_step (w := W0) (by first | exact Below.refl _ _ | exact hB1 | exact hB2 | exact hB3 | exact hB4) hb2; have hy2 : W0.heap.size ≤ w2.heap.size := hB2.size; have hW2 := bel_step hB0 hB2; have hv2 : w.heap.size < w2.heap.size := Nat.lt_of_lt_of_le hs1 hy2; have hx2 : w.heap.size + 1 < w2.heap.size := Nat.lt_of_lt_of_le hs2 hy2) | (go_at_call 41; (with_reducible refine (HP.out _).mono ?_); rintro ee w8 ⟨rfl, rfl⟩) | (go_at_call 41; (with_reducible refine (HZ.out _).mono ?_); rintro ee w9 ⟨rfl, rfl⟩) | (clear tok4; (go_at_call 56; (with_reducible refine Calls.mono (HX.out _ ?_) ?_); (first | exact hB0 | exact hW1 | exact hW2 | exact hW3 | exact hW4); rintro ee w4 ⟨rfl, hb4⟩; obtain ⟨hc4, hf4⟩ := bcell hb4; have hB4 := bel_step (w := W0) (by first | exact Below.refl _ _ | exact hB1 | exact hB2 | exact hB3 | exact hB4) hb4; have hy4 : W0.heap.size ≤ w4.heap.size := hB4.size; have hW4 := bel_step hB0 hB4; have hv4 : w.heap.size < w4.heap.size := Nat.lt_of_lt_of_le hs1 hy4; have hx4 : w.heap.size + 1 < w4.heap.size := Nat.lt_of_lt_of_le hs2 hy4)) | (go_at_call 56; (with_reducible refine Calls.mono (HY.out _ ?_) ?_); (first | exact hB0 | exact hW1 | exact hW2 | exact hW3 | exact hW4); rintro ee w5 ⟨rfl, hb5⟩; obtain ⟨hc5, hf5⟩ := bcell hb5; have hB5 := bel_step (w := W0) (by first | exact Below.refl _ _ | exact hB1 | exact hB2 | exact hB3 | exact hB4) hb5; have hy5 : W0.heap.size ≤ w5.heap.size := hB5.size; have hW5 := bel_step hB0 hB5; have hv5 : w.heap.size < w5.heap.size := Nat.lt_of_lt_of_le hs1 hy5; have hx5 : w.heap.size + 1 < w5.heap.size := Nat.lt_of_lt_of_le hs2 hy5))
                (go_returns; exact ⟨by rw [HQ.out]; rfl, by first | exact hW5 | exact hW4 | exact hW3 | exact hW2 | exact hW1 | (go_grown; done)⟩)
              · have HQ : Hid (prC f x n xs g y m ys true = 0) := by show _ = _; unfold prC; rw [if_pos ⟨e1, e2⟩, if_pos ⟨e34, rfl⟩, if_neg (by simp [e5, e6])]
                generalize lv f n xs x = X at *
                generalize lv g m ys y = Y at *
                have x0 : (X == (0 : Int)) = false := by simpa using e5
                have y0 : (Y == (0 : Int)) = false := by simpa using e6
                have HX := Lib.hid HX
                have HY := Lib.hid HY
                clear e1 e2 e3 e4 e34 h h' hT hU hP
                go_enter Try.func25, Try.ntmps25
                go_upto_region 1 with fail
                rw [← hW0]
                clear hW0
                have tok1 : True := trivial
                have tok4 : True := trivial
                go_wp2_with (first | (clear tok1; (go_at_call 55; (with_reducible refine Calls.mono (HT.out _ ?_) ?_); (first | exact hB0 | exact hW1 | exact hW2 | exact hW3 | exact hW4); rintro ee w1 ⟨rfl, hb1⟩; obtain ⟨hc1, hf1⟩ := bcell hb1; have hB1 := bel_step (w := W0) (by first | exact Below.refl _ _ | exact hB1 | exact hB2 | exact hB3 | exact hB4) hb1; have hy1 : W0.heap.size ≤ w1.heap.size := hB1.size; have hW1 := bel_step hB0 hB1; have hv1 : w.heap.size < w1.heap.size := Nat.lt_of_lt_of_le hs1 hy1; have hx1 : w.heap.size + 1 < w1.heap.size := Nat.lt_of_lt_of_le hs2 hy1)) | (go_at_call 55; (with_reducible refine Calls.mono (HU.out _ ?_) ?_); (first | exact hB0 | exact hW1 | exact hW2 | exact hW3 | exact hW4); rintro ee w2 ⟨rfl, hb2⟩; obtain ⟨hc2, hf2⟩ := bcell hb2; have hB2 := bel_step (w := W0) (by first | exact Below.refl _ _ | exact hB1 | exact hB2 | exact hB3 | exact hB4) hb2; have hy2 : W0.heap.size ≤ w2.heap.size := hB2.size; have hW2 := bel_step hB0 hB2; have hv2 : w.heap.size < w2.heap.size := Nat.lt_of_lt_of_le hs1 hy2; have hx2 : w.heap.size + 1 < w2.heap.size := Nat.lt_of_lt_of_le hs2 hy2) | (go_at_call 41; (with_reducible refine (HP.out _).mono ?_); rintro ee w8 ⟨rfl, rfl⟩) | (go_at_call 41; (with_reducible refine (HZ.out _).mono ?_); rintro ee w9 ⟨rfl, rfl⟩) | (clear tok4; (go_at_call 56; (with_reducible refine Calls.mono (HX.out _ ?_) ?_); (first | exact hB0 | exact hW1 | exact hW2 | exact hW3 | exact hW4); rintro ee w4 ⟨rfl, hb4⟩; obtain ⟨hc4, hf4⟩ := bcell hb4; have hB4 := bel_step (w := W0) (by first | exact Below.refl _ _ | exact hB1 | exact hB2 | exact hB3 | exact hB4) hb4; have hy4 : W0.heap.size ≤ w4.heap.size := hB4.size; have hW4 := bel_step hB0 hB4; have hv4 : w.heap.size < w4.heap.size := Nat.lt_of_lt_of_le hs1 hy4; have hx4 : w.heap.size + 1 < w4.heap.size := Nat.lt_of_lt_of_le hs2 hy4)) | (go_at_call 56; (with_reducible refine Calls.mono (HY.out _ ?_) ?_); (first | exact hB0 | exact hW1 | exact hW2 | exact hW3 | exact hW4); rintro ee w5 ⟨rfl, hb5⟩; obtain ⟨hc5, hf5⟩ := bcell hb5; have hB5 := bel_step (w := W0) (by first | exact Below.refl _ _ | exact hB1 | exact hB2 | exact hB3 | exact hB4) hb5; have hy5 : W0.heap.size ≤ w5.heap.size := hB5.size; have hW5 := bel_step hB0 hB5; have hv5 : w.heap.size < w5.heap.size := Nat.lt_of_lt_of_le hs1 hy5; have hx5 : w.heap.size + 1 < w5.heap.size := Nat.lt_of_lt_of_le hs2 hy5))
                (go_returns; exact ⟨by rw [HQ.out]; rfl, by first | exact hW5 | exact hW4 | exact hW3 | exact hW2 | exact hW1 | (go_grown; done)⟩)
end Go.Proofs.Ytmefjjamkebinaa
