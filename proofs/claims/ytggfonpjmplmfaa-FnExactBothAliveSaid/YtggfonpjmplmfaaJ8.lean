/-
  The walks of two statements of chapter 8, BothAlive and OneAlive: the law returns true and turns nothing that was there. No condition.
-/
import Derived.Test.YtggfonpjmplmfaaJ7
import Derived.Test.YtggfonpjmplmfaaL3
set_option linter.unusedSimpArgs false
set_option linter.unusedVariables false
namespace Go.Proofs.Ytggfonpjmplmfaa
open Go.ChangeShapes Go.WideShapes Go.ChangeAt Go.RowKit Go.Deep
set_option maxHeartbeats 4000000 in
theorem fnExactBothAlive_walk (f x : Int) (A : Option Addr) (n c : Nat) (xs : List Int) (g y : Int) (B : Option Addr) (m d : Nat) (ys : List Int) (z : Int) (w : World) (h : RdI w w.heap.size A n xs) (hc : n ≤ c) (hcm : c ≤ maxLen) (h' : RdI w w.heap.size B m ys) (hd : m ≤ d) (hdm : d ≤ maxLen) : Calls Try.prog 7 #[.agg #[.int .i64 f, .slice A n c], .int .i64 x, .agg #[.int .i64 g, .slice B m d], .int .i64 y, .int .i64 z] w fun e' w' => e' = .returned (.bool true) ∧ Below w.heap.size w w' := by
  by_cases hn : n ≤ 1048576
  · by_cases hm : (m : Int) ≤ 1048576 - (n : Int)
    · skip
      have HZ := Lib.hid (fun W => szT_ok f A n c 1048576 W (by omega) (by omega))
      have HY := Lib.hid (fun W => szT_ok g B m d (1048576 - (n : Int)) W (by omega) (by omega))
      have HT := Lib.hid (fun W (hB : Below w.heap.size w W) => toT_any f A n c w.heap.size xs W (h.below hB) hB.size hn)
      have HU := Lib.hid (fun W (hB : Below w.heap.size w W) => toT_any g B m d w.heap.size ys W (h'.below hB) hB.size (by omega))
      have HE := Lib.hid (fun W A1 A2 c1 c2 h1 h2 => eqT_same f A1 A2 n c1 c2 W.heap.size W.heap.size xs W h1 h2 (Nat.le_refl _) (Nat.le_refl _) (Nat.le_trans hc hcm))
      have HF := Lib.hid (fun W A1 A2 c1 c2 h1 h2 => eqT_same g A1 A2 m c1 c2 W.heap.size W.heap.size ys W h1 h2 (Nat.le_refl _) (Nat.le_refl _) (Nat.le_trans hd hdm))
      have HS := fun W A' c' B' d' hR hc' hm' hR2 hc2 hm2 => sBothAlive_any f x A' n c' xs g y B' m d' ys z W hR hc' hm' hn hR2 hc2 hm2 (by omega)
      have HI := fun W A' c' B' d' hR hc' hm' hR2 hc2 hm2 => iBothAlive_any f x A' n c' xs g y B' m d' ys z W hR hc' hm' hn hR2 hc2 hm2 (by omega)
      obtain ⟨r1, r2, r3, hk⟩ := oaV_shape nBoth f x n xs g y m ys z
      rw [hk] at HS HI
      clear hk
      have HS := Lib.hid HS
      have HI := Lib.hid HI
      obtain ⟨W0, hW0⟩ : ∃ W0 : World, W0 = (w.alloc (.cells #[.int .i64 f, .slice A n c] 24)).alloc (.cells #[.int .i64 g, .slice B m d] 24) := ⟨_, rfl⟩
      have hB0 : Below w.heap.size w W0 := by rw [hW0]; exact ((Below.refl _ _).alloc (Nat.le_refl _) _).alloc (by simp) _
      have a_0 : W0.cell? ⟨w.heap.size, 0, none⟩ = some (.int .i64 f) := by rw [hW0]; simp [go_sem]
      have a_1 : W0.cell? ⟨w.heap.size, 1, none⟩ = some (.slice A n c) := by rw [hW0]; simp [go_sem]
      have a_2 : W0.cell? ⟨w.heap.size + 1, 0, none⟩ = some (.int .i64 g) := by rw [hW0]; simp [go_sem]
      have a_3 : W0.cell? ⟨w.heap.size + 1, 1, none⟩ = some (.slice B m d) := by rw [hW0]; simp [go_sem]
      clear h h' hc hcm hd hdm
      go_enter Try.func7, Try.ntmps7
      go_upto_region 1 with fail
      rw [← hW0]
      clear hW0
      have tok : True := trivial
      go_wp2_with (first | (go_at_call 14; clear tok; (with_reducible refine Calls.mono (HZ.out _) ?_); rintro ee w1 ⟨rfl, hb1⟩; have hB1 := bel_step hB0 hb1; have b_0 := keepC hb1 a_0; have b_1 := keepC hb1 a_1; have b_2 := keepC hb1 a_2; have b_3 := keepC hb1 a_3) | (go_at_call 14; (with_reducible refine Calls.mono (HY.out _) ?_); rintro ee w2 ⟨rfl, hb2⟩; have hB2 := bel_step hB1 hb2; have c_0 := keepC hb2 b_0; have c_1 := keepC hb2 b_1; have c_2 := keepC hb2 b_2; have c_3 := keepC hb2 b_3))
      have s4 : ∀ W', Below w2.heap.size w2 W' → Below w2.heap.size w2 W' ∧ W'.cell? ⟨w.heap.size, 0, none⟩ = some (.int .i64 f) ∧ W'.cell? ⟨w.heap.size, 1, none⟩ = some (.slice A n c) ∧ W'.cell? ⟨w.heap.size + 1, 0, none⟩ = some (.int .i64 g) ∧ W'.cell? ⟨w.heap.size + 1, 1, none⟩ = some (.slice B m d) := fun W' h => ⟨h, keepC h c_0, keepC h c_1, keepC h c_2, keepC h c_3⟩
      have S4 := Lib.hid s4
      clear s4 a_0 a_1 a_2 a_3 b_0 b_1 b_2 b_3
      go_region_held3 (fun W' => Below w2.heap.size w2 W' ∧ W'.cell? ⟨w.heap.size, 0, none⟩ = some (.int .i64 f) ∧ W'.cell? ⟨w.heap.size, 1, none⟩ = some (.slice A n c) ∧ W'.cell? ⟨w.heap.size + 1, 0, none⟩ = some (.int .i64 g) ∧ W'.cell? ⟨w.heap.size + 1, 1, none⟩ = some (.slice B m d)) (first | exact S4.out _ (Below.refl _ _).drew | exact S4.out _ hb5 | exact S4.out _ hb4 | exact S4.out _ hb3) (first | (go_at_call 16; (with_reducible refine Calls.mono (HT.out _ hB2.drew) ?_); rintro ee w3 ⟨A3, c3, rfl, hn3, hm3, hR3, hb3⟩; have Q3 := Lib.hid hR3; clear hR3; have hb3 := bel_step (w := w2) (Below.refl _ _).drew hb3; have hB3 := bel_step hB2 hb3) | (go_at_call 16; (with_reducible refine Calls.mono (HU.out _ hB3) ?_); rintro ee w4 ⟨A4, c4, rfl, hn4, hm4, hR4, hb4⟩; have Q4 := Lib.hid hR4; clear hR4; have P4 := Lib.hid (Q3.out.later hb4); have hb4 := bel_step hb3 hb4; have hB4 := bel_step hB2 hb4) | (go_at_call 25; (with_reducible refine Calls.mono (HS.out _ _ _ _ _ P4.out hn3 hm3 Q4.out hn4 hm4) ?_); rintro ee w5 ⟨rfl, hb5⟩; have hb5 := bel_step hb4 hb5; have hB5 := bel_step hB2 hb5))
      have d_0 := keepC hb5 c_0; have d_1 := keepC hb5 c_1; have d_2 := keepC hb5 c_2; have d_3 := keepC hb5 c_3
      clear c_0 c_1 c_2 c_3
      have tok6 : True := trivial
      go_wp2_with (go_at_call 16; clear tok6; (with_reducible refine Calls.mono (HT.out _ hB5) ?_); rintro ee w6 ⟨A6, c6, rfl, hn6, hm6, hR6, hb6⟩; have Q6 := Lib.hid hR6; clear hR6; have hB6 := bel_step hB5 hb6; have e_0 := keepC hb6 d_0; have e_1 := keepC hb6 d_1; have e_2 := keepC hb6 d_2; have e_3 := keepC hb6 d_3; have hy0 : w.heap.size < w6.heap.size := World.block_lt_of_cell? _ _ e_0; have hy1 : w.heap.size + 1 < w6.heap.size := World.block_lt_of_cell? _ _ e_2)
      obtain ⟨X6, hX6⟩ : ∃ X6 : World, X6 = w6.alloc (.cells #[.int .i64 f, .slice A6 n c6] 28) := ⟨_, rfl⟩
      have hbx : Below w6.heap.size w6 X6 := by rw [hX6]; exact (Below.refl _ _).alloc (Nat.le_refl _) _
      have g_0 : X6.cell? ⟨w6.heap.size, 0, none⟩ = some (.int .i64 f) := by rw [hX6]; simp [go_sem]
      have g_1 : X6.cell? ⟨w6.heap.size, 1, none⟩ = some (.slice A6 n c6) := by rw [hX6]; simp [go_sem]
      have h_0 := keepC hbx e_0; have h_1 := keepC hbx e_1; have h_2 := keepC hbx e_2; have h_3 := keepC hbx e_3
      have hBX := bel_step hB6 hbx
      have Q6X := Lib.hid (Q6.out.later hbx)
      rw [← hX6]
      clear hX6 hy0 hy1 e_0 e_1 e_2 e_3 d_0 d_1 d_2 d_3
      refine Calls.mono (HU.out X6 hBX) ?_
      rintro ee w7 ⟨A7, c7, rfl, hn7, hm7, hR7, hb7⟩
      have Q7 := Lib.hid hR7
      clear hR7
      have hB7 := bel_step hBX hb7
      have Q67 := Lib.hid (Q6X.out.later hb7)
      have i_0 := keepC hb7 h_0; have i_1 := keepC hb7 h_1; have i_2 := keepC hb7 h_2; have i_3 := keepC hb7 h_3
      have j_0 := keepC hb7 g_0
      have j_1 := keepC hb7 g_1
      clear h_0 h_1 h_2 h_3 g_0 g_1
      have hz0 : w.heap.size < w7.heap.size := World.block_lt_of_cell? _ _ i_0
      have hz1 : w.heap.size + 1 < w7.heap.size := World.block_lt_of_cell? _ _ i_2
      have hz2 : w6.heap.size < w7.heap.size := World.block_lt_of_cell? _ _ j_0
      go_wp2_with fail
      obtain ⟨X7, hX7⟩ : ∃ X7 : World, X7 = w7.alloc (.cells #[.int .i64 g, .slice A7 m c7] 28) := ⟨_, rfl⟩
      have hby : Below w7.heap.size w7 X7 := by rw [hX7]; exact (Below.refl _ _).alloc (Nat.le_refl _) _
      have g_0 : X7.cell? ⟨w7.heap.size, 0, none⟩ = some (.int .i64 g) := by rw [hX7]; simp [go_sem]
      have g_1 : X7.cell? ⟨w7.heap.size, 1, none⟩ = some (.slice A7 m c7) := by rw [hX7]; simp [go_sem]
      have k_0 := keepC hby i_0; have k_1 := keepC hby i_1; have k_2 := keepC hby i_2; have k_3 := keepC hby i_3
      have l_0 := keepC hby j_0
      have l_1 := keepC hby j_1
      have hBY := bel_step hB7 hby
      have Q7X := Lib.hid (Q7.out.later hby)
      have Q68 := Lib.hid (Q67.out.later hby)
      rw [← hX7]
      clear hX7 i_0 i_1 i_2 i_3 j_0 j_1 hz0 hz1 hz2
      refine Calls.mono (HI.out X7 _ _ _ _ Q68.out hn6 hm6 Q7X.out hn7 hm7) ?_
      rintro ee w8 ⟨rfl, hb8⟩
      have hB8 := bel_step hBY hb8
      have Q7Y := Lib.hid (Q7X.out.later hb8)
      have Q69 := Lib.hid (Q68.out.later hb8)
      have S8 := Lib.hid (fun W' (h : Below w8.heap.size w8 W') => And.intro h (And.intro (keepC h (keepC hb8 k_0)) (And.intro (keepC h (keepC hb8 k_1)) (And.intro (keepC h (keepC hb8 k_2)) (And.intro (keepC h (keepC hb8 k_3)) (And.intro (keepC h (keepC hb8 l_0)) (And.intro (keepC h (keepC hb8 l_1)) (And.intro (keepC h (keepC hb8 g_0)) (keepC h (keepC hb8 g_1))))))))))
      clear k_0 k_1 k_2 k_3 l_0 l_1 g_0 g_1 S4
      clear Q3 Q4 P4 Q6 Q6X Q67 Q68 Q7 Q7X HS HI HZ HY
      go_wp2_with fail
      go_region_held3 (fun W' => Below w8.heap.size w8 W' ∧ W'.cell? ⟨w.heap.size, 0, none⟩ = some (.int .i64 f) ∧ W'.cell? ⟨w.heap.size, 1, none⟩ = some (.slice A n c) ∧ W'.cell? ⟨w.heap.size + 1, 0, none⟩ = some (.int .i64 g) ∧ W'.cell? ⟨w.heap.size + 1, 1, none⟩ = some (.slice B m d) ∧ W'.cell? ⟨w6.heap.size, 0, none⟩ = some (.int .i64 f) ∧ W'.cell? ⟨w6.heap.size, 1, none⟩ = some (.slice A6 n c6) ∧ W'.cell? ⟨w7.heap.size, 0, none⟩ = some (.int .i64 g) ∧ W'.cell? ⟨w7.heap.size, 1, none⟩ = some (.slice A7 m c7)) (first | exact S8.out _ (Below.refl _ _).drew | exact S8.out _ hb10 | exact S8.out _ hb9) (first | (go_at_call 16; (with_reducible refine Calls.mono (HT.out _ hB8.drew) ?_); rintro ee w9 ⟨A9, c9, rfl, hn9, hm9, hR9, hb9⟩; have Q9 := Lib.hid hR9; clear hR9; have hb9 := bel_step (w := w8) (Below.refl _ _).drew hb9) | (go_at_call 18; (with_reducible refine Calls.mono (HE.out _ _ _ _ _ (Q69.out.later hb9) Q9.out) ?_); rintro ee w10 ⟨rfl, hb10⟩; have hb10 := bel_step hb9 hb10; have hB10 := bel_step hB8 hb10))
      have Q7Z := Lib.hid (Q7Y.out.later hb10)
      go_wp2_with fail
      go_region_held3 (fun W' => Below w8.heap.size w8 W' ∧ W'.cell? ⟨w.heap.size, 0, none⟩ = some (.int .i64 f) ∧ W'.cell? ⟨w.heap.size, 1, none⟩ = some (.slice A n c) ∧ W'.cell? ⟨w.heap.size + 1, 0, none⟩ = some (.int .i64 g) ∧ W'.cell? ⟨w.heap.size + 1, 1, none⟩ = some (.slice B m d) ∧ W'.cell? ⟨w6.heap.size, 0, none⟩ = some (.int .i64 f) ∧ W'.cell? ⟨w6.heap.size, 1, none⟩ = some (.slice A6 n c6) ∧ W'.cell? ⟨w7.heap.size, 0, none⟩ = some (.int .i64 g) ∧ W'.cell? ⟨w7.heap.size, 1, none⟩ = some (.slice A7 m c7)) (first | exact S8.out _ hb10.drew | exact S8.out _ hb12 | exact S8.out _ hb11) (first | (go_at_call 16; (with_reducible refine Calls.mono (HU.out _ hB10.drew) ?_); rintro ee w11 ⟨A11, c11, rfl, hn11, hm11, hR11, hb11⟩; have Q11 := Lib.hid hR11; clear hR11; have hx11 := bel_step (w := w10) (Below.refl _ _).drew hb11; have hb11 := bel_step hb10 hx11) | (go_at_call 18; (with_reducible refine Calls.mono (HF.out _ _ _ _ _ (Q7Z.out.later hx11) Q11.out) ?_); rintro ee w12 ⟨rfl, hb12⟩; have hb12 := bel_step hb11 hb12; have hB12 := bel_step hB8 hb12))
      go_wp2
      go_returns
      exact ⟨rfl, hB12⟩
    · have HZ := Lib.hid (fun W => szT_ok f A n c 1048576 W (by omega) (by omega))
      have HY := Lib.hid (fun W => szT_over g B m d (1048576 - (n : Int)) W (by omega) (by omega) (Nat.le_trans hd hdm))
      obtain ⟨W0, hW0⟩ : ∃ W0 : World, W0 = (w.alloc (.cells #[.int .i64 f, .slice A n c] 24)).alloc (.cells #[.int .i64 g, .slice B m d] 24) := ⟨_, rfl⟩
      have hB0 : Below w.heap.size w W0 := by rw [hW0]; exact ((Below.refl _ _).alloc (Nat.le_refl _) _).alloc (by simp) _
      have a_0 : W0.cell? ⟨w.heap.size, 0, none⟩ = some (.int .i64 f) := by rw [hW0]; simp [go_sem]
      have a_1 : W0.cell? ⟨w.heap.size, 1, none⟩ = some (.slice A n c) := by rw [hW0]; simp [go_sem]
      have a_2 : W0.cell? ⟨w.heap.size + 1, 0, none⟩ = some (.int .i64 g) := by rw [hW0]; simp [go_sem]
      have a_3 : W0.cell? ⟨w.heap.size + 1, 1, none⟩ = some (.slice B m d) := by rw [hW0]; simp [go_sem]
      clear h h' hc hcm hd hdm
      go_enter Try.func7, Try.ntmps7
      go_upto_region 1 with fail
      rw [← hW0]
      clear hW0
      have tok : True := trivial
      go_wp2_with (first | (go_at_call 14; clear tok; (with_reducible refine Calls.mono (HZ.out _) ?_); rintro ee w1 ⟨rfl, hb1⟩; have hB1 := bel_step hB0 hb1; have b_0 := keepC hb1 a_0; have b_1 := keepC hb1 a_1; have b_2 := keepC hb1 a_2; have b_3 := keepC hb1 a_3) | (go_at_call 14; (with_reducible refine Calls.mono (HY.out _) ?_); rintro ee w2 ⟨rfl, hb2⟩; have hB2 := bel_step hB1 hb2))
      go_returns
      exact ⟨rfl, hB2⟩
  · have HZ := Lib.hid (fun W => szT_big f A n c W (by omega) (Nat.le_trans hc hcm))
    obtain ⟨W0, hW0⟩ : ∃ W0 : World, W0 = (w.alloc (.cells #[.int .i64 f, .slice A n c] 24)).alloc (.cells #[.int .i64 g, .slice B m d] 24) := ⟨_, rfl⟩
    have hB0 : Below w.heap.size w W0 := by rw [hW0]; exact ((Below.refl _ _).alloc (Nat.le_refl _) _).alloc (by simp) _
    have a_0 : W0.cell? ⟨w.heap.size, 0, none⟩ = some (.int .i64 f) := by rw [hW0]; simp [go_sem]
    have a_1 : W0.cell? ⟨w.heap.size, 1, none⟩ = some (.slice A n c) := by rw [hW0]; simp [go_sem]
    clear h h'
    go_enter Try.func7, Try.ntmps7
    go_upto_region 1 with fail
    rw [← hW0]
    clear hW0
    go_wp2_with (go_at_call 14; (with_reducible refine Calls.mono (HZ.out _) ?_); rintro ee w1 ⟨rfl, hb1⟩; have hB1 := bel_step hB0 hb1)
    go_returns
    exact ⟨rfl, hB1⟩
set_option maxHeartbeats 4000000 in
theorem fnExactOneAlive_walk (f x : Int) (A : Option Addr) (n c : Nat) (xs : List Int) (g y : Int) (B : Option Addr) (m d : Nat) (ys : List Int) (z : Int) (w : World) (h : RdI w w.heap.size A n xs) (hc : n ≤ c) (hcm : c ≤ maxLen) (h' : RdI w w.heap.size B m ys) (hd : m ≤ d) (hdm : d ≤ maxLen) : Calls Try.prog 8 #[.agg #[.int .i64 f, .slice A n c], .int .i64 x, .agg #[.int .i64 g, .slice B m d], .int .i64 y, .int .i64 z] w fun e' w' => e' = .returned (.bool true) ∧ Below w.heap.size w w' := by
  by_cases hn : n ≤ 1048576
  · by_cases hm : (m : Int) ≤ 1048576 - (n : Int)
    · skip
      have HZ := Lib.hid (fun W => szT_ok f A n c 1048576 W (by omega) (by omega))
      have HY := Lib.hid (fun W => szT_ok g B m d (1048576 - (n : Int)) W (by omega) (by omega))
      have HT := Lib.hid (fun W (hB : Below w.heap.size w W) => toT_any f A n c w.heap.size xs W (h.below hB) hB.size hn)
      have HU := Lib.hid (fun W (hB : Below w.heap.size w W) => toT_any g B m d w.heap.size ys W (h'.below hB) hB.size (by omega))
      have HE := Lib.hid (fun W A1 A2 c1 c2 h1 h2 => eqT_same f A1 A2 n c1 c2 W.heap.size W.heap.size xs W h1 h2 (Nat.le_refl _) (Nat.le_refl _) (Nat.le_trans hc hcm))
      have HF := Lib.hid (fun W A1 A2 c1 c2 h1 h2 => eqT_same g A1 A2 m c1 c2 W.heap.size W.heap.size ys W h1 h2 (Nat.le_refl _) (Nat.le_refl _) (Nat.le_trans hd hdm))
      have HS := fun W A' c' B' d' hR hc' hm' hR2 hc2 hm2 => sOneAlive_any f x A' n c' xs g y B' m d' ys z W hR hc' hm' hn hR2 hc2 hm2 (by omega)
      have HI := fun W A' c' B' d' hR hc' hm' hR2 hc2 hm2 => iOneAlive_any f x A' n c' xs g y B' m d' ys z W hR hc' hm' hn hR2 hc2 hm2 (by omega)
      obtain ⟨r1, r2, r3, hk⟩ := oaV_shape nOne f x n xs g y m ys z
      rw [hk] at HS HI
      clear hk
      have HS := Lib.hid HS
      have HI := Lib.hid HI
      obtain ⟨W0, hW0⟩ : ∃ W0 : World, W0 = (w.alloc (.cells #[.int .i64 f, .slice A n c] 24)).alloc (.cells #[.int .i64 g, .slice B m d] 24) := ⟨_, rfl⟩
      have hB0 : Below w.heap.size w W0 := by rw [hW0]; exact ((Below.refl _ _).alloc (Nat.le_refl _) _).alloc (by simp) _
      have a_0 : W0.cell? ⟨w.heap.size, 0, none⟩ = some (.int .i64 f) := by rw [hW0]; simp [go_sem]
      have a_1 : W0.cell? ⟨w.heap.size, 1, none⟩ = some (.slice A n c) := by rw [hW0]; simp [go_sem]
      have a_2 : W0.cell? ⟨w.heap.size + 1, 0, none⟩ = some (.int .i64 g) := by rw [hW0]; simp [go_sem]
      have a_3 : W0.cell? ⟨w.heap.size + 1, 1, none⟩ = some (.slice B m d) := by rw [hW0]; simp [go_sem]
      clear h h' hc hcm hd hdm
      go_enter Try.func8, Try.ntmps8
      go_upto_region 1 with fail
      rw [← hW0]
      clear hW0
      have tok : True := trivial
      go_wp2_with (first | (go_at_call 14; clear tok; (with_reducible refine Calls.mono (HZ.out _) ?_); rintro ee w1 ⟨rfl, hb1⟩; have hB1 := bel_step hB0 hb1; have b_0 := keepC hb1 a_0; have b_1 := keepC hb1 a_1; have b_2 := keepC hb1 a_2; have b_3 := keepC hb1 a_3) | (go_at_call 14; (with_reducible refine Calls.mono (HY.out _) ?_); rintro ee w2 ⟨rfl, hb2⟩; have hB2 := bel_step hB1 hb2; have c_0 := keepC hb2 b_0; have c_1 := keepC hb2 b_1; have c_2 := keepC hb2 b_2; have c_3 := keepC hb2 b_3))
      have s4 : ∀ W', Below w2.heap.size w2 W' → Below w2.heap.size w2 W' ∧ W'.cell? ⟨w.heap.size, 0, none⟩ = some (.int .i64 f) ∧ W'.cell? ⟨w.heap.size, 1, none⟩ = some (.slice A n c) ∧ W'.cell? ⟨w.heap.size + 1, 0, none⟩ = some (.int .i64 g) ∧ W'.cell? ⟨w.heap.size + 1, 1, none⟩ = some (.slice B m d) := fun W' h => ⟨h, keepC h c_0, keepC h c_1, keepC h c_2, keepC h c_3⟩
      have S4 := Lib.hid s4
      clear s4 a_0 a_1 a_2 a_3 b_0 b_1 b_2 b_3
      go_region_held3 (fun W' => Below w2.heap.size w2 W' ∧ W'.cell? ⟨w.heap.size, 0, none⟩ = some (.int .i64 f) ∧ W'.cell? ⟨w.heap.size, 1, none⟩ = some (.slice A n c) ∧ W'.cell? ⟨w.heap.size + 1, 0, none⟩ = some (.int .i64 g) ∧ W'.cell? ⟨w.heap.size + 1, 1, none⟩ = some (.slice B m d)) (first | exact S4.out _ (Below.refl _ _).drew | exact S4.out _ hb5 | exact S4.out _ hb4 | exact S4.out _ hb3) (first | (go_at_call 16; (with_reducible refine Calls.mono (HT.out _ hB2.drew) ?_); rintro ee w3 ⟨A3, c3, rfl, hn3, hm3, hR3, hb3⟩; have Q3 := Lib.hid hR3; clear hR3; have hb3 := bel_step (w := w2) (Below.refl _ _).drew hb3; have hB3 := bel_step hB2 hb3) | (go_at_call 16; (with_reducible refine Calls.mono (HU.out _ hB3) ?_); rintro ee w4 ⟨A4, c4, rfl, hn4, hm4, hR4, hb4⟩; have Q4 := Lib.hid hR4; clear hR4; have P4 := Lib.hid (Q3.out.later hb4); have hb4 := bel_step hb3 hb4; have hB4 := bel_step hB2 hb4) | (go_at_call 27; (with_reducible refine Calls.mono (HS.out _ _ _ _ _ P4.out hn3 hm3 Q4.out hn4 hm4) ?_); rintro ee w5 ⟨rfl, hb5⟩; have hb5 := bel_step hb4 hb5; have hB5 := bel_step hB2 hb5))
      have d_0 := keepC hb5 c_0; have d_1 := keepC hb5 c_1; have d_2 := keepC hb5 c_2; have d_3 := keepC hb5 c_3
      clear c_0 c_1 c_2 c_3
      have tok6 : True := trivial
      go_wp2_with (go_at_call 16; clear tok6; (with_reducible refine Calls.mono (HT.out _ hB5) ?_); rintro ee w6 ⟨A6, c6, rfl, hn6, hm6, hR6, hb6⟩; have Q6 := Lib.hid hR6; clear hR6; have hB6 := bel_step hB5 hb6; have e_0 := keepC hb6 d_0; have e_1 := keepC hb6 d_1; have e_2 := keepC hb6 d_2; have e_3 := keepC hb6 d_3; have hy0 : w.heap.size < w6.heap.size := World.block_lt_of_cell? _ _ e_0; have hy1 : w.heap.size + 1 < w6.heap.size := World.block_lt_of_cell? _ _ e_2)
      obtain ⟨X6, hX6⟩ : ∃ X6 : World, X6 = w6.alloc (.cells #[.int .i64 f, .slice A6 n c6] 28) := ⟨_, rfl⟩
      have hbx : Below w6.heap.size w6 X6 := by rw [hX6]; exact (Below.refl _ _).alloc (Nat.le_refl _) _
      have g_0 : X6.cell? ⟨w6.heap.size, 0, none⟩ = some (.int .i64 f) := by rw [hX6]; simp [go_sem]
      have g_1 : X6.cell? ⟨w6.heap.size, 1, none⟩ = some (.slice A6 n c6) := by rw [hX6]; simp [go_sem]
      have h_0 := keepC hbx e_0; have h_1 := keepC hbx e_1; have h_2 := keepC hbx e_2; have h_3 := keepC hbx e_3
      have hBX := bel_step hB6 hbx
      have Q6X := Lib.hid (Q6.out.later hbx)
      rw [← hX6]
      clear hX6 hy0 hy1 e_0 e_1 e_2 e_3 d_0 d_1 d_2 d_3
      refine Calls.mono (HU.out X6 hBX) ?_
      rintro ee w7 ⟨A7, c7, rfl, hn7, hm7, hR7, hb7⟩
      have Q7 := Lib.hid hR7
      clear hR7
      have hB7 := bel_step hBX hb7
      have Q67 := Lib.hid (Q6X.out.later hb7)
      have i_0 := keepC hb7 h_0; have i_1 := keepC hb7 h_1; have i_2 := keepC hb7 h_2; have i_3 := keepC hb7 h_3
      have j_0 := keepC hb7 g_0
      have j_1 := keepC hb7 g_1
      clear h_0 h_1 h_2 h_3 g_0 g_1
      have hz0 : w.heap.size < w7.heap.size := World.block_lt_of_cell? _ _ i_0
      have hz1 : w.heap.size + 1 < w7.heap.size := World.block_lt_of_cell? _ _ i_2
      have hz2 : w6.heap.size < w7.heap.size := World.block_lt_of_cell? _ _ j_0
      go_wp2_with fail
      obtain ⟨X7, hX7⟩ : ∃ X7 : World, X7 = w7.alloc (.cells #[.int .i64 g, .slice A7 m c7] 28) := ⟨_, rfl⟩
      have hby : Below w7.heap.size w7 X7 := by rw [hX7]; exact (Below.refl _ _).alloc (Nat.le_refl _) _
      have g_0 : X7.cell? ⟨w7.heap.size, 0, none⟩ = some (.int .i64 g) := by rw [hX7]; simp [go_sem]
      have g_1 : X7.cell? ⟨w7.heap.size, 1, none⟩ = some (.slice A7 m c7) := by rw [hX7]; simp [go_sem]
      have k_0 := keepC hby i_0; have k_1 := keepC hby i_1; have k_2 := keepC hby i_2; have k_3 := keepC hby i_3
      have l_0 := keepC hby j_0
      have l_1 := keepC hby j_1
      have hBY := bel_step hB7 hby
      have Q7X := Lib.hid (Q7.out.later hby)
      have Q68 := Lib.hid (Q67.out.later hby)
      rw [← hX7]
      clear hX7 i_0 i_1 i_2 i_3 j_0 j_1 hz0 hz1 hz2
      refine Calls.mono (HI.out X7 _ _ _ _ Q68.out hn6 hm6 Q7X.out hn7 hm7) ?_
      rintro ee w8 ⟨rfl, hb8⟩
      have hB8 := bel_step hBY hb8
      have Q7Y := Lib.hid (Q7X.out.later hb8)
      have Q69 := Lib.hid (Q68.out.later hb8)
      have S8 := Lib.hid (fun W' (h : Below w8.heap.size w8 W') => And.intro h (And.intro (keepC h (keepC hb8 k_0)) (And.intro (keepC h (keepC hb8 k_1)) (And.intro (keepC h (keepC hb8 k_2)) (And.intro (keepC h (keepC hb8 k_3)) (And.intro (keepC h (keepC hb8 l_0)) (And.intro (keepC h (keepC hb8 l_1)) (And.intro (keepC h (keepC hb8 g_0)) (keepC h (keepC hb8 g_1))))))))))
      clear k_0 k_1 k_2 k_3 l_0 l_1 g_0 g_1 S4
      clear Q3 Q4 P4 Q6 Q6X Q67 Q68 Q7 Q7X HS HI HZ HY
      go_wp2_with fail
      go_region_held3 (fun W' => Below w8.heap.size w8 W' ∧ W'.cell? ⟨w.heap.size, 0, none⟩ = some (.int .i64 f) ∧ W'.cell? ⟨w.heap.size, 1, none⟩ = some (.slice A n c) ∧ W'.cell? ⟨w.heap.size + 1, 0, none⟩ = some (.int .i64 g) ∧ W'.cell? ⟨w.heap.size + 1, 1, none⟩ = some (.slice B m d) ∧ W'.cell? ⟨w6.heap.size, 0, none⟩ = some (.int .i64 f) ∧ W'.cell? ⟨w6.heap.size, 1, none⟩ = some (.slice A6 n c6) ∧ W'.cell? ⟨w7.heap.size, 0, none⟩ = some (.int .i64 g) ∧ W'.cell? ⟨w7.heap.size, 1, none⟩ = some (.slice A7 m c7)) (first | exact S8.out _ (Below.refl _ _).drew | exact S8.out _ hb10 | exact S8.out _ hb9) (first | (go_at_call 16; (with_reducible refine Calls.mono (HT.out _ hB8.drew) ?_); rintro ee w9 ⟨A9, c9, rfl, hn9, hm9, hR9, hb9⟩; have Q9 := Lib.hid hR9; clear hR9; have hb9 := bel_step (w := w8) (Below.refl _ _).drew hb9) | (go_at_call 18; (with_reducible refine Calls.mono (HE.out _ _ _ _ _ (Q69.out.later hb9) Q9.out) ?_); rintro ee w10 ⟨rfl, hb10⟩; have hb10 := bel_step hb9 hb10; have hB10 := bel_step hB8 hb10))
      have Q7Z := Lib.hid (Q7Y.out.later hb10)
      go_wp2_with fail
      go_region_held3 (fun W' => Below w8.heap.size w8 W' ∧ W'.cell? ⟨w.heap.size, 0, none⟩ = some (.int .i64 f) ∧ W'.cell? ⟨w.heap.size, 1, none⟩ = some (.slice A n c) ∧ W'.cell? ⟨w.heap.size + 1, 0, none⟩ = some (.int .i64 g) ∧ W'.cell? ⟨w.heap.size + 1, 1, none⟩ = some (.slice B m d) ∧ W'.cell? ⟨w6.heap.size, 0, none⟩ = some (.int .i64 f) ∧ W'.cell? ⟨w6.heap.size, 1, none⟩ = some (.slice A6 n c6) ∧ W'.cell? ⟨w7.heap.size, 0, none⟩ = some (.int .i64 g) ∧ W'.cell? ⟨w7.heap.size, 1, none⟩ = some (.slice A7 m c7)) (first | exact S8.out _ hb10.drew | exact S8.out _ hb12 | exact S8.out _ hb11) (first | (go_at_call 16; (with_reducible refine Calls.mono (HU.out _ hB10.drew) ?_); rintro ee w11 ⟨A11, c11, rfl, hn11, hm11, hR11, hb11⟩; have Q11 := Lib.hid hR11; clear hR11; have hx11 := bel_step (w := w10) (Below.refl _ _).drew hb11; have hb11 := bel_step hb10 hx11) | (go_at_call 18; (with_reducible refine Calls.mono (HF.out _ _ _ _ _ (Q7Z.out.later hx11) Q11.out) ?_); rintro ee w12 ⟨rfl, hb12⟩; have hb12 := bel_step hb11 hb12; have hB12 := bel_step hB8 hb12))
      go_wp2
      go_returns
      exact ⟨rfl, hB12⟩
    · have HZ := Lib.hid (fun W => szT_ok f A n c 1048576 W (by omega) (by omega))
      have HY := Lib.hid (fun W => szT_over g B m d (1048576 - (n : Int)) W (by omega) (by omega) (Nat.le_trans hd hdm))
      obtain ⟨W0, hW0⟩ : ∃ W0 : World, W0 = (w.alloc (.cells #[.int .i64 f, .slice A n c] 24)).alloc (.cells #[.int .i64 g, .slice B m d] 24) := ⟨_, rfl⟩
      have hB0 : Below w.heap.size w W0 := by rw [hW0]; exact ((Below.refl _ _).alloc (Nat.le_refl _) _).alloc (by simp) _
      have a_0 : W0.cell? ⟨w.heap.size, 0, none⟩ = some (.int .i64 f) := by rw [hW0]; simp [go_sem]
      have a_1 : W0.cell? ⟨w.heap.size, 1, none⟩ = some (.slice A n c) := by rw [hW0]; simp [go_sem]
      have a_2 : W0.cell? ⟨w.heap.size + 1, 0, none⟩ = some (.int .i64 g) := by rw [hW0]; simp [go_sem]
      have a_3 : W0.cell? ⟨w.heap.size + 1, 1, none⟩ = some (.slice B m d) := by rw [hW0]; simp [go_sem]
      clear h h' hc hcm hd hdm
      go_enter Try.func8, Try.ntmps8
      go_upto_region 1 with fail
      rw [← hW0]
      clear hW0
      have tok : True := trivial
      go_wp2_with (first | (go_at_call 14; clear tok; (with_reducible refine Calls.mono (HZ.out _) ?_); rintro ee w1 ⟨rfl, hb1⟩; have hB1 := bel_step hB0 hb1; have b_0 := keepC hb1 a_0; have b_1 := keepC hb1 a_1; have b_2 := keepC hb1 a_2; have b_3 := keepC hb1 a_3) | (go_at_call 14; (with_reducible refine Calls.mono (HY.out _) ?_); rintro ee w2 ⟨rfl, hb2⟩; have hB2 := bel_step hB1 hb2))
      go_returns
      exact ⟨rfl, hB2⟩
  · have HZ := Lib.hid (fun W => szT_big f A n c W (by omega) (Nat.le_trans hc hcm))
    obtain ⟨W0, hW0⟩ : ∃ W0 : World, W0 = (w.alloc (.cells #[.int .i64 f, .slice A n c] 24)).alloc (.cells #[.int .i64 g, .slice B m d] 24) := ⟨_, rfl⟩
    have hB0 : Below w.heap.size w W0 := by rw [hW0]; exact ((Below.refl _ _).alloc (Nat.le_refl _) _).alloc (by simp) _
    have a_0 : W0.cell? ⟨w.heap.size, 0, none⟩ = some (.int .i64 f) := by rw [hW0]; simp [go_sem]
    have a_1 : W0.cell? ⟨w.heap.size, 1, none⟩ = some (.slice A n c) := by rw [hW0]; simp [go_sem]
    clear h h'
    go_enter Try.func8, Try.ntmps8
    go_upto_region 1 with fail
    rw [← hW0]
    clear hW0
    go_wp2_with (go_at_call 14; (with_reducible refine Calls.mono (HZ.out _) ?_); rintro ee w1 ⟨rfl, hb1⟩; have hB1 := bel_step hB0 hb1)
    go_returns
    exact ⟨rfl, hB1⟩
end Go.Proofs.Ytggfonpjmplmfaa
