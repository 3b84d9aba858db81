/-
  The walks of the statements of chapter 18: each law returns true and turns nothing that was there. No condition.
-/
import Derived.Test.YthpjfaibpgjokaaZ18
import Derived.Test.YthpjfaibpgjokaaF
namespace Go.Proofs.Ythpjfaibpgjokaa
open Go.ChangeShapes Go.WideShapes Go.ChangeAt Go.RowKit Go.Deep

/-- a year that came in -/
theorem open_year {H : Type} {enc : TypeId × Value → H} {w : World} {r : Reach} {b0 : Nat} {v : Value} {d : DataW H} {p : List MemPlace} (hv : Value.okWide Try.prog w r b0 23 v) (h : DataW.Trod enc Try.prog w 0 (fun _ => true) true 23 v d p) :
    ∃ a b c d e f g : Int, v = .agg #[.int .i64 a, .int .i64 b, .int .i64 c, .int .i64 d, .int .i64 e, .int .i64 f, .int .i64 g] ∧ (I64 a ∧ I64 b ∧ I64 c ∧ I64 d ∧ I64 e ∧ I64 f ∧ I64 g) := by
  obtain ⟨l, fuel, rfl, hl, ht⟩ := open_agg Try.underlying23 (by kernel_rfl) hv h
  obtain ⟨zs, hz, rfl, hw⟩ := el_ints Try.underlying23 (by kernel_rfl) (by
    intro j f hj
    rcases j with _ | _ | _ | _ | _ | _ | _ | j
    all_goals (simp at hj; try (subst hj; exact Try.underlying2))) hl ht
  match zs, hz with
  | [a, b, c, d, e, f, g], _ => exact ⟨a, b, c, d, e, f, g, rfl, by simpa using hw⟩

theorem fnExactIsYearResult_walk (a b c d e f g : Int) (w : World) : Calls Try.prog 3 #[.agg #[.int .i64 a, .int .i64 b, .int .i64 c, .int .i64 d, .int .i64 e, .int .i64 f, .int .i64 g]] w fun e' w' => e' = .returned (.bool true) ∧ Below w.heap.size w w' := by
  have H1 := Lib.hid (fun W => toYear_any a b c d e f g W)
  have H2 := Lib.hid (fun W => sIsYear_any a b c d e f g W)
  have H3 := Lib.hid (fun W => iIsYear_any a b c d e f g W)
  go_enter Try.func3, Try.ntmps3
  go_wp2_with (first | (go_at_call 13; (with_reducible refine (H1.out _).mono ?_); rintro e' w1 ⟨rfl, hb1⟩; obtain ⟨hc1, hf1⟩ := bcell hb1; have hB1 := bel_step (w := w) (by go_grown) hb1; have hz1 := hb1.size; (try simp at hz1); have hy1 : w.heap.size < w1.heap.size := by omega) | (go_at_call 12; (with_reducible refine (H2.out _).mono ?_); rintro e' w2 ⟨rfl, hb2⟩; obtain ⟨hc2, hf2⟩ := bcell hb2; have hB2 := bel_step (w := w) (by go_grown) hb2; have hz2 := hb2.size; (try simp at hz2); have hy2 : w.heap.size < w2.heap.size := by omega) | (go_at_call 14; (with_reducible refine (H3.out _).mono ?_); rintro e' w3 ⟨rfl, hb3⟩; obtain ⟨hc3, hf3⟩ := bcell hb3; have hB3 := bel_step (w := w) (by go_grown) hb3; have hz3 := hb3.size; (try simp at hz3); have hy3 : w.heap.size < w3.heap.size := by omega))
  (go_returns; exact ⟨rfl, by go_grown⟩)

set_option maxHeartbeats 1000000 in
theorem fnExactEndFund_walk (a b c d e f g : Int) (w : World) : Calls Try.prog 4 #[.agg #[.int .i64 a, .int .i64 b, .int .i64 c, .int .i64 d, .int .i64 e, .int .i64 f, .int .i64 g]] w fun e' w' => e' = .returned (.bool true) ∧ Below w.heap.size w w' := by
  have H1 := Lib.hid (fun W => toYear_any a b c d e f g W)
  have H2 := Lib.hid (fun W => sEndFund_any a b c d e f g W)
  have H3 := Lib.hid (fun W => iEndFund_any a b c d e f g W)
  go_enter Try.func4, Try.ntmps4
  go_wp2_with (first | (go_at_call 13; (with_reducible refine (H1.out _).mono ?_); rintro e' w1 ⟨rfl, hb1⟩; obtain ⟨hc1, hf1⟩ := bcell hb1; have hB1 := bel_step (w := w) (by go_grown) hb1; have hz1 := hb1.size; (try simp at hz1); have hy1 : w.heap.size < w1.heap.size := by omega) | (go_at_call 15; (with_reducible refine (H2.out _).mono ?_); rintro e' w2 ⟨rfl, hb2⟩; obtain ⟨hc2, hf2⟩ := bcell hb2; have hB2 := bel_step (w := w) (by go_grown) hb2; have hz2 := hb2.size; (try simp at hz2); have hy2 : w.heap.size < w2.heap.size := by omega) | (go_at_call 16; (with_reducible refine (H3.out _).mono ?_); rintro e' w3 ⟨rfl, hb3⟩; obtain ⟨hc3, hf3⟩ := bcell hb3; have hB3 := bel_step (w := w) (by go_grown) hb3; have hz3 := hb3.size; (try simp at hz3); have hy3 : w.heap.size < w3.heap.size := by omega))
  (go_returns; exact ⟨rfl, by go_grown⟩)
set_option maxHeartbeats 1000000 in
theorem fnExactSurplusOf_walk (a b c d e f g : Int) (w : World) : Calls Try.prog 5 #[.agg #[.int .i64 a, .int .i64 b, .int .i64 c, .int .i64 d, .int .i64 e, .int .i64 f, .int .i64 g]] w fun e' w' => e' = .returned (.bool true) ∧ Below w.heap.size w w' := by
  have H1 := Lib.hid (fun W => toYear_any a b c d e f g W)
  have H2 := Lib.hid (fun W => sSurplus_any a b c d e f g W)
  have H3 := Lib.hid (fun W => iSurplus_any a b c d e f g W)
  go_enter Try.func5, Try.ntmps5
  go_wp2_with (first | (go_at_call 13; (with_reducible refine (H1.out _).mono ?_); rintro e' w1 ⟨rfl, hb1⟩; obtain ⟨hc1, hf1⟩ := bcell hb1; have hB1 := bel_step (w := w) (by go_grown) hb1; have hz1 := hb1.size; (try simp at hz1); have hy1 : w.heap.size < w1.heap.size := by omega) | (go_at_call 17; (with_reducible refine (H2.out _).mono ?_); rintro e' w2 ⟨rfl, hb2⟩; obtain ⟨hc2, hf2⟩ := bcell hb2; have hB2 := bel_step (w := w) (by go_grown) hb2; have hz2 := hb2.size; (try simp at hz2); have hy2 : w.heap.size < w2.heap.size := by omega) | (go_at_call 18; (with_reducible refine (H3.out _).mono ?_); rintro e' w3 ⟨rfl, hb3⟩; obtain ⟨hc3, hf3⟩ := bcell hb3; have hB3 := bel_step (w := w) (by go_grown) hb3; have hz3 := hb3.size; (try simp at hz3); have hy3 : w.heap.size < w3.heap.size := by omega))
  (go_returns; exact ⟨rfl, by go_grown⟩)
set_option maxHeartbeats 1000000 in
theorem fnExactEarnedRate_walk (a b c d e f g : Int) (w : World) : Calls Try.prog 6 #[.agg #[.int .i64 a, .int .i64 b, .int .i64 c, .int .i64 d, .int .i64 e, .int .i64 f, .int .i64 g]] w fun e' w' => e' = .returned (.bool true) ∧ Below w.heap.size w w' := by
  have H1 := Lib.hid (fun W => toYear_any a b c d e f g W)
  have H2 := Lib.hid (fun W => sEarned_any a b c d e f g W)
  have H3 := Lib.hid (fun W => iEarned_any a b c d e f g W)
  go_enter Try.func6, Try.ntmps6
  go_wp2_with (first | (go_at_call 13; (with_reducible refine (H1.out _).mono ?_); rintro e' w1 ⟨rfl, hb1⟩; obtain ⟨hc1, hf1⟩ := bcell hb1; have hB1 := bel_step (w := w) (by go_grown) hb1; have hz1 := hb1.size; (try simp at hz1); have hy1 : w.heap.size < w1.heap.size := by omega) | (go_at_call 19; (with_reducible refine (H2.out _).mono ?_); rintro e' w2 ⟨rfl, hb2⟩; obtain ⟨hc2, hf2⟩ := bcell hb2; have hB2 := bel_step (w := w) (by go_grown) hb2; have hz2 := hb2.size; (try simp at hz2); have hy2 : w.heap.size < w2.heap.size := by omega) | (go_at_call 20; (with_reducible refine (H3.out _).mono ?_); rintro e' w3 ⟨rfl, hb3⟩; obtain ⟨hc3, hf3⟩ := bcell hb3; have hB3 := bel_step (w := w) (by go_grown) hb3; have hz3 := hb3.size; (try simp at hz3); have hy3 : w.heap.size < w3.heap.size := by omega))
  (go_returns; exact ⟨rfl, by go_grown⟩)
set_option maxHeartbeats 1000000 in
theorem fnExactFollowingYear_walk (a b c d e f g : Int) (n l : Int) (w : World) : Calls Try.prog 7 #[.agg #[.int .i64 a, .int .i64 b, .int .i64 c, .int .i64 d, .int .i64 e, .int .i64 f, .int .i64 g], .int .i64 n, .int .i64 l] w fun e' w' => e' = .returned (.bool true) ∧ Below w.heap.size w w' := by
  have H1 := Lib.hid (fun W => toYear_any a b c d e f g W)
  have H2 := Lib.hid (fun W => sFoll_any a b c d e f g n l W)
  have H3 := Lib.hid (fun W => iFoll_any a b c d e f g n l W)
  go_enter Try.func7, Try.ntmps7
  go_wp2_with (go_at_call 13; (with_reducible refine (H1.out _).mono ?_); rintro ee w1 ⟨rfl, hb1⟩; obtain ⟨hc1, hf1⟩ := bcell hb1; have hB1 := bel_step (w := w) (by go_grown) hb1; have hz1 := hb1.size; (try simp at hz1); (try have hy1_0 : w.heap.size < w1.heap.size := by omega); (try have hy1_1 : w.heap.size + 1 < w1.heap.size := by omega); (try have hy1_2 : w.heap.size + 1 + 1 < w1.heap.size := by omega))
  go_wp2_with (go_at_call 21; (with_reducible refine (H2.out _).mono ?_); rintro ee w2 ⟨rfl, hb2⟩; obtain ⟨hc2, hf2⟩ := bcell hb2; have hB2 := bel_step (w := w) (by go_grown) hb2; have hz2 := hb2.size; (try simp at hz2); (try have hp2_1 : w1.heap.size < w2.heap.size := by omega); (try have hy2_0 : w.heap.size < w2.heap.size := by omega); (try have hy2_1 : w.heap.size + 1 < w2.heap.size := by omega); (try have hy2_2 : w.heap.size + 1 + 1 < w2.heap.size := by omega))
  go_wp2_with (go_at_call 13; (with_reducible refine (H1.out _).mono ?_); rintro ee w3 ⟨rfl, hb3⟩; obtain ⟨hc3, hf3⟩ := bcell hb3; have hB3 := bel_step (w := w) (by go_grown) hb3; have hz3 := hb3.size; (try simp at hz3); (try have hp3_1 : w1.heap.size < w3.heap.size := by omega); (try have hp3_2 : w2.heap.size < w3.heap.size := by omega); (try have hy3_0 : w.heap.size < w3.heap.size := by omega); (try have hy3_1 : w.heap.size + 1 < w3.heap.size := by omega); (try have hy3_2 : w.heap.size + 1 + 1 < w3.heap.size := by omega))
  go_wp2_with (go_at_call 22; (with_reducible refine (H3.out _).mono ?_); rintro ee w4 ⟨rfl, hb4⟩; obtain ⟨hc4, hf4⟩ := bcell hb4; have hB4 := bel_step (w := w) (by go_grown) hb4; have hz4 := hb4.size; (try simp at hz4); (try have hp4_1 : w1.heap.size < w4.heap.size := by omega); (try have hp4_2 : w2.heap.size < w4.heap.size := by omega); (try have hp4_3 : w3.heap.size < w4.heap.size := by omega); (try have hy4_0 : w.heap.size < w4.heap.size := by omega); (try have hy4_1 : w.heap.size + 1 < w4.heap.size := by omega); (try have hy4_2 : w.heap.size + 1 + 1 < w4.heap.size := by omega))
  go_wp2_with (go_at_call 23; (with_reducible refine (eqYear_same _ _ _ _ _ _ _ _).mono ?_); rintro ee w5 ⟨rfl, hb5⟩; obtain ⟨hc5, hf5⟩ := bcell hb5; have hB5 := bel_step (w := w) (by go_grown) hb5; have hz5 := hb5.size; (try simp at hz5); (try have hp5_1 : w1.heap.size < w5.heap.size := by omega); (try have hp5_2 : w2.heap.size < w5.heap.size := by omega); (try have hp5_3 : w3.heap.size < w5.heap.size := by omega); (try have hp5_4 : w4.heap.size < w5.heap.size := by omega); (try have hy5_0 : w.heap.size < w5.heap.size := by omega); (try have hy5_1 : w.heap.size + 1 < w5.heap.size := by omega); (try have hy5_2 : w.heap.size + 1 + 1 < w5.heap.size := by omega))
  (go_returns; exact ⟨rfl, by go_grown⟩)
set_option maxHeartbeats 1000000 in
theorem fnExactJoinYears_walk (a b c d e f g : Int) (a' b' c' d' e' f' g' : Int) (w : World) : Calls Try.prog 9 #[.agg #[.int .i64 a, .int .i64 b, .int .i64 c, .int .i64 d, .int .i64 e, .int .i64 f, .int .i64 g], .agg #[.int .i64 a', .int .i64 b', .int .i64 c', .int .i64 d', .int .i64 e', .int .i64 f', .int .i64 g']] w fun e' w' => e' = .returned (.bool true) ∧ Below w.heap.size w w' := by
  have H1 := Lib.hid (fun W => toYear_any a b c d e f g W)
  have H1' := Lib.hid (fun W => toYear_any a' b' c' d' e' f' g' W)
  have H2 := Lib.hid (fun W => sJoin_any a b c d e f g a' b' c' d' e' f' g' W)
  have H3 := Lib.hid (fun W => iJoin_any a b c d e f g a' b' c' d' e' f' g' W)
  obtain ⟨W0, hW0⟩ : ∃ W0 : World, W0 = (w.alloc (.cells #[.int .i64 a, .int .i64 b, .int .i64 c, .int .i64 d, .int .i64 e, .int .i64 f, .int .i64 g] 23)).alloc (.cells #[.int .i64 a', .int .i64 b', .int .i64 c', .int .i64 d', .int .i64 e', .int .i64 f', .int .i64 g'] 23) := ⟨_, rfl⟩
  have hB0 : Below w.heap.size w W0 := by rw [hW0]; go_grown
  have hs0 : W0.heap.size = w.heap.size + 1 + 1 := by rw [hW0]; simp
  have hs1 : w.heap.size < W0.heap.size := by omega
  have hs2 : w.heap.size + 1 < W0.heap.size := by omega
  clear hs0
  have kx1_0 : W0.cell? ⟨w.heap.size, 0, none⟩ = some (.int .i64 a) := by rw [hW0]; go_cell
  have kx1_1 : W0.cell? ⟨w.heap.size, 1, none⟩ = some (.int .i64 b) := by rw [hW0]; go_cell
  have kx1_2 : W0.cell? ⟨w.heap.size, 2, none⟩ = some (.int .i64 c) := by rw [hW0]; go_cell
  have kx1_3 : W0.cell? ⟨w.heap.size, 3, none⟩ = some (.int .i64 d) := by rw [hW0]; go_cell
  have kx1_4 : W0.cell? ⟨w.heap.size, 4, none⟩ = some (.int .i64 e) := by rw [hW0]; go_cell
  have kx1_5 : W0.cell? ⟨w.heap.size, 5, none⟩ = some (.int .i64 f) := by rw [hW0]; go_cell
  have kx1_6 : W0.cell? ⟨w.heap.size, 6, none⟩ = some (.int .i64 g) := by rw [hW0]; go_cell
  have kx2_0 : W0.cell? ⟨w.heap.size + 1, 0, none⟩ = some (.int .i64 a') := by rw [hW0]; go_cell
  have kx2_1 : W0.cell? ⟨w.heap.size + 1, 1, none⟩ = some (.int .i64 b') := by rw [hW0]; go_cell
  have kx2_2 : W0.cell? ⟨w.heap.size + 1, 2, none⟩ = some (.int .i64 c') := by rw [hW0]; go_cell
  have kx2_3 : W0.cell? ⟨w.heap.size + 1, 3, none⟩ = some (.int .i64 d') := by rw [hW0]; go_cell
  have kx2_4 : W0.cell? ⟨w.heap.size + 1, 4, none⟩ = some (.int .i64 e') := by rw [hW0]; go_cell
  have kx2_5 : W0.cell? ⟨w.heap.size + 1, 5, none⟩ = some (.int .i64 f') := by rw [hW0]; go_cell
  have kx2_6 : W0.cell? ⟨w.heap.size + 1, 6, none⟩ = some (.int .i64 g') := by rw [hW0]; go_cell
  go_enter Try.func9, Try.ntmps9
  go_upto_region 1 with fail
  rw [← hW0]
  have HW := Lib.hid hW0
  clear hW0
  go_cut [5, 6] (fun s5 s6 wx => ∃ gg : Nat, s5 = .pointer (some ⟨gg, 0, none⟩) ∧ s6 = .int .i64 (joinC a b c d e f g a' b' c' d' e' f' g') ∧ Below W0.heap.size W0 wx ∧ W0.heap.size ≤ gg ∧ gg < wx.heap.size ∧ wx.cell? ⟨gg, 0, none⟩ = some (.int .i64 (iteI (joinB a b c d e f g a' b' c' d' e' f' g') (a + a'))) ∧ wx.cell? ⟨gg, 1, none⟩ = some (.int .i64 (iteI (joinB a b c d e f g a' b' c' d' e' f' g') (b + b'))) ∧ wx.cell? ⟨gg, 2, none⟩ = some (.int .i64 (iteI (joinB a b c d e f g a' b' c' d' e' f' g') (c + c'))) ∧ wx.cell? ⟨gg, 3, none⟩ = some (.int .i64 (iteI (joinB a b c d e f g a' b' c' d' e' f' g') (d + d'))) ∧ wx.cell? ⟨gg, 4, none⟩ = some (.int .i64 (iteI (joinB a b c d e f g a' b' c' d' e' f' g') (e + e'))) ∧ wx.cell? ⟨gg, 5, none⟩ = some (.int .i64 (iteI (joinB a b c d e f g a' b' c' d' e' f' g') (f + f'))) ∧ wx.cell? ⟨gg, 6, none⟩ = some (.int .i64 (iteI (joinB a b c d e f g a' b' c' d' e' f' g') (g + g'))))
  case first =>
    go_region_held3 (fun W' => Below W0.heap.size W0 W' ∧ ∀ b o, b < W0.heap.size → W'.cell? ⟨b, o, none⟩ = W0.cell? ⟨b, o, none⟩) (exact bS (by go_grown)) (first | (go_at_call 13; (with_reducible refine (H1.out _).mono ?_); rintro ee w1 ⟨rfl, hb1⟩; obtain ⟨hc1, hf1⟩ := bcell hb1; have hB1 := bel_step (w := W0) (by go_grown) hb1; have hz1 := hb1.size; (try simp at hz1); (try have hy1 : W0.heap.size < w1.heap.size := by omega); (try have hp1_1 : w1.heap.size < w1.heap.size := by omega); (try have hp1_2 : w2.heap.size < w1.heap.size := by omega)) | (go_at_call 13; (with_reducible refine (H1'.out _).mono ?_); rintro ee w2 ⟨rfl, hb2⟩; obtain ⟨hc2, hf2⟩ := bcell hb2; have hB2 := bel_step (w := W0) (by go_grown) hb2; have hz2 := hb2.size; (try simp at hz2); (try have hy2 : W0.heap.size < w2.heap.size := by omega); (try have hp2_1 : w1.heap.size < w2.heap.size := by omega); (try have hp2_2 : w2.heap.size < w2.heap.size := by omega)) | (go_at_call 26; (with_reducible refine (H2.out _).mono ?_); rintro ee w3 ⟨rfl, hb3⟩; obtain ⟨hc3, hf3⟩ := bcell hb3; have hB3 := bel_step (w := W0) (by go_grown) hb3; have hz3 := hb3.size; (try simp at hz3); (try have hy3 : W0.heap.size < w3.heap.size := by omega); (try have hp3_1 : w1.heap.size < w3.heap.size := by omega); (try have hp3_2 : w2.heap.size < w3.heap.size := by omega)))
    all_goals (go_wp2_with fail; go_meet)
    all_goals (refine ⟨_, rfl, rfl, by go_grown, ?_, ?_, ?_, ?_, ?_, ?_, ?_, ?_, ?_⟩ <;> first | omega | (simp; omega) | (simp [go_sem, *]; done))
  case rest =>
    obtain ⟨gg, rfl, rfl, hBc, hg1, hg2, k0, k1, k2, k3, k4, k5, k6⟩ := hcut
    obtain ⟨hcc, hfc⟩ := bcell hBc
    have hzc := hBc.size
    have hq1 : w.heap.size < wc.heap.size := by omega
    have hq2 : w.heap.size + 1 < wc.heap.size := by omega
    have hBw := bel_step hB0 hBc
    clear hBc
    go_upto_region 2 with fail
    go_cut [7, 8] (fun s7 s8 wx => ∃ g2 : Nat, s7 = .pointer (some ⟨g2, 0, none⟩) ∧ s8 = .int .i64 (joinC a b c d e f g a' b' c' d' e' f' g') ∧ Below wc.heap.size wc wx ∧ wc.heap.size ≤ g2 ∧ g2 < wx.heap.size ∧ wx.cell? ⟨g2, 0, none⟩ = some (.int .i64 (iteI (joinB a b c d e f g a' b' c' d' e' f' g') (a + a'))) ∧ wx.cell? ⟨g2, 1, none⟩ = some (.int .i64 (iteI (joinB a b c d e f g a' b' c' d' e' f' g') (b + b'))) ∧ wx.cell? ⟨g2, 2, none⟩ = some (.int .i64 (iteI (joinB a b c d e f g a' b' c' d' e' f' g') (c + c'))) ∧ wx.cell? ⟨g2, 3, none⟩ = some (.int .i64 (iteI (joinB a b c d e f g a' b' c' d' e' f' g') (d + d'))) ∧ wx.cell? ⟨g2, 4, none⟩ = some (.int .i64 (iteI (joinB a b c d e f g a' b' c' d' e' f' g') (e + e'))) ∧ wx.cell? ⟨g2, 5, none⟩ = some (.int .i64 (iteI (joinB a b c d e f g a' b' c' d' e' f' g') (f + f'))) ∧ wx.cell? ⟨g2, 6, none⟩ = some (.int .i64 (iteI (joinB a b c d e f g a' b' c' d' e' f' g') (g + g'))))
    case first =>
      go_region_held3 (fun W' => Below wc.heap.size wc W' ∧ ∀ b o, b < wc.heap.size → W'.cell? ⟨b, o, none⟩ = wc.cell? ⟨b, o, none⟩) (exact bS (by go_grown)) (first | (go_at_call 13; (with_reducible refine (H1.out _).mono ?_); rintro ee w1 ⟨rfl, hb1⟩; obtain ⟨hc1, hf1⟩ := bcell hb1; have hB1 := bel_step (w := wc) (by go_grown) hb1; have hz1 := hb1.size; (try simp at hz1); (try have hy1 : wc.heap.size < w1.heap.size := by omega); (try have hp1_1 : w1.heap.size < w1.heap.size := by omega); (try have hp1_2 : w2.heap.size < w1.heap.size := by omega)) | (go_at_call 13; (with_reducible refine (H1'.out _).mono ?_); rintro ee w2 ⟨rfl, hb2⟩; obtain ⟨hc2, hf2⟩ := bcell hb2; have hB2 := bel_step (w := wc) (by go_grown) hb2; have hz2 := hb2.size; (try simp at hz2); (try have hy2 : wc.heap.size < w2.heap.size := by omega); (try have hp2_1 : w1.heap.size < w2.heap.size := by omega); (try have hp2_2 : w2.heap.size < w2.heap.size := by omega)) | (go_at_call 27; (with_reducible refine (H3.out _).mono ?_); rintro ee w3 ⟨rfl, hb3⟩; obtain ⟨hc3, hf3⟩ := bcell hb3; have hB3 := bel_step (w := wc) (by go_grown) hb3; have hz3 := hb3.size; (try simp at hz3); (try have hy3 : wc.heap.size < w3.heap.size := by omega); (try have hp3_1 : w1.heap.size < w3.heap.size := by omega); (try have hp3_2 : w2.heap.size < w3.heap.size := by omega)))
      all_goals (go_wp2_with fail; go_meet)
      all_goals (refine ⟨_, rfl, rfl, by go_grown, ?_, ?_, ?_, ?_, ?_, ?_, ?_, ?_, ?_⟩ <;> first | omega | (simp; omega) | (simp [go_sem, *]; done))
    case rest =>
      rename_i wd
      obtain ⟨g2, rfl, rfl, hBd, hg3, hg4, l0, l1, l2, l3, l4, l5, l6⟩ := hcut
      obtain ⟨hcd, hfd⟩ := bcell hBd
      have hBw := bel_step hBw hBd
      go_wp2_with (go_at_call 23; (with_reducible refine (eqYear_same _ _ _ _ _ _ _ _).mono ?_); rintro e' w4 ⟨rfl, hb4⟩; obtain ⟨hc4, hf4⟩ := bcell hb4; have hB4 := bel_step (w := w) (by go_grown) hb4; have hz4 := hb4.size; (try simp at hz4); have hy4 : w.heap.size < w4.heap.size := by omega)
      (go_returns; exact ⟨rfl, by go_grown⟩)
end Go.Proofs.Ythpjfaibpgjokaa
