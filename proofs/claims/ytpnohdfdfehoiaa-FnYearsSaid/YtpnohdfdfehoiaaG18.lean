/-
  The walk of a law of chapter 18, FnYears: the law returns true and turns nothing that was there. No condition.
-/
import Derived.Test.YtpnohdfdfehoiaaF18
import Derived.Test.Ytpnohdfdfehoiaa04
import Derived.Test.YtpnohdfdfehoiaaQ
set_option linter.unusedSimpArgs false
set_option linter.unusedVariables false
namespace Go.Proofs.Ytpnohdfdfehoiaa
open Go.ChangeShapes Go.WideShapes Go.ChangeAt Go.RowKit Go.Deep
theorem blk_later {w w' : World} {g : Nat} {t : TypeId} {cs : Array Value} (h : Blk w g t cs) (hb : Below w.heap.size w w') : Blk w' g t cs := h.below hb h.lt
theorem join_pack (a b c d e f g a' b' c' d' e' f' g' : Int) : ∃ j0 j1 j2 j3 j4 j5 j6 kc : Int, (∀ W, Calls Try.prog 6 #[.agg #[.int .i64 a, .int .i64 b, .int .i64 c, .int .i64 d, .int .i64 e, .int .i64 f, .int .i64 g], .agg #[.int .i64 a', .int .i64 b', .int .i64 c', .int .i64 d', .int .i64 e', .int .i64 f', .int .i64 g']] W fun ee w' => ee = .returned (.tuple #[.agg #[.int .i64 j0, .int .i64 j1, .int .i64 j2, .int .i64 j3, .int .i64 j4, .int .i64 j5, .int .i64 j6], .int .i64 kc]) ∧ Below W.heap.size W w') ∧ (∀ W, Calls Try.prog 7 #[.agg #[.int .i64 a, .int .i64 b, .int .i64 c, .int .i64 d, .int .i64 e, .int .i64 f, .int .i64 g], .agg #[.int .i64 a', .int .i64 b', .int .i64 c', .int .i64 d', .int .i64 e', .int .i64 f', .int .i64 g']] W fun ee w' => ee = .returned (.tuple #[.agg #[.int .i64 j0, .int .i64 j1, .int .i64 j2, .int .i64 j3, .int .i64 j4, .int .i64 j5, .int .i64 j6], .int .i64 kc]) ∧ Below W.heap.size W w') ∧
    ((kc != 0) = true ∨ (kc = 0 ∧ ∃ x z n : Int, n = x + z ∧ (-10000000000000 ≤ x ∧ x ≤ 10000000000000) ∧ (-10000000000000 ≤ z ∧ z ≤ 10000000000000) ∧ Hid (∀ W, Calls Try.prog 13 #[.agg #[.int .i64 a, .int .i64 b, .int .i64 c, .int .i64 d, .int .i64 e, .int .i64 f, .int .i64 g]] W fun ee w' => ee = .returned (.tuple #[.int .i64 (x), .int .i64 (0)]) ∧ Below W.heap.size W w') ∧ Hid (∀ W, Calls Try.prog 13 #[.agg #[.int .i64 a', .int .i64 b', .int .i64 c', .int .i64 d', .int .i64 e', .int .i64 f', .int .i64 g']] W fun ee w' => ee = .returned (.tuple #[.int .i64 (z), .int .i64 (0)]) ∧ Below W.heap.size W w') ∧ Hid (∀ W, Calls Try.prog 13 #[.agg #[.int .i64 j0, .int .i64 j1, .int .i64 j2, .int .i64 j3, .int .i64 j4, .int .i64 j5, .int .i64 j6]] W fun ee w' => ee = .returned (.tuple #[.int .i64 (n), .int .i64 (0)]) ∧ Below W.heap.size W w'))) := by
  refine ⟨_, _, _, _, _, _, _, _, fun W => iJoin_any a b c d e f g a' b' c' d' e' f' g' W, fun W => sJoin_any a b c d e f g a' b' c' d' e' f' g' W, ?_⟩
  by_cases h1 : okY a b c d e f g = true
  · by_cases h2 : okY a' b' c' d' e' f' g' = true
    · by_cases h3 : okY (a + a') (b + b') (c + c') (d + d') (e + e') (f + f') (g + g') = true
      · have hJ : joinB a b c d e f g a' b' c' d' e' f' g' = true := by unfold joinB; rw [h1, h2, h3]; rfl
        rw [hJ]
        simp only [iteI_t]
        refine .inr ⟨by unfold joinC; rw [if_pos h1, if_pos h2, if_pos h3], _, _, _, ?_, ?_, ?_, fun W => iSurplus_yes a b c d e f g W h1, fun W => iSurplus_yes a' b' c' d' e' f' g' W h2, fun W => iSurplus_yes _ _ _ _ _ _ _ W h3⟩
        · omega
        · have := okY_bd h1; omega
        · have := okY_bd h2; omega
      · refine .inl ?_
        unfold joinC; rw [if_pos h1, if_pos h2, if_neg h3]; rfl
    · refine .inl ?_
      unfold joinC; rw [if_pos h1, if_neg h2]; rfl
  · refine .inl ?_
    unfold joinC; rw [if_neg h1]; rfl
theorem foll_pack (a b c d e f g n l : Int) : ∃ j0 j1 j2 kc : Int, (∀ W, Calls Try.prog 9 #[.agg #[.int .i64 a, .int .i64 b, .int .i64 c, .int .i64 d, .int .i64 e, .int .i64 f, .int .i64 g], .int .i64 n, .int .i64 l] W fun ee w' => ee = .returned (.tuple #[.agg #[.int .i64 j0, .int .i64 j1, .int .i64 j2, .int .i64 0, .int .i64 0, .int .i64 0, .int .i64 0], .int .i64 kc]) ∧ Below W.heap.size W w') ∧ (∀ W, Calls Try.prog 10 #[.agg #[.int .i64 a, .int .i64 b, .int .i64 c, .int .i64 d, .int .i64 e, .int .i64 f, .int .i64 g], .int .i64 n, .int .i64 l] W fun ee w' => ee = .returned (.tuple #[.agg #[.int .i64 j0, .int .i64 j1, .int .i64 j2, .int .i64 0, .int .i64 0, .int .i64 0, .int .i64 0], .int .i64 kc]) ∧ Below W.heap.size W w') ∧
    ((kc == 0) = false ∨ (kc = 0 ∧ Hid (∀ W, Calls Try.prog 11 #[.agg #[.int .i64 a, .int .i64 b, .int .i64 c, .int .i64 d, .int .i64 e, .int .i64 f, .int .i64 g]] W fun ee w' => ee = .returned (.tuple #[.int .i64 (j0), .int .i64 (0)]) ∧ Below W.heap.size W w') ∧ Hid (∀ W, Calls Try.prog 12 #[.agg #[.int .i64 j0, .int .i64 j1, .int .i64 j2, .int .i64 0, .int .i64 0, .int .i64 0, .int .i64 0]] W fun ee w' => ee = .returned (.bool true) ∧ Below W.heap.size W w'))) := by
  refine ⟨_, _, _, _, fun W => iFoll_any a b c d e f g n l W, fun W => sFoll_any a b c d e f g n l W, ?_⟩
  by_cases h1 : okY a b c d e f g = true
  · by_cases h2 : okY (a + b + c - d + e - f) n l 0 0 0 0 = true
    · have hJ : folB a b c d e f g n l = true := by unfold folB; rw [h1, h2]; rfl
      rw [hJ]
      simp only [iteI_t]
      refine .inr ⟨by unfold folC; rw [if_pos h1, if_pos h2], fun W => iEndFund_yes a b c d e f g W h1, fun W => ?_⟩
      have := iIsYear_any (a + b + c - d + e - f) n l 0 0 0 0 W
      rw [h2] at this
      exact this
    · refine .inl ?_
      unfold folC; rw [if_pos h1, if_neg h2]; rfl
  · refine .inl ?_
    unfold folC; rw [if_neg h1]; rfl
set_option maxHeartbeats 4000000 in
set_option maxRecDepth 100000 in
theorem fnYears_walk (A : Option Addr) (n c : Nat) (bs : List Int) (w : World) (h : RdB w w.heap.size A n bs) (hby : ∀ b ∈ bs, 0 ≤ b ∧ b ≤ 255) (hmx : n ≤ maxLen) : Calls Try.prog 3 #[.slice A n c] w fun e' w' => e' = .returned (.bool true) ∧ Below w.heap.size w w' := by
  have HBig := fun W => big_any A n c W hmx
  by_cases hn : n ≤ 4096
  · have HCW : Hid (∀ W, Below w.heap.size w W → Code' W.heap.size W A n) := fun W hB => ⟨hn, bs, (h.below hB).more hB.size, hby⟩
    rw [decide_eq_false (show ¬ 4096 < n by omega)] at HBig
    clear h hby
    go_enter Try.func3, Try.ntmps3
    go_wp2_with (first | (go_at_call 4; (with_reducible refine (HBig _).mono ?_); rintro ee w0 ⟨rfl, rfl⟩) | (go_at_call 5; (with_reducible refine Calls.mono (drawJoin_any A n c _ (fun W hb => HCW.out W (bel_step (by go_grown) hb))) ?_); rintro ee w1 ⟨a, b, cc, d, e, f, g, a', b', c', d', e', f', g', rfl, hb1⟩; have hB1 := bel_step (w := w) (by go_grown) hb1))
    obtain ⟨j0, j1, j2, j3, j4, j5, j6, kc, H1, H2, hc1⟩ := join_pack a b cc d e f g a' b' c' d' e' f' g'
    replace H1 := Lib.hid H1
    replace H2 := Lib.hid H2
    replace hc1 := Lib.hid hc1
    clear hb1
    go_wp2_with (go_at_call 6; (with_reducible refine Calls.mono (H1.out _) ?_); rintro ee w2 ⟨rfl, hb⟩; have hB2 := bel_step (bel_step hB1 (by go_grown)) hb; have HA := Lib.hid (blk_later ((Blk.new w1 _ _).alloc _) hb); have HX := Lib.hid (blk_later (Blk.new (w1.alloc _) _ _) hb); simp only [World.size_alloc] at HX; obtain ⟨a_0, a_1, a_2, a_3, a_4, a_5, a_6, -⟩ := y7_cells HA.out; have hza := HA.out.lt; obtain ⟨x_0, x_1, x_2, x_3, x_4, x_5, x_6, -⟩ := y7_cells HX.out; have hzx := HX.out.lt; clear hb)
    go_wp2_with (go_at_call 7; (with_reducible refine Calls.mono (H2.out _) ?_); rintro ee w3 ⟨rfl, hb⟩; have hB3 := bel_step (bel_step hB2 (by go_grown)) hb; have HJ := Lib.hid (blk_later (Blk.new w2 _ _) hb); replace HA := Lib.hid (blk_later (HA.out.alloc _) hb); replace HX := Lib.hid (blk_later (HX.out.alloc _) hb); clear hb a_0 a_1 a_2 a_3 a_4 a_5 a_6 x_0 x_1 x_2 x_3 x_4 x_5 x_6 hza hzx)
    go_wp2_with (go_at_call 8; (with_reducible refine Calls.mono (drawFoll_any A n c _ (fun W hb => HCW.out W (bel_step (bel_step hB3 (by go_grown)) hb))) ?_); rintro ee w4 ⟨ya, yb, yc, yd, ye, yf, yg, net, load, rfl, hb⟩; have hB4 := bel_step (bel_step hB3 (by go_grown)) hb; have HM := Lib.hid (blk_later (Blk.new w3 _ _) hb); replace HA := Lib.hid (blk_later (HA.out.alloc _) hb); replace HX := Lib.hid (blk_later (HX.out.alloc _) hb); replace HJ := Lib.hid (blk_later (HJ.out.alloc _) hb); clear hb)
    obtain ⟨f0, f1, f2, kf, H3, H4, hc2⟩ := foll_pack ya yb yc yd ye yf yg net load
    replace H3 := Lib.hid H3
    replace H4 := Lib.hid H4
    replace hc2 := Lib.hid hc2
    clear HCW H1 H2 hB1 hB2 hB3
    rcases hc2.out with hk | ⟨rfl, H5, H6⟩
    all_goals clear hc2
    all_goals rcases hc1.out with hk1 | ⟨rfl, xs, zs, ns, rfl, hxb, hzb, H7, H8, H9⟩
    all_goals clear hc1
    all_goals
      go_wp2_with (first
        | (go_at_call 9; (with_reducible refine Calls.mono (H3.out _) ?_); rintro ee w5 ⟨rfl, hb⟩; have hB5 := bel_step (bel_step hB4 (by go_grown)) hb; have HY := Lib.hid (blk_later (Blk.new w4 _ _) hb); replace HA := Lib.hid (blk_later (HA.out.alloc _) hb); replace HX := Lib.hid (blk_later (HX.out.alloc _) hb); replace HJ := Lib.hid (blk_later (HJ.out.alloc _) hb); replace HM := Lib.hid (blk_later (HM.out.alloc _) hb); obtain ⟨y_0, y_1, y_2, y_3, y_4, y_5, y_6, -⟩ := y7_cells HY.out; have hzy := HY.out.lt; clear hb H3)
        | (go_at_call 10; (with_reducible refine Calls.mono (H4.out _) ?_); rintro ee w6 ⟨rfl, hb⟩; have hB6 := bel_step (bel_step hB5 (by go_grown)) hb; have HF := Lib.hid (blk_later (Blk.new w5 _ _) hb); replace HA := Lib.hid (blk_later (HA.out.alloc _) hb); replace HX := Lib.hid (blk_later (HX.out.alloc _) hb); replace HJ := Lib.hid (blk_later (HJ.out.alloc _) hb); replace HM := Lib.hid (blk_later (HM.out.alloc _) hb); replace HY := Lib.hid (blk_later (HY.out.alloc _) hb); clear hb H4 y_0 y_1 y_2 y_3 y_4 y_5 y_6 hzy; obtain ⟨j_0, j_1, j_2, j_3, j_4, j_5, j_6, -⟩ := y7_cells HJ.out; have hzj := HJ.out.lt; obtain ⟨m_0, m_1, m_2, m_3, m_4, m_5, m_6, -⟩ := y7_cells HM.out; have hzm := HM.out.lt; obtain ⟨f_0, f_1, f_2, f_3, f_4, f_5, f_6, -⟩ := y7_cells HF.out; have hzf := HF.out.lt; obtain ⟨y_0, y_1, y_2, y_3, y_4, y_5, y_6, -⟩ := y7_cells HY.out; have hzy := HY.out.lt; obtain ⟨a_0, a_1, a_2, a_3, a_4, a_5, a_6, -⟩ := y7_cells HA.out; have hza := HA.out.lt; obtain ⟨x_0, x_1, x_2, x_3, x_4, x_5, x_6, -⟩ := y7_cells HX.out; have hzx := HX.out.lt; clear HM; clear hB4 hB5)
        | (go_at_call 11; (with_reducible refine Calls.mono (H5.out _) ?_); rintro ee w7 ⟨rfl, hb⟩; have hB7 := bel_step (bel_step hB6 (by go_grown)) hb; have HG := Lib.hid (blk_later (Blk.new w6 _ _) hb); replace HF := Lib.hid (blk_later (HF.out.alloc _) hb); replace HA := Lib.hid (blk_later (HA.out.alloc _) hb); replace HX := Lib.hid (blk_later (HX.out.alloc _) hb); replace HJ := Lib.hid (blk_later (HJ.out.alloc _) hb); clear hb H5 j_0 j_1 j_2 j_3 j_4 j_5 j_6 m_0 m_1 m_2 m_3 m_4 m_5 m_6 f_0 f_1 f_2 f_3 f_4 f_5 f_6 y_0 y_1 y_2 y_3 y_4 y_5 y_6 a_0 a_1 a_2 a_3 a_4 a_5 a_6 x_0 x_1 x_2 x_3 x_4 x_5 x_6; obtain ⟨f_0, f_1, f_2, f_3, f_4, f_5, f_6, -⟩ := y7_cells HF.out; have hzf := HF.out.lt)
        | (go_at_call 12; (with_reducible refine Calls.mono (H6.out _) ?_); rintro ee w8 ⟨rfl, hb⟩; have hB8 := bel_step hB7 hb; replace HA := Lib.hid (blk_later HA.out hb); replace HX := Lib.hid (blk_later HX.out hb); replace HJ := Lib.hid (blk_later HJ.out hb); clear hb H6 f_0 f_1 f_2 f_3 f_4 f_5 f_6; obtain ⟨a_0, a_1, a_2, a_3, a_4, a_5, a_6, -⟩ := y7_cells HA.out; have hza := HA.out.lt; obtain ⟨x_0, x_1, x_2, x_3, x_4, x_5, x_6, -⟩ := y7_cells HX.out; have hzx := HX.out.lt; obtain ⟨j_0, j_1, j_2, j_3, j_4, j_5, j_6, -⟩ := y7_cells HJ.out; have hzj := HJ.out.lt)
        | (go_at_call 13; (with_reducible refine Calls.mono (H7.out _) ?_); rintro ee w9 ⟨rfl, hb⟩; have hB9 := bel_step (by first | exact hB8 | exact bel_step hB6 (by go_grown)) hb; (first | (replace HX := Lib.hid (blk_later HX.out hb); replace HJ := Lib.hid (blk_later HJ.out hb)) | (replace HX := Lib.hid (blk_later (HX.out.alloc _) hb); replace HJ := Lib.hid (blk_later (HJ.out.alloc _) hb))); clear hb H7 j_0 j_1 j_2 j_3 j_4 j_5 j_6 a_0 a_1 a_2 a_3 a_4 a_5 a_6 x_0 x_1 x_2 x_3 x_4 x_5 x_6; obtain ⟨x_0, x_1, x_2, x_3, x_4, x_5, x_6, -⟩ := y7_cells HX.out; have hzx := HX.out.lt; obtain ⟨j_0, j_1, j_2, j_3, j_4, j_5, j_6, -⟩ := y7_cells HJ.out; have hzj := HJ.out.lt)
        | (go_at_call 13; (with_reducible refine Calls.mono (H8.out _) ?_); rintro ee w10 ⟨rfl, hb⟩; have hB10 := bel_step hB9 hb; replace HJ := Lib.hid (blk_later HJ.out hb); clear hb H8 j_0 j_1 j_2 j_3 j_4 j_5 j_6 x_0 x_1 x_2 x_3 x_4 x_5 x_6; obtain ⟨j_0, j_1, j_2, j_3, j_4, j_5, j_6, -⟩ := y7_cells HJ.out; have hzj := HJ.out.lt)
        | (go_at_call 13; (with_reducible refine Calls.mono (H9.out _) ?_); rintro ee w11 ⟨rfl, hb⟩; have hB11 := bel_step hB10 hb; clear hb H9))
    all_goals go_returns
    all_goals exact ⟨rfl, by first | exact hB11 | exact hB8 | (exact bel_step hB6 (by go_grown))⟩
  · rw [decide_eq_true (show 4096 < n by omega)] at HBig
    clear h
    go_enter Try.func3, Try.ntmps3
    go_wp2_with (go_at_call 4; (with_reducible refine (HBig _).mono ?_); rintro ee w0 ⟨rfl, rfl⟩)
    go_ret
    exact ⟨rfl, Below.refl _ _⟩
end Go.Proofs.Ytpnohdfdfehoiaa
