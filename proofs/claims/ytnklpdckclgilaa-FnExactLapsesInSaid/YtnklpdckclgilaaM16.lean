/-
  The walks of the statements of chapter 16, 'X returns what the reference returns': the law returns true and turns nothing that was there. No condition.
-/
import Derived.Test.YtnklpdckclgilaaI16
import Derived.Test.YtnklpdckclgilaaF
set_option linter.unusedSimpArgs false
set_option linter.unusedVariables false
namespace Go.Proofs.Ytnklpdckclgilaa
open Go.ChangeShapes Go.WideShapes Go.ChangeAt Go.RowKit Go.Deep
/-- a list of pairs that came in -/
theorem open_pairs {H : Type} {enc : TypeId × Value → H} {w : World} {r : Reach} {b0 : Nat} {v : Value} {d : DataW H} {p : List MemPlace} (hv : Value.okWide Try.prog w r b0 22 v) (h : DataW.Trod enc Try.prog w 0 (fun _ => true) true 22 v d p) :
    ∃ A n c xs, v = .slice A n c ∧ RdP w w.heap.size A n xs ∧ n ≤ maxLen := by
  obtain ⟨a, len, cap, rfl⟩ := okWide_slice Try.underlying22 hv
  obtain ⟨fuel, hf⟩ := h
  obtain ⟨A, n, c, xs, hcs, hn, hc, hR, _⟩ := open_rd (en := enP) (sz := 2) (good := fun _ => True) Try.underlying22 (by kernel_rfl) (by omega) (fun fuel cs x hl ht => by
    obtain ⟨zs, hz, rfl, hw⟩ := el_ints Try.underlying55 (by kernel_rfl) (by
      intro j f hj
      rcases j with _ | _ | j
      all_goals (simp at hj; try (subst hj; exact Try.underlying2))) hl ht
    match zs, hz with
    | [a, b], _ => exact ⟨(a, b), rfl, trivial⟩) hf
  simp only [Value.cells, Array.toList] at hcs
  injection hcs with hcs _
  injection hcs with h1 h2 h3
  subst h1 h2 h3
  exact ⟨_, _, _, xs, rfl, hR, Nat.le_trans hn hc⟩
set_option maxHeartbeats 2000000 in
theorem fnExactLapsesIn_walk (j cb m : Int) (A : Option Addr) (n c : Nat) (xs : List (Int × Int)) (w : World) (h : RdP w w.heap.size A n xs) (hmx : n ≤ maxLen) : Calls Try.prog 3 #[.int .i64 j, .int .i64 cb, .slice A n c, .int .i64 m] w fun e' w' => e' = .returned (.bool true) ∧ Below w.heap.size w w' := by
  by_cases hn : n ≤ 1048576
  · have P0 := Lib.hid h
    have HS := Lib.hid (fun W A' c' hR => sLapsesIn_any j cb A' n c' xs m W hR hn)
    have HI := Lib.hid (fun W A' c' hR => iLapsesIn_any j cb A' n c' xs m W hR hn)
    clear h
    go_enter Try.func3, Try.ntmps3
    go_wp2_with (go_at_call 8; (with_reducible refine (szPayment_ok _ _ _ _ hn).mono ?_); rintro ee w0 ⟨rfl, rfl⟩)
    have tok1 : True := trivial
    go_wp2_with (go_at_call 10; clear tok1; (with_reducible refine (toPaymentS_any _ _ _ _ _ _ P0.out (Nat.le_refl _) hn).mono ?_); rintro ee w1 ⟨A1, c1, rfl, hR1, hb1⟩; have Q1 := Lib.hid hR1; have P1 := Lib.hid (P0.out.below hb1); have hs1 := hb1.size; clear hR1)
    go_wp2_with (go_at_call 9; (with_reducible refine (HS.out _ _ _ Q1.out).mono ?_); rintro ee w2 ⟨rfl, hb2⟩; have P2 := Lib.hid (P1.out.below (hb2.mono hs1)); have hB2 := bel_step hb1 hb2; have hs2 := hB2.size)
    have tok3 : True := trivial
    go_wp2_with (go_at_call 10; clear tok3; (with_reducible refine (toPaymentS_any _ _ _ _ _ _ P2.out hs2 hn).mono ?_); rintro ee w3 ⟨A3, c3, rfl, hR3, hb3⟩; have Q3 := Lib.hid hR3; have P3 := Lib.hid (P2.out.below (hb3.mono hs2)); have hB3 := bel_step hB2 hb3; have hs3 := hB3.size; clear hR3)
    go_wp2_with (go_at_call 11; (with_reducible refine (HI.out _ _ _ Q3.out).mono ?_); rintro ee w4 ⟨rfl, hb4⟩; have P4 := Lib.hid (P3.out.below (hb4.mono hs3)); have Q4 := Lib.hid (Q3.out.later hb4); have hB4 := bel_step hB3 hb4; have hs4 := hB4.size)
    go_wp2_with (go_at_call 10; (with_reducible refine (toPaymentS_any _ _ _ _ _ _ P4.out hs4 hn).mono ?_); rintro ee w5 ⟨A5, c5, rfl, hR5, hb5⟩; have Q5 := Lib.hid hR5; have Q6 := Lib.hid (Q4.out.later hb5); have hB5 := bel_step hB4 hb5; clear hR5)
    go_wp2_with (go_at_call 12; (with_reducible refine (eqPaymentS_same _ _ _ _ _ _ _ _ _ Q6.out Q5.out (Nat.le_refl _) (Nat.le_refl _) hmx).mono ?_); rintro ee w6 ⟨rfl, hb6⟩; have hB6 := bel_step hB5 hb6)
    go_ret
    exact ⟨rfl, hB6⟩
  · clear h
    go_enter Try.func3, Try.ntmps3
    go_wp2_with (go_at_call 8; (with_reducible refine (szPayment_big _ _ _ _ (by omega) hmx).mono ?_); rintro ee w0 ⟨rfl, rfl⟩)
    go_ret
    exact ⟨rfl, Below.refl _ _⟩
set_option maxHeartbeats 2000000 in
theorem fnExactWorstArrears_walk (j cb m : Int) (A : Option Addr) (n c : Nat) (xs : List (Int × Int)) (w : World) (h : RdP w w.heap.size A n xs) (hmx : n ≤ maxLen) : Calls Try.prog 4 #[.int .i64 j, .int .i64 cb, .slice A n c, .int .i64 m] w fun e' w' => e' = .returned (.bool true) ∧ Below w.heap.size w w' := by
  by_cases hn : n ≤ 1048576
  · have P0 := Lib.hid h
    have HS := Lib.hid (fun W A' c' hR => sWorstArrears_any j cb A' n c' xs m W hR hn)
    have HI := Lib.hid (fun W A' c' hR => iWorstArrears_any j cb A' n c' xs m W hR hn)
    clear h
    go_enter Try.func4, Try.ntmps4
    go_wp2_with (go_at_call 8; (with_reducible refine (szPayment_ok _ _ _ _ hn).mono ?_); rintro ee w0 ⟨rfl, rfl⟩)
    have tok1 : True := trivial
    go_wp2_with (go_at_call 10; clear tok1; (with_reducible refine (toPaymentS_any _ _ _ _ _ _ P0.out (Nat.le_refl _) hn).mono ?_); rintro ee w1 ⟨A1, c1, rfl, hR1, hb1⟩; have Q1 := Lib.hid hR1; have P1 := Lib.hid (P0.out.below hb1); have hs1 := hb1.size; clear hR1)
    go_wp2_with (go_at_call 13; (with_reducible refine (HS.out _ _ _ Q1.out).mono ?_); rintro ee w2 ⟨rfl, hb2⟩; have P2 := Lib.hid (P1.out.below (hb2.mono hs1)); have hB2 := bel_step hb1 hb2; have hs2 := hB2.size)
    have tok3 : True := trivial
    go_wp2_with (go_at_call 10; clear tok3; (with_reducible refine (toPaymentS_any _ _ _ _ _ _ P2.out hs2 hn).mono ?_); rintro ee w3 ⟨A3, c3, rfl, hR3, hb3⟩; have Q3 := Lib.hid hR3; have P3 := Lib.hid (P2.out.below (hb3.mono hs2)); have hB3 := bel_step hB2 hb3; have hs3 := hB3.size; clear hR3)
    go_wp2_with (go_at_call 14; (with_reducible refine (HI.out _ _ _ Q3.out).mono ?_); rintro ee w4 ⟨rfl, hb4⟩; have P4 := Lib.hid (P3.out.below (hb4.mono hs3)); have Q4 := Lib.hid (Q3.out.later hb4); have hB4 := bel_step hB3 hb4; have hs4 := hB4.size)
    go_wp2_with (go_at_call 10; (with_reducible refine (toPaymentS_any _ _ _ _ _ _ P4.out hs4 hn).mono ?_); rintro ee w5 ⟨A5, c5, rfl, hR5, hb5⟩; have Q5 := Lib.hid hR5; have Q6 := Lib.hid (Q4.out.later hb5); have hB5 := bel_step hB4 hb5; clear hR5)
    go_wp2_with (go_at_call 12; (with_reducible refine (eqPaymentS_same _ _ _ _ _ _ _ _ _ Q6.out Q5.out (Nat.le_refl _) (Nat.le_refl _) hmx).mono ?_); rintro ee w6 ⟨rfl, hb6⟩; have hB6 := bel_step hB5 hb6)
    go_ret
    exact ⟨rfl, hB6⟩
  · clear h
    go_enter Try.func4, Try.ntmps4
    go_wp2_with (go_at_call 8; (with_reducible refine (szPayment_big _ _ _ _ (by omega) hmx).mono ?_); rintro ee w0 ⟨rfl, rfl⟩)
    go_ret
    exact ⟨rfl, Below.refl _ _⟩
set_option maxHeartbeats 2000000 in
theorem fnExactRevivalCost_walk (j cb m r : Int) (A : Option Addr) (n c : Nat) (xs : List (Int × Int)) (w : World) (h : RdP w w.heap.size A n xs) (hmx : n ≤ maxLen) : Calls Try.prog 5 #[.int .i64 j, .int .i64 cb, .slice A n c, .int .i64 m, .int .i64 r] w fun e' w' => e' = .returned (.bool true) ∧ Below w.heap.size w w' := by
  by_cases hn : n ≤ 1048576
  · have P0 := Lib.hid h
    have HS := Lib.hid (fun W A' c' hR => sRevivalCost_any j cb A' n c' xs m r W hR hn)
    have HI := Lib.hid (fun W A' c' hR => iRevivalCost_any j cb A' n c' xs m r W hR hn)
    clear h
    go_enter Try.func5, Try.ntmps5
    go_wp2_with (go_at_call 8; (with_reducible refine (szPayment_ok _ _ _ _ hn).mono ?_); rintro ee w0 ⟨rfl, rfl⟩)
    have tok1 : True := trivial
    go_wp2_with (go_at_call 10; clear tok1; (with_reducible refine (toPaymentS_any _ _ _ _ _ _ P0.out (Nat.le_refl _) hn).mono ?_); rintro ee w1 ⟨A1, c1, rfl, hR1, hb1⟩; have Q1 := Lib.hid hR1; have P1 := Lib.hid (P0.out.below hb1); have hs1 := hb1.size; clear hR1)
    go_wp2_with (go_at_call 15; (with_reducible refine (HS.out _ _ _ Q1.out).mono ?_); rintro ee w2 ⟨rfl, hb2⟩; have P2 := Lib.hid (P1.out.below (hb2.mono hs1)); have hB2 := bel_step hb1 hb2; have hs2 := hB2.size)
    have tok3 : True := trivial
    go_wp2_with (go_at_call 10; clear tok3; (with_reducible refine (toPaymentS_any _ _ _ _ _ _ P2.out hs2 hn).mono ?_); rintro ee w3 ⟨A3, c3, rfl, hR3, hb3⟩; have Q3 := Lib.hid hR3; have P3 := Lib.hid (P2.out.below (hb3.mono hs2)); have hB3 := bel_step hB2 hb3; have hs3 := hB3.size; clear hR3)
    go_wp2_with (go_at_call 16; (with_reducible refine (HI.out _ _ _ Q3.out).mono ?_); rintro ee w4 ⟨rfl, hb4⟩; have P4 := Lib.hid (P3.out.below (hb4.mono hs3)); have Q4 := Lib.hid (Q3.out.later hb4); have hB4 := bel_step hB3 hb4; have hs4 := hB4.size)
    go_wp2_with (go_at_call 10; (with_reducible refine (toPaymentS_any _ _ _ _ _ _ P4.out hs4 hn).mono ?_); rintro ee w5 ⟨A5, c5, rfl, hR5, hb5⟩; have Q5 := Lib.hid hR5; have Q6 := Lib.hid (Q4.out.later hb5); have hB5 := bel_step hB4 hb5; clear hR5)
    go_wp2_with (go_at_call 12; (with_reducible refine (eqPaymentS_same _ _ _ _ _ _ _ _ _ Q6.out Q5.out (Nat.le_refl _) (Nat.le_refl _) hmx).mono ?_); rintro ee w6 ⟨rfl, hb6⟩; have hB6 := bel_step hB5 hb6)
    go_ret
    exact ⟨rfl, hB6⟩
  · clear h
    go_enter Try.func5, Try.ntmps5
    go_wp2_with (go_at_call 8; (with_reducible refine (szPayment_big _ _ _ _ (by omega) hmx).mono ?_); rintro ee w0 ⟨rfl, rfl⟩)
    go_ret
    exact ⟨rfl, Below.refl _ _⟩
end Go.Proofs.Ytnklpdckclgilaa
