/-
  Contracts of the functions of chapter 15: NumberOnDay, PayOnDay, PayBetween.
-/
import Derived.Test.YtldemcdocpdkfaaF5
set_option linter.unusedSimpArgs false
set_option linter.unusedVariables false
namespace Go.Proofs.Ytldemcdocpdkfaa
open Go.RowKit
def nuV (xs : List (Int × Int)) (d : Int) : Int := if spC xs (inR 0 100000 d) = 0 then numD xs d else 0
def poV (xs : List (Int × Int)) (d r : Int) : Int := if spC xs (inR 0 100000 d && inR 1 100000 r) = 0 then payN (numD xs d) r else 0
theorem all_one (d : Int) : [d].all (inR 0 100000) = inR 0 100000 d := by simp
theorem all_two (d e : Int) : [d, e].all (inR 0 100000) = (inR 0 100000 d && inR 0 100000 e) := by simp
theorem cur_of {w : World} {A : Option Addr} {n : Nat} {xs : List (Int × Int)} (h : RdP w w.heap.size A n xs) (o : Obj) : Below w.heap.size w (w.alloc o) := (Below.refl _ _).alloc (Nat.le_refl _) _
set_option maxHeartbeats 1000000 in
theorem iNu_any (A : Option Addr) (n c : Nat) (xs : List (Int × Int)) (w : World) (h : RdP w w.heap.size A n xs) (d : Int) (hm : n ≤ 1048576) : Calls Try.prog 29 #[.slice A n c, .int .i64 d] w fun ee w' => ee = .returned (.tuple #[.int .i64 (nuV xs d), .int .i64 (spC xs (inR 0 100000 d))]) ∧ Below w.heap.size w w' := by
  have HC := fun W hR B hz => iCk_any A n c xs W hR B 1 1 [d] hz hm (by omega)
  rw [all_one] at HC
  have H := Lib.hid h
  have hl := h.len
  rcases spC_cases xs (inR 0 100000 d) with ⟨h0, ha, hd⟩ | ⟨h0, ha, hd⟩ | ⟨h0, ha⟩
  · have HG := Lib.hid (fun W hR => iNum_any A n c xs W hR d (by have := (areS_split ha).1; omega) (inR_iff.1 hd) ha)
    have HQ : Hid (nuV xs d = numD xs d) := if_pos h0
    rw [h0] at HC ⊢
    have HC := Lib.hid HC
    clear h h0 ha hd hl
    generalize numD xs d = k at *
    go_enter Try.func29, Try.ntmps29
    go_wp2_with (first | (go_at_call 55; (with_reducible refine Calls.mono (HC.out _ (H.out.cur _) _ (rd_lit _ _ [d] _ rfl 1 rfl)) ?_); rintro ee w1 ⟨rfl, hb1⟩; have hB1 := bel_step (cur_of H.out _) hb1) | (go_at_call 56; (with_reducible refine Calls.mono (HG.out _ (H.out.later hB1)) ?_); rintro ee w2 ⟨rfl, hb2⟩; have hB2 := bel_step hB1 hb2))
    (go_returns; exact ⟨by rw [HQ.out]; rfl, by first | exact hB3 | exact hB2 | exact hB1⟩)
  all_goals
    have HQ : Hid (nuV xs d = 0) := if_neg (by rw [h0]; decide)
    rw [h0] at HC ⊢
    have HC := Lib.hid HC
    clear h h0 ha hl
    go_enter Try.func29, Try.ntmps29
    go_wp2_with (first | (go_at_call 55; (with_reducible refine Calls.mono (HC.out _ (H.out.cur _) _ (rd_lit _ _ [d] _ rfl 1 rfl)) ?_); rintro ee w1 ⟨rfl, hb1⟩; have hB1 := bel_step (cur_of H.out _) hb1))
    (go_returns; exact ⟨by rw [HQ.out]; rfl, by first | exact hB3 | exact hB2 | exact hB1⟩)
set_option maxHeartbeats 1000000 in
theorem sNu_any (A : Option Addr) (n c : Nat) (xs : List (Int × Int)) (w : World) (h : RdP w w.heap.size A n xs) (d : Int) (hm : n ≤ 1048576) : Calls Try.prog 28 #[.slice A n c, .int .i64 d] w fun ee w' => ee = .returned (.tuple #[.int .i64 (nuV xs d), .int .i64 (spC xs (inR 0 100000 d))]) ∧ Below w.heap.size w w' := by
  have HC := fun W hR => sCk_any A n c xs W hR (inR 0 100000 d) hm
  have HI := Lib.hid (fun W => sIn_any d 0 100000 W)
  have H := Lib.hid h
  have hl := h.len
  rcases spC_cases xs (inR 0 100000 d) with ⟨h0, ha, hd⟩ | ⟨h0, ha, hd⟩ | ⟨h0, ha⟩
  · have HG := Lib.hid (fun W hR => sNum_any A n c xs W hR d (by have := (areS_split ha).1; omega) (inR_iff.1 hd) ha)
    have HQ : Hid (nuV xs d = numD xs d) := if_pos h0
    rw [h0] at HC ⊢
    have HC := Lib.hid HC
    clear h h0 ha hd hl
    generalize numD xs d = k at *
    generalize inR 0 100000 d = b at *
    go_enter Try.func28, Try.ntmps28
    go_wp2_with (first | (go_at_call 54; (with_reducible refine (HI.out _).mono ?_); rintro ee w9 ⟨rfl, rfl⟩) | (go_at_call 53; (with_reducible refine Calls.mono (HC.out _ H.out) ?_); rintro ee w1 ⟨rfl, hb1⟩; have hB1 := bel_step (Below.refl _ _) hb1) | (go_at_call 50; (with_reducible refine Calls.mono (HG.out _ (H.out.later hB1)) ?_); rintro ee w2 ⟨rfl, hb2⟩; have hB2 := bel_step hB1 hb2))
    (go_returns; exact ⟨by rw [HQ.out]; rfl, by first | exact hB3 | exact hB2 | exact hB1⟩)
  all_goals
    have HQ : Hid (nuV xs d = 0) := if_neg (by rw [h0]; decide)
    rw [h0] at HC ⊢
    have HC := Lib.hid HC
    clear h h0 ha hl
    try clear hd
    generalize inR 0 100000 d = b at *
    go_enter Try.func28, Try.ntmps28
    go_wp2_with (first | (go_at_call 54; (with_reducible refine (HI.out _).mono ?_); rintro ee w9 ⟨rfl, rfl⟩) | (go_at_call 53; (with_reducible refine Calls.mono (HC.out _ H.out) ?_); rintro ee w1 ⟨rfl, hb1⟩; have hB1 := bel_step (Below.refl _ _) hb1))
    (go_returns; exact ⟨by rw [HQ.out]; rfl, by first | exact hB3 | exact hB2 | exact hB1⟩)
set_option maxHeartbeats 1000000 in
theorem iPo_any (A : Option Addr) (n c : Nat) (xs : List (Int × Int)) (w : World) (h : RdP w w.heap.size A n xs) (d r : Int) (hm : n ≤ 1048576) : Calls Try.prog 31 #[.slice A n c, .int .i64 d, .int .i64 r] w fun ee w' => ee = .returned (.tuple #[.int .i64 (poV xs d r), .int .i64 (spC xs (inR 0 100000 d && inR 1 100000 r))]) ∧ Below w.heap.size w w' := by
  have HC := fun W hR B hz => iCk_any A n c xs W hR B 1 1 [d] hz hm (by omega)
  rw [all_one] at HC
  have HI := fun W => inRange_any r 1 100000 W
  have H := Lib.hid h
  have hl := h.len
  rcases spC_cases xs (inR 0 100000 d) with ⟨h0, ha, hd⟩ | ⟨h0, ha, hd⟩ | ⟨h0, ha⟩
  · rw [h0] at HC
    have HC := Lib.hid HC
    cases hr : inR 1 100000 r with
    | true =>
      have HG := Lib.hid (fun W hR => iPayOn_any A n c xs W hR d r (by have := (areS_split ha).1; omega) (inR_iff.1 hd) ha (inR_iff.1 hr))
      have HQ : Hid (poV xs d r = payN (numD xs d) r ∧ spC xs (inR 0 100000 d && true) = 0) := ⟨if_pos (by rw [hr, Bool.and_true]; exact h0), by rw [Bool.and_true]; exact h0⟩
      rw [HQ.out.1, HQ.out.2]
      rw [hr] at HI
      clear h h0 ha hd hl hr HQ
      generalize payN (numD xs d) r = k at *
      go_enter Try.func31, Try.ntmps31
      go_wp2_with (first | (go_at_call 59; (with_reducible refine (HI _).mono ?_); rintro ee w9 ⟨rfl, rfl⟩) | (go_at_call 55; (with_reducible refine Calls.mono (HC.out _ (H.out.cur _) _ (rd_lit _ _ [d] _ rfl 1 rfl)) ?_); rintro ee w1 ⟨rfl, hb1⟩; have hB1 := bel_step (cur_of H.out _) hb1) | (go_at_call 60; (with_reducible refine Calls.mono (HG.out _ (H.out.later hB1)) ?_); rintro ee w2 ⟨rfl, hb2⟩; have hB2 := bel_step hB1 hb2))
      go_returns
      exact ⟨rfl, hB2⟩
    | false =>
      have h2 : spC xs (inR 0 100000 d && false) = 2 := by rw [Bool.and_false]; unfold spC; rw [if_pos ha]; rfl
      have HQ : Hid (poV xs d r = 0) := if_neg (by rw [hr, h2]; decide)
      rw [HQ.out, h2]
      rw [hr] at HI
      clear h h0 ha hd hl hr HQ h2
      go_enter Try.func31, Try.ntmps31
      go_wp2_with (first | (go_at_call 59; (with_reducible refine (HI _).mono ?_); rintro ee w9 ⟨rfl, rfl⟩) | (go_at_call 55; (with_reducible refine Calls.mono (HC.out _ (H.out.cur _) _ (rd_lit _ _ [d] _ rfl 1 rfl)) ?_); rintro ee w1 ⟨rfl, hb1⟩; have hB1 := bel_step (cur_of H.out _) hb1))
      go_returns
      exact ⟨rfl, hB1⟩
  all_goals
    have h2 : spC xs (inR 0 100000 d && inR 1 100000 r) = spC xs (inR 0 100000 d) := by unfold spC; simp [ha] <;> simp [hd]
    have HQ : Hid (poV xs d r = 0) := if_neg (by rw [h2, h0]; decide)
    rw [HQ.out, h2, h0]
    rw [h0] at HC
    have HC := Lib.hid HC
    clear h h0 ha hl HQ h2
    go_enter Try.func31, Try.ntmps31
    go_wp2_with (first | (go_at_call 55; (with_reducible refine Calls.mono (HC.out _ (H.out.cur _) _ (rd_lit _ _ [d] _ rfl 1 rfl)) ?_); rintro ee w1 ⟨rfl, hb1⟩; have hB1 := bel_step (cur_of H.out _) hb1))
    go_returns
    exact ⟨rfl, hB1⟩
set_option maxHeartbeats 1000000 in
theorem sPo_any (A : Option Addr) (n c : Nat) (xs : List (Int × Int)) (w : World) (h : RdP w w.heap.size A n xs) (d r : Int) (hm : n ≤ 1048576) : Calls Try.prog 30 #[.slice A n c, .int .i64 d, .int .i64 r] w fun ee w' => ee = .returned (.tuple #[.int .i64 (poV xs d r), .int .i64 (spC xs (inR 0 100000 d && inR 1 100000 r))]) ∧ Below w.heap.size w w' := by
  have HC := fun W hR t => sCk_any A n c xs W hR t hm
  have HI := fun W => sIn_any d 0 100000 W
  have HJ := fun W => sRate_any r W
  have H := Lib.hid h
  have hl := h.len
  have HV : Hid (poV xs d r = if spC xs (inR 0 100000 d && inR 1 100000 r) = 0 then payN (numD xs d) r else 0) := rfl
  rcases spC_cases xs (inR 0 100000 d && inR 1 100000 r) with ⟨h0, ha, hd⟩ | ⟨h0, ha, hd⟩ | ⟨h0, ha⟩
  · simp only [Bool.and_eq_true] at hd
    have HG := Lib.hid (fun W hR => sNum_any A n c xs W hR d (by have := (areS_split ha).1; omega) (inR_iff.1 hd.1) ha)
    have hnb := numD_bd ha d
    have HP := Lib.hid (fun W => sPay_any (numD xs d) r W hnb (inR_iff.1 hd.2))
    have HQ : Hid (poV xs d r = payN (numD xs d) r) := if_pos h0
    rw [HQ.out, h0]
    have HC := fun W hR => HC W hR true
    rw [hd.1, hd.2] at h0
    rw [show spC xs true = 0 from h0] at HC
    rw [hd.1] at HI
    rw [hd.2] at HJ
    have HC := Lib.hid HC
    clear h h0 ha hd hl HV HQ
    generalize payN (numD xs d) r = v at *
    generalize numD xs d = k at *
    go_enter Try.func30, Try.ntmps30
    go_wp2_with (first | (go_at_call 54; (with_reducible refine (HI _).mono ?_); rintro ee w9 ⟨rfl, rfl⟩) | (go_at_call 57; (with_reducible refine (HJ _).mono ?_); rintro ee w8 ⟨rfl, rfl⟩) | (go_at_call 53; (with_reducible refine Calls.mono (HC.out _ H.out) ?_); rintro ee w1 ⟨rfl, hb1⟩; have hB1 := bel_step (Below.refl _ _) hb1) | (go_at_call 50; (with_reducible refine Calls.mono (HG.out _ (H.out.later hB1)) ?_); rintro ee w2 ⟨rfl, hb2⟩; have hB2 := bel_step hB1 hb2) | (go_at_call 58; (with_reducible refine (HP.out _).mono ?_); rintro ee w7 ⟨rfl, rfl⟩))
    go_returns
    exact ⟨rfl, hB2⟩
  all_goals
    have HQ : Hid (poV xs d r = 0) := if_neg (by rw [h0]; decide)
    rw [HQ.out, h0]
    have HC := fun W hR => HC W hR (inR 0 100000 d && inR 1 100000 r)
    rw [h0] at HC
    clear h h0 ha hl HV HQ
    generalize inR 0 100000 d = b1 at *
    generalize inR 1 100000 r = b2 at *
    cases b1 <;> cases b2
    all_goals try (exact absurd hd (by decide))
    all_goals
      simp only [Bool.and_true, Bool.and_false, Bool.true_and, Bool.false_and] at HC
      go_enter Try.func30, Try.ntmps30
      go_wp2_with (first | (go_at_call 54; (with_reducible refine (HI _).mono ?_); rintro ee w9 ⟨rfl, rfl⟩) | (go_at_call 57; (with_reducible refine (HJ _).mono ?_); rintro ee w8 ⟨rfl, rfl⟩) | (go_at_call 53; (with_reducible refine Calls.mono (HC _ H.out) ?_); rintro ee w1 ⟨rfl, hb1⟩; have hB1 := bel_step (Below.refl _ _) hb1))
      go_returns
      exact ⟨rfl, hB1⟩
end Go.Proofs.Ytldemcdocpdkfaa
