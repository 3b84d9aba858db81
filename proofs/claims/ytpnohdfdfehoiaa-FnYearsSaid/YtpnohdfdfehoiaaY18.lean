/-
  Contracts of the functions of chapter 18: years, their funds, surplus and sources.
-/
import Derived.Test.YtpnohdfdfehoiaaB
import Derived.Deep.RegionHeld3
import Derived.Deep.DeepCutAuto
set_option linter.unusedSimpArgs false
set_option linter.unusedVariables false
namespace Go.Proofs.Ytpnohdfdfehoiaa
open Go.RowKit

def okY (a b c d e f g : Int) : Bool := [a, b, c, d, e, f, g].all (inR 0 1000000000000)
theorem okY_bd {a b c d e f g : Int} (h : okY a b c d e f g = true) : (0 ≤ a ∧ a ≤ 1000000000000) ∧ (0 ≤ b ∧ b ≤ 1000000000000) ∧ (0 ≤ c ∧ c ≤ 1000000000000) ∧ (0 ≤ d ∧ d ≤ 1000000000000) ∧ (0 ≤ e ∧ e ≤ 1000000000000) ∧ (0 ≤ f ∧ f ≤ 1000000000000) ∧ (0 ≤ g ∧ g ≤ 1000000000000) := by
  simp only [okY, List.all_cons, List.all_nil, Bool.and_true, Bool.and_eq_true, inR_iff] at h
  exact h
theorem rd7 (w : World) (a b c d e f g : Int) (o : Obj) : RdI ((w.alloc o).alloc (.cells #[.int .i64 a, .int .i64 b, .int .i64 c, .int .i64 d, .int .i64 e, .int .i64 f, .int .i64 g] 2)) ((w.alloc o).alloc (.cells #[.int .i64 a, .int .i64 b, .int .i64 c, .int .i64 d, .int .i64 e, .int .i64 f, .int .i64 g] 2)).heap.size (some ⟨w.heap.size + 1, 0, none⟩) 7 [a, b, c, d, e, f, g] := by
  refine ⟨rfl, fun _ => ⟨_, rfl, by simp, fun i x hx j v hv => ?_⟩⟩
  have hj : j = 0 := by
    have := (List.getElem?_eq_some_iff.1 hv).1
    simpa [enI] using this
  subst hj
  simp only [enI, List.getElem?_cons_zero, Option.some.injEq] at hv
  subst hv
  have hi : i < 7 := (List.getElem?_eq_some_iff.1 hx).1
  rcases i with _ | _ | _ | _ | _ | _ | _ | i <;> first | omega | (simp at hx; subst hx; go_cell)

set_option maxHeartbeats 400000 in
theorem iIsYear_any (a b c d e f g : Int) (w : World) : Calls Try.prog 12 #[.agg #[.int .i64 a, .int .i64 b, .int .i64 c, .int .i64 d, .int .i64 e, .int .i64 f, .int .i64 g]] w fun e' w' => e' = .returned (.bool (okY a b c d e f g)) ∧ Below w.heap.size w w' := by
  have H := (allIn_any _ 7 7 _ 0 1000000000000 _ (rd7 w a b c d e f g (.cells #[.int .i64 a, .int .i64 b, .int .i64 c, .int .i64 d, .int .i64 e, .int .i64 f, .int .i64 g] 25)) (by unfold maxLen; omega))
  rw [show [a, b, c, d, e, f, g].all (inR 0 1000000000000) = okY a b c d e f g from rfl] at H
  have H := Lib.hid H
  go_enter Try.func12, Try.ntmps12
  go_wp2_with (go_at_call 22; refine H.out.mono ?_; rintro e' w1 ⟨rfl, hb1⟩)
  go_ret
  exact ⟨rfl, (((Below.refl _ _).alloc (Nat.le_refl _) _).alloc (by simp) _).trans (hb1.mono (by simp; omega))⟩
theorem okY_within (a b c d e f g : Int) : ([a, b, c, d, e, f, g].all (inR 0 1000000000000) && decide (((7 : Nat) : Int) ≤ 7)) = okY a b c d e f g := by
  rw [show decide (((7 : Nat) : Int) ≤ 7) = true from by decide, Bool.and_true]; rfl
set_option maxHeartbeats 400000 in
theorem sIsYear_any (a b c d e f g : Int) (w : World) : Calls Try.prog 16 #[.agg #[.int .i64 a, .int .i64 b, .int .i64 c, .int .i64 d, .int .i64 e, .int .i64 f, .int .i64 g]] w fun e' w' => e' = .returned (.bool (okY a b c d e f g)) ∧ Below w.heap.size w w' := by
  have H := (within_any _ 7 7 _ 7 0 1000000000000 _ (rd7 w a b c d e f g (.cells #[.int .i64 a, .int .i64 b, .int .i64 c, .int .i64 d, .int .i64 e, .int .i64 f, .int .i64 g] 25)) (by unfold maxLen; omega))
  rw [okY_within] at H
  have H := Lib.hid H
  go_enter Try.func16, Try.ntmps16
  go_wp2_with (go_at_call 23; refine H.out.mono ?_; rintro e' w1 ⟨rfl, rfl⟩)
  go_ret
  exact ⟨rfl, by go_grown⟩
set_option maxHeartbeats 400000 in
theorem iEnd_any (a b c d e f g : Int) (w : World) (h : okY a b c d e f g = true) : Calls Try.prog 20 #[.agg #[.int .i64 a, .int .i64 b, .int .i64 c, .int .i64 d, .int .i64 e, .int .i64 f, .int .i64 g]] w fun e' w' => e' = .returned (.int .i64 (a + b + c - d + e - f)) ∧ Below w.heap.size w w' := by
  obtain ⟨ha, hb, hc, hd, he, hf, hg⟩ := okY_bd h
  clear h
  go_enter Try.func20, Try.ntmps20
  go_wp2
  (go_returns; exact ⟨rfl, by go_grown⟩)
set_option maxHeartbeats 400000 in
theorem iEndFund_yes (a b c d e f g : Int) (w : World) (h : okY a b c d e f g = true) : Calls Try.prog 11 #[.agg #[.int .i64 a, .int .i64 b, .int .i64 c, .int .i64 d, .int .i64 e, .int .i64 f, .int .i64 g]] w fun e' w' => e' = .returned (.tuple #[.int .i64 (a + b + c - d + e - f), .int .i64 (0)]) ∧ Below w.heap.size w w' := by
  have H1 := fun W => iIsYear_any a b c d e f g W; rw [h] at H1; have H1 := Lib.hid H1
  have H2 := Lib.hid (fun W => iEnd_any a b c d e f g W h)
  clear h
  go_enter Try.func11, Try.ntmps11
  go_wp2_with (first | (go_at_call 12; (with_reducible refine (H1.out _).mono ?_); rintro e' w1 ⟨rfl, hb1⟩; obtain ⟨hc1, hf1⟩ := bcell hb1; have hB1 := bel_step (w := w) (by go_grown) hb1; have hz1 := hb1.size; (try simp at hz1); have hy1 : w.heap.size < w1.heap.size := by omega) | (go_at_call 20; (with_reducible refine (H2.out _).mono ?_); rintro e' w2 ⟨rfl, hb2⟩; obtain ⟨hc2, hf2⟩ := bcell hb2; have hB2 := bel_step (w := w) (by go_grown) hb2; have hz2 := hb2.size; (try simp at hz2); have hy2 : w.heap.size < w2.heap.size := by omega))
  (go_returns; exact ⟨rfl, by go_grown⟩)
set_option maxHeartbeats 400000 in
theorem iEndFund_no (a b c d e f g : Int) (w : World) (h : okY a b c d e f g = false) : Calls Try.prog 11 #[.agg #[.int .i64 a, .int .i64 b, .int .i64 c, .int .i64 d, .int .i64 e, .int .i64 f, .int .i64 g]] w fun e' w' => e' = .returned (.tuple #[.int .i64 (0), .int .i64 (1)]) ∧ Below w.heap.size w w' := by
  have H1 := fun W => iIsYear_any a b c d e f g W; rw [h] at H1; have H1 := Lib.hid H1
  clear h
  go_enter Try.func11, Try.ntmps11
  go_wp2_with (go_at_call 12; (with_reducible refine (H1.out _).mono ?_); rintro e' w1 ⟨rfl, hb1⟩; obtain ⟨hc1, hf1⟩ := bcell hb1; have hB1 := bel_step (w := w) (by go_grown) hb1; have hz1 := hb1.size; (try simp at hz1); have hy1 : w.heap.size < w1.heap.size := by omega)
  (go_returns; exact ⟨rfl, by go_grown⟩)
set_option maxHeartbeats 400000 in
theorem sEnd_any (a b c d e f g : Int) (w : World) (h : okY a b c d e f g = true) : Calls Try.prog 21 #[.agg #[.int .i64 a, .int .i64 b, .int .i64 c, .int .i64 d, .int .i64 e, .int .i64 f, .int .i64 g]] w fun e' w' => e' = .returned (.int .i64 (a + b + c - d + e - f)) ∧ Below w.heap.size w w' := by
  obtain ⟨ha, hb, hc, hd, he, hf, hg⟩ := okY_bd h
  clear h
  go_enter Try.func21, Try.ntmps21
  go_wp2
  (go_returns; exact ⟨rfl, by go_grown⟩)
set_option maxHeartbeats 400000 in
theorem iSurplus_yes (a b c d e f g : Int) (w : World) (h : okY a b c d e f g = true) : Calls Try.prog 13 #[.agg #[.int .i64 a, .int .i64 b, .int .i64 c, .int .i64 d, .int .i64 e, .int .i64 f, .int .i64 g]] w fun e' w' => e' = .returned (.tuple #[.int .i64 (a + b + c - d + e - f - g), .int .i64 (0)]) ∧ Below w.heap.size w w' := by
  have H1 := fun W => iIsYear_any a b c d e f g W; rw [h] at H1; have H1 := Lib.hid H1
  have H2 := Lib.hid (fun W => iEnd_any a b c d e f g W h)
  obtain ⟨ha, hb, hc, hd, he, hf, hg⟩ := okY_bd h
  clear h
  go_enter Try.func13, Try.ntmps13
  go_wp2_with (go_at_call 12; (with_reducible refine (H1.out _).mono ?_); rintro e' w1 ⟨rfl, hb1⟩; obtain ⟨hc1, hf1⟩ := bcell hb1; have hB1 := bel_step (w := w) (by go_grown) hb1; have hz1 := hb1.size; (try simp at hz1); have hy1 : w.heap.size < w1.heap.size := by omega)
  have hw := IntWalk.i64_in (a + b + c - d + e - f - g) (by omega)
  go_region_held3 (fun W' => Below w1.heap.size w1 W' ∧ ∀ b o, b < w1.heap.size → W'.cell? ⟨b, o, none⟩ = w1.cell? ⟨b, o, none⟩) (first | exact bS (Below.refl _ _).drew | exact bS (bel_step (Below.refl _ _).drew hb2)) (first | (go_at_call 20; (with_reducible refine (H2.out _).mono ?_); rintro e' w2 ⟨rfl, hb2⟩; obtain ⟨hc2, hf2⟩ := bcell hb2; have hB2 := bel_step (w := w) (by go_grown) hb2; have hz2 := hb2.size; (try simp at hz2); have hy2 : w.heap.size < w2.heap.size := by omega))
  go_wp2
  (go_returns; exact ⟨rfl, by go_grown⟩)
set_option maxHeartbeats 400000 in
theorem iSurplus_no (a b c d e f g : Int) (w : World) (h : okY a b c d e f g = false) : Calls Try.prog 13 #[.agg #[.int .i64 a, .int .i64 b, .int .i64 c, .int .i64 d, .int .i64 e, .int .i64 f, .int .i64 g]] w fun e' w' => e' = .returned (.tuple #[.int .i64 (0), .int .i64 (1)]) ∧ Below w.heap.size w w' := by
  have H1 := fun W => iIsYear_any a b c d e f g W; rw [h] at H1; have H1 := Lib.hid H1
  clear h
  go_enter Try.func13, Try.ntmps13
  go_wp2_with (go_at_call 12; (with_reducible refine (H1.out _).mono ?_); rintro e' w1 ⟨rfl, hb1⟩; obtain ⟨hc1, hf1⟩ := bcell hb1; have hB1 := bel_step (w := w) (by go_grown) hb1; have hz1 := hb1.size; (try simp at hz1); have hy1 : w.heap.size < w1.heap.size := by omega)
  (go_returns; exact ⟨rfl, by go_grown⟩)
/-- the fund at the end, the surplus, the code -/
def endV (a b c d e f g : Int) : Int := if okY a b c d e f g then a + b + c - d + e - f else 0
def surV (a b c d e f g : Int) : Int := if okY a b c d e f g then a + b + c - d + e - f - g else 0
def yC (a b c d e f g : Int) : Int := if okY a b c d e f g then 0 else 1
theorem iEndFund_any (a b c d e f g : Int) (w : World) : Calls Try.prog 11 #[.agg #[.int .i64 a, .int .i64 b, .int .i64 c, .int .i64 d, .int .i64 e, .int .i64 f, .int .i64 g]] w fun e' w' => e' = .returned (.tuple #[.int .i64 (endV a b c d e f g), .int .i64 (yC a b c d e f g)]) ∧ Below w.heap.size w w' := by
  unfold endV yC
  cases h : okY a b c d e f g with
  | true => exact iEndFund_yes a b c d e f g w h
  | false => exact iEndFund_no a b c d e f g w h
theorem iSurplus_any (a b c d e f g : Int) (w : World) : Calls Try.prog 13 #[.agg #[.int .i64 a, .int .i64 b, .int .i64 c, .int .i64 d, .int .i64 e, .int .i64 f, .int .i64 g]] w fun e' w' => e' = .returned (.tuple #[.int .i64 (surV a b c d e f g), .int .i64 (yC a b c d e f g)]) ∧ Below w.heap.size w w' := by
  unfold surV yC
  cases h : okY a b c d e f g with
  | true => exact iSurplus_yes a b c d e f g w h
  | false => exact iSurplus_no a b c d e f g w h
/-- the expected interest -/
def expI (s r : Int) : Int := s * r / 1000
theorem exp_bd {a b r : Int} (ha : 0 ≤ a ∧ a ≤ 1000000000000) (hb : 0 ≤ b ∧ b ≤ 1000000000000) (hr : 0 ≤ r ∧ r ≤ 200) : 0 ≤ (a + b) * r ∧ (a + b) * r ≤ 400000000000000 :=
  ⟨Int.mul_nonneg (by omega) hr.1, Int.le_trans (Int.mul_le_mul (by omega : a + b ≤ 2000000000000) hr.2 hr.1 (by omega)) (by omega)⟩
theorem expI_bd {a b r : Int} (ha : 0 ≤ a ∧ a ≤ 1000000000000) (hb : 0 ≤ b ∧ b ≤ 1000000000000) (hr : 0 ≤ r ∧ r ≤ 200) : 0 ≤ expI (a + b) r ∧ expI (a + b) r ≤ 400000000000 := by
  have := exp_bd ha hb hr
  unfold expI
  generalize (a + b) * r = x at *
  omega
/-- the greatest rate up to n that was earned -/
def erate (s e : Int) : Nat → Int
  | 0 => 0
  | k + 1 => if e < expI s ((k + 1 : Nat) : Int) then erate s e k else ((k + 1 : Nat) : Int)
theorem erate_step {s e : Int} {k : Nat} (he : 0 ≤ e) (h : e < expI s (k : Int)) : 1 ≤ k ∧ erate s e k = erate s e (k - 1) := by
  cases k with
  | zero => exfalso; unfold expI at h; simp at h; omega
  | succ k => exact ⟨by omega, by rw [erate, if_pos h]; rfl⟩
theorem erate_stop {s e : Int} {k : Nat} (h : ¬ e < expI s (k : Int)) : erate s e k = k := by
  cases k with
  | zero => rfl
  | succ k => rw [erate, if_neg h]
def earnV (a b c d e f g : Int) : Int := if okY a b c d e f g then erate (a + b) e 200 else 0
end Go.Proofs.Ytpnohdfdfehoiaa
