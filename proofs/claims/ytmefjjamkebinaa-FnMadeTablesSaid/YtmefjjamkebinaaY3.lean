/-
  Contracts of MakeTable, refused.
-/
import Derived.Test.YtmefjjamkebinaaW3
set_option linter.unusedSimpArgs false
set_option linter.unusedVariables false
namespace Go.Proofs.Ytmefjjamkebinaa
open Go.RowKit
theorem inR_dec (a b x : Int) : inR a b x = true ↔ a ≤ x ∧ x ≤ b := by unfold inR; simp
theorem mt_case {f l : Int} {n : Nat} {rs : List Int} (h : ¬ mtP f l n rs) : (inR 0 100 f = false) ∨ (inR 0 100 f = true ∧ inR 1 1000000 l = false) ∨ (inR 0 100 f = true ∧ inR 1 1000000 l = true ∧ (0 ≤ f ∧ f ≤ 100) ∧ ¬ (n : Int) ≤ 118) ∨ (inR 0 100 f = true ∧ inR 1 1000000 l = true ∧ (0 ≤ f ∧ f ≤ 100) ∧ (n : Int) ≤ 118 ∧ ¬ (n : Int) ≤ 149 - f) ∨ (inR 0 100 f = true ∧ inR 1 1000000 l = true ∧ (0 ≤ f ∧ f ≤ 100) ∧ (n : Int) ≤ 118 ∧ (n : Int) ≤ 149 - f ∧ rs.all (inR 0 1000) = false) := by
  cases h1 : inR 0 100 f with
  | false => exact .inl rfl
  | true =>
    have hf := (inR_dec _ _ _).mp h1
    cases h2 : inR 1 1000000 l with
    | false => exact .inr (.inl ⟨rfl, rfl⟩)
    | true =>
      have hl := (inR_dec _ _ _).mp h2
      by_cases h3 : (n : Int) ≤ 118
      · by_cases h4 : (n : Int) ≤ 149 - f
        · cases h5 : rs.all (inR 0 1000) with
          | false => exact .inr (.inr (.inr (.inr ⟨rfl, rfl, hf, h3, h4, rfl⟩)))
          | true => exact absurd ⟨hf, hl, by omega, h4, fun r hr => (inR_dec _ _ _).mp (List.all_eq_true.mp h5 r hr)⟩ h
        · exact .inr (.inr (.inr (.inl ⟨rfl, rfl, hf, h3, h4⟩)))
      · exact .inr (.inr (.inl ⟨rfl, rfl, hf, h3⟩))
set_option maxHeartbeats 4000000 in
theorem iMt_no (f l : Int) (A : Option Addr) (n c : Nat) (rs : List Int) (w : World) (hRA : RdI w w.heap.size A n rs) (hn : n ≤ 120) (hP : ¬ mtP f l n rs) : Calls Try.prog 15 #[.int .i64 f, .int .i64 l, .slice A n c] w fun e w' => e = .returned (.tuple #[.agg #[.int .i64 0, .slice none 0 0], .int .i64 2]) ∧ Below w.heap.size w w' := by
  have hc := mt_case hP
  have H1 := fun W => inRange_any f 0 100 W
  have H2 := fun W => inRange_any l 1 1000000 W
  have H3 := Lib.hid (fun W => length_any A n c W (by omega))
  have H4 := fun W (hb : Below w.heap.size w W) => allIn_any A n c rs 0 1000 W ((hRA.below hb).more hb.size) (by unfold maxLen; omega)
  clear hRA hP
  generalize inR 0 100 f = b1 at *
  generalize inR 1 1000000 l = b2 at *
  generalize rs.all (inR 0 1000) = b3 at *
  replace H1 := Lib.hid H1
  replace H2 := Lib.hid H2
  replace H4 := Lib.hid H4
  rcases hc with rfl | ⟨rfl, rfl⟩ | ⟨rfl, rfl, h1, h2⟩ | ⟨rfl, rfl, h1, h2, h3⟩ | ⟨rfl, rfl, h1, h2, h3, rfl⟩
  all_goals
    go_enter Try.func15, Try.ntmps15
    go_wp2_with (first | (go_at_call 37; (with_reducible refine (H1.out _).mono ?_); rintro ee w1 ⟨rfl, rfl⟩) | (go_at_call 37; (with_reducible refine (H2.out _).mono ?_); rintro ee w2 ⟨rfl, rfl⟩) | (go_at_call 38; (with_reducible refine (H3.out _).mono ?_); rintro ee w3 ⟨rfl, rfl⟩) | (go_at_call 39; (with_reducible refine (H4.out _ (by go_grown)).mono ?_); rintro ee w4 ⟨rfl, hb4⟩; have hB4 := bel_step (w := w) (by go_grown) hb4; have hs4 := hB4.size; obtain ⟨r0, r1, t0, t1⟩ := c2_cellsM (blk_later (Blk.new w 26 #[.int .i64 0, .slice none 0 0]) hb4); have hlr := (blk_later (Blk.new w 26 #[.int .i64 0, .slice none 0 0]) hb4).lt))
    all_goals first | go_returns | ((try simp only [Exit.inBlock, Exit.then]); refine bodyPost_ret (v := .tuple #[.agg #[.int .i64 0, .slice none 0 0], .int .i64 2]) (by simp [results, Try.results15, go_sem, *]) rfl ?_)
    all_goals exact ⟨rfl, by first | go_grown | exact (hB4.setCell (by simp) _).setCell (by simp) _⟩
set_option maxHeartbeats 4000000 in
theorem sMt_no (f l : Int) (A : Option Addr) (n c : Nat) (rs : List Int) (w : World) (hRA : RdI w w.heap.size A n rs) (hn : n ≤ 120) (hP : ¬ mtP f l n rs) : Calls Try.prog 16 #[.int .i64 f, .int .i64 l, .slice A n c] w fun e w' => e = .returned (.tuple #[.agg #[.int .i64 0, .slice none 0 0], .int .i64 2]) ∧ Below w.heap.size w w' := by
  have hc := mt_case hP
  have H1 := fun W => sIn_any f 0 100 W
  have H2 := fun W => sIn_any l 1 1000000 W
  have H4 := fun W (hb : Below w.heap.size w W) (q : Int) => within_any A n c rs q 0 1000 W ((hRA.below hb).more hb.size) (by unfold maxLen; omega)
  have H5 : ∀ q : Int, (¬ (n : Int) ≤ q ∨ rs.all (inR 0 1000) = false) → (rs.all (inR 0 1000) && decide ((n : Int) ≤ q)) = false := by
    rintro q (hq | hq)
    · rw [decide_eq_false hq, Bool.and_false]
    · rw [hq]; rfl
  have H6 : ∀ W, Below w.heap.size w W → ∀ q : Int, (¬ (n : Int) ≤ q ∨ rs.all (inR 0 1000) = false) → Calls Try.prog 42 #[.slice A n c, .int .i64 q, .int .i64 0, .int .i64 1000] W fun e w' => e = .returned (.bool false) ∧ W = w' := fun W hb q hq => by have := H4 W hb q; rw [H5 q hq] at this; exact this
  clear hRA hP H4 H5
  generalize inR 0 100 f = b1 at *
  generalize inR 1 1000000 l = b2 at *
  generalize rs.all (inR 0 1000) = b3 at *
  replace H1 := Lib.hid H1
  replace H2 := Lib.hid H2
  replace H6 := Lib.hid H6
  rcases hc with rfl | ⟨rfl, rfl⟩ | ⟨rfl, rfl, h1, h2⟩ | ⟨rfl, rfl, h1, h2, h3⟩ | ⟨rfl, rfl, h1, h2, h3, rfl⟩
  all_goals
    go_enter Try.func16, Try.ntmps16
    go_wp2_with (first | (go_at_call 41; (with_reducible refine (H1.out _).mono ?_); rintro ee w1 ⟨rfl, rfl⟩) | (go_at_call 41; (with_reducible refine (H2.out _).mono ?_); rintro ee w2 ⟨rfl, rfl⟩) | (go_at_call 42; (with_reducible refine (H6.out _ (by go_grown) _ (by first | exact .inr trivial | exact .inr rfl | (refine .inl ?_; omega))).mono ?_); rintro ee w4 ⟨rfl, rfl⟩))
    all_goals go_returns
    all_goals exact ⟨rfl, by go_grown⟩
end Go.Proofs.Ytmefjjamkebinaa
