/-
  Contracts of chapter 3 for FnMadeTables: likeness of tables, DivideUp by a thousand.
-/
import Derived.Test.YtmefjjamkebinaaP3
import Derived.Test.Ytmefjjamkebinaa01
set_option linter.unusedSimpArgs false
set_option linter.unusedVariables false
namespace Go.Proofs.Ytmefjjamkebinaa
open Go.RowKit
set_option maxHeartbeats 1000000 in
theorem likeT_same (f : Int) (A A' : Option Addr) (n c c' B B' : Nat) (xs : List Int) (w : World) (h : RdI w B A n xs) (h' : RdI w B' A' n xs) (hB : B ≤ w.heap.size) (hB' : B' ≤ w.heap.size) (hn : n ≤ maxLen) : Calls Try.prog 17 #[.agg #[.int .i64 f, .slice A n c], .agg #[.int .i64 f, .slice A' n c']] w fun e w' => e = .returned (.bool true) ∧ Below w.heap.size w w' := by
  have HT := Lib.hid (fun W (hb : Below w.heap.size w W) => likeInts_same A A' n c c' B B' xs W (h.below (hb.mono hB)) (h'.below (hb.mono hB')) hn)
  clear h h' hn
  go_enter Try.func17, Try.ntmps17
  go_wp2_with (go_at_call 44; (with_reducible refine Calls.mono (HT.out _ (by go_grown)) ?_); rintro ee w1 ⟨rfl, hb1⟩; have hB1 := bel_step (w := w) (by go_grown) hb1)
  go_returns
  exact ⟨rfl, by go_grown⟩
set_option maxHeartbeats 1000000 in
theorem isMoney_p (p : Int) (w : World) (hp : 0 ≤ p ∧ p ≤ 1000000000) : Calls Try.prog 47 #[.int .i64 p] w fun e w' => e = .returned (.bool true) ∧ w = w' := by
  have HC := fun W => inRange_any p (-1000000000000) 1000000000000 W
  rw [show inR (-1000000000000) 1000000000000 p = true by unfold inR; simp; omega] at HC
  replace HC := Lib.hid HC
  go_enter Try.func47, Try.ntmps47
  go_wp2_with (go_at_call 37; (with_reducible refine (HC.out _).mono ?_); rintro ee w1 ⟨rfl, rfl⟩)
  go_returns
  exact ⟨rfl, rfl⟩
set_option maxHeartbeats 1000000 in
theorem divUp_p (p : Int) (w : World) (hp : 0 ≤ p ∧ p ≤ 1000000000) : Calls Try.prog 20 #[.int .i64 p, .int .i64 1000] w fun e w' => e = .returned (.tuple #[.int .i64 (cu p), .int .i64 0]) ∧ w = w' := by
  have H1 := Lib.hid (fun W => isMoney_p p W hp)
  have H3 := Lib.hid (fun W => iUp_any p W hp)
  have H2 := fun W => inRange_any 1000 1 1000000000 W
  rw [show inR 1 1000000000 1000 = true by unfold inR; simp] at H2
  replace H2 := Lib.hid H2
  generalize cu p = q at *
  go_enter Try.func20, Try.ntmps20
  go_wp2_with (first | (go_at_call 47; (with_reducible refine (H1.out _).mono ?_); rintro ee w1 ⟨rfl, rfl⟩) | (go_at_call 37; (with_reducible refine (H2.out _).mono ?_); rintro ee w2 ⟨rfl, rfl⟩) | (go_at_call 40; (with_reducible refine (H3.out _).mono ?_); rintro ee w3 ⟨rfl, rfl⟩))
  go_returns
  exact ⟨rfl, rfl⟩
end Go.Proofs.Ytmefjjamkebinaa
