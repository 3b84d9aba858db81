/-
  Contracts: ExpectedYears.
-/
import Derived.Test.YtmefjjamkebinaaK3
import Derived.Test.YtmefjjamkebinaaN3
set_option linter.unusedSimpArgs false
set_option linter.unusedVariables false
namespace Go.Proofs.Ytmefjjamkebinaa
open Go.RowKit
/-- the sum of what stands from place m on -/
def restS (xs : List Int) (m : Nat) : Int := (xs.drop m).sum
theorem rest_end {xs : List Int} {m : Nat} (h : xs.length ≤ m) : restS xs m = 0 := by unfold restS; rw [List.drop_of_length_le h]; rfl
theorem rest_step {xs : List Int} {m : Nat} (h : m < xs.length) : restS xs m = gv xs m + restS xs (m + 1) := by
  unfold restS
  rw [List.drop_eq_getElem_cons h, List.sum_cons, gv_at (List.getElem?_eq_getElem h)]
theorem rest_bd {xs : List Int} (h : ∀ i, i < xs.length → 0 ≤ gv xs i ∧ gv xs i ≤ 1000000) (hn : xs.length ≤ 120) : ∀ m, 0 ≤ restS xs m ∧ restS xs m ≤ 120000000 := by
  have H : ∀ k m, xs.length - m = k → 0 ≤ restS xs m ∧ restS xs m ≤ 1000000 * (k : Int) := by
    intro k
    induction k with
    | zero => intro m hm; rw [rest_end (by omega)]; omega
    | succ k ih =>
      intro m hm
      have h1 := ih (m + 1) (by omega)
      have h2 := h m (by omega)
      rw [rest_step (by omega)]
      omega
  intro m
  have := H _ m rfl
  omega
noncomputable def exV (f : Int) (n : Nat) (xs : List Int) (age : Int) : Value := if alC f n xs age = 0 then .tuple #[.int .i64 (fr (restS xs (age - f + 1).toNat) (lv f n xs age) (restS xs (age - f + 1).toNat)), .int .i64 (fr (restS xs (age - f + 1).toNat) (lv f n xs age) (lv f n xs age)), .int .i64 0] else .tuple #[.int .i64 0, .int .i64 0, .int .i64 (alC f n xs age)]
set_option maxHeartbeats 1000000 in
theorem sEnd_any (f : Int) (A : Option Addr) (n c : Nat) (w : World) (hf : 0 ≤ f ∧ f ≤ 100) (hn : n ≤ 1048576) : Calls Try.prog 65 #[.agg #[.int .i64 f, .slice A n c]] w fun e w' => e = .returned (.int .i64 (f + n - 1)) ∧ Below w.heap.size w w' := by
  go_enter Try.func65, Try.ntmps65
  go_wp2
  go_returns
  exact ⟨rfl, by go_grown⟩
end Go.Proofs.Ytmefjjamkebinaa
