/-
  The walks of the statements of chapter 3, 'X returns what the reference returns' over one life table: the law returns true and turns nothing that was there. No condition.
-/
import Derived.Test.YtmefjjamkebinaaV3
import Derived.Test.YtmefjjamkebinaaF
set_option linter.unusedSimpArgs false
set_option linter.unusedVariables false
namespace Go.Proofs.Ytmefjjamkebinaa
open Go.ChangeShapes Go.WideShapes Go.ChangeAt Go.RowKit Go.Deep
/-- a life table that came in -/
theorem open_table {H : Type} {enc : TypeId × Value → H} {w : World} {r : Reach} {b0 : Nat} {v : Value} {d : DataW H} {p : List MemPlace} (hv : Value.okWide Try.prog w r b0 24 v) (h : DataW.Trod enc Try.prog w 0 (fun _ => true) true 24 v d p) :
    ∃ f A n c xs, v = .agg #[.int .i64 f, .slice A n c] ∧ RdI w w.heap.size A n xs ∧ n ≤ c ∧ c ≤ maxLen := by
  obtain ⟨l, fuel, rfl, hl, ht⟩ := open_agg Try.underlying24 (by kernel_rfl) hv h
  have hF := el_fields Try.underlying24 (by kernel_rfl) hl ht
  obtain ⟨n0, c0, y0, hc0, h0⟩ := hF 0 _ rfl
  obtain ⟨n1, c1, y1, hc1, h1⟩ := hF 1 _ rfl
  obtain ⟨f, hf, _, _⟩ := DataW.trod_int Try.underlying2 h0
  obtain ⟨A, n, c, xs, hcs, hn, hc, hR, _⟩ := open_rd (en := enI) (sz := 1) (good := I64) Try.underlying22 (by kernel_rfl) (by omega) (el_int Try.underlying2) h1
  match l, hl with
  | [a, b], _ =>
    simp only [List.getElem?_cons_zero, List.getElem?_cons_succ, Option.some.injEq] at hc0 hc1
    subst hc0 hc1
    simp only [List.cons.injEq, and_true] at hf hcs
    subst hf hcs
    exact ⟨_, _, _, _, xs, rfl, hR, hn, hc⟩