/-
  The walks of statements of chapter 14, 'X returns what the reference returns' over one family: the law returns true and turns nothing that was there. No condition.
-/
import Derived.Test.YtmgaooinkdmpbaaC4
import Derived.Test.YtmgaooinkdmpbaaD4
import Derived.Test.YtmgaooinkdmpbaaF
set_option linter.unusedSimpArgs false
set_option linter.unusedVariables false
namespace Go.Proofs.Ytmgaooinkdmpbaa
open Go.ChangeShapes Go.WideShapes Go.ChangeAt Go.RowKit Go.Deep
set_option maxRecDepth 100000 in
/-- a family that came in -/
theorem open_family {H : Type} {enc : TypeId × Value → H} {w : World} {r : Reach} {b0 : Nat} {v : Value} {dd : DataW H} {p : List MemPlace} (hv : Value.okWide Try.prog w r b0 24 v) (h : DataW.Trod enc Try.prog w 0 (fun _ => true) true 24 v dd p) :
    ∃ d m wd lf A n c xs, v = .agg #[.int .i64 d, .int .i64 m, .int .i64 wd, .int .i64 lf, .slice A n c] ∧ RdI w w.heap.size A n xs ∧ n ≤ c ∧ c ≤ maxLen := by
  obtain ⟨l, fuel, rfl, hl, ht⟩ := open_agg Try.underlying24 (by kernel_rfl) hv h
  have hF := el_fields Try.underlying24 (by kernel_rfl) hl ht
  obtain ⟨n0, c0, y0, hc0, h0⟩ := hF 0 _ rfl
  obtain ⟨n1, c1, y1, hc1, h1⟩ := hF 1 _ rfl
  obtain ⟨n2, c2, y2, hc2, h2⟩ := hF 2 _ rfl
  obtain ⟨n3, c3, y3, hc3, h3⟩ := hF 3 _ rfl
  obtain ⟨n4, c4, y4, hc4, h4⟩ := hF 4 _ rfl
  obtain ⟨d, hd, _, _⟩ := DataW.trod_int Try.underlying2 h0
  obtain ⟨m, hm, _, _⟩ := DataW.trod_int Try.underlying2 h1
  obtain ⟨wd, hw, _, _⟩ := DataW.trod_int Try.underlying2 h2
  obtain ⟨lf, hf, _, _⟩ := DataW.trod_int Try.underlying2 h3
  obtain ⟨A, n, c, xs, hcs, hn, hc, hR, _⟩ := open_rd (en := enI) (sz := 1) (good := I64) Try.underlying22 (by kernel_rfl) (by omega) (el_int Try.underlying2) h4
  match l, hl with
  | [a0, a1, a2, a3, a4], _ =>
    simp only [List.getElem?_cons_zero, List.getElem?_cons_succ, Option.some.injEq] at hc0 hc1 hc2 hc3 hc4
    subst hc0 hc1 hc2 hc3 hc4
    simp only [List.cons.injEq, and_true] at hd hm hw hf hcs
    subst hd hm hw hf hcs
    exact ⟨_, _, _, _, _, _, _, xs, rfl, hR, hn, hc⟩