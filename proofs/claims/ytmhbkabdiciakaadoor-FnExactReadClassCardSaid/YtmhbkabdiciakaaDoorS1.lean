/-
  slices.Sort over numbers: the library's contract laid at this seat, over slices that the call owns.
-/
import Derived.Test.YtmhbkabdiciakaaDoorA1
import Derived.Test.YtmhbkabdiciakaaDoorOW
set_option linter.unusedSimpArgs false
set_option linter.unusedVariables false
namespace Go.Proofs.YtmhbkabdiciakaaDoor
open Go.RowKit
theorem OwI.sl_form {w : World} {base : Nat} {A : Option Addr} {n c : Nat} {zs : List Int} (h : OwI w base (.slice A n c) zs) : (A = none ∧ n = 0 ∧ c = 0 ∧ zs = []) ∨ ∃ g cur, A = some ⟨g, 0, none⟩ ∧ base ≤ g ∧ w.heap[g]? = some (.cells cur 2 (0, 0)) ∧ n ≤ c ∧ c ≤ maxLen ∧ cur.size = c * 1 ∧ cur.toList.take (zs.length * 1) = zs.map (Value.int .i64) ∧ zs.length = n := by
  have hl := h.rd.1
  obtain ⟨h0, h1⟩ := h
  rcases h1 with ⟨hv, hn⟩ | ⟨g, cap, cur, hv, hb, hh, h1, h2, h3, h4⟩
  · injection hv with e1 e2 e3
    subst e1 e2 e3
    exact .inl ⟨rfl, rfl, rfl, List.eq_nil_of_length_eq_zero (by omega)⟩
  · injection hv with e1 e2 e3
    subst e1 e2 e3
    exact .inr ⟨g, cur, rfl, hb, hh, h1, h2, h3, h4, rfl⟩
end Go.Proofs.YtmhbkabdiciakaaDoor
