/-
  Words for a class of the call's own.
-/
import Derived.Test.YtaikfclgmkfooaaGreatDoorF1
set_option linter.unusedSimpArgs false
set_option linter.unusedVariables false
namespace Go.Proofs.YtaikfclgmkfooaaGreatDoor
open Go.RowKit
theorem OwC.apart {w w' : World} {base : Nat} {vs vd : Value} {ss ds : List Int} {row : Option Nat} (h : OwC w base vs vd ss ds) (hg : w.grownBy w' row) (hb : ∀ g, row = some g → g < base) : OwC w' base vs vd ss ds := by
  obtain ⟨mid, h1, h2, h3, h4⟩ := h
  exact ⟨mid, ⟨h1.1, Nat.le_trans h1.2 hg.size⟩, h2.apart hg hb, h3, h4.apart hg (fun g e => Nat.lt_of_lt_of_le (hb g e) h1.1)⟩
theorem OwC.alloc {w : World} {base : Nat} {vs vd : Value} {ss ds : List Int} (h : OwC w base vs vd ss ds) (o : Obj) : OwC (w.alloc o) base vs vd ss ds := h.later (al_ _ _)
theorem OwC.rdS {w : World} {base : Nat} {S D : Option Addr} {n c m d : Nat} {ss ds : List Int} (h : OwC w base (.slice S n c) (.slice D m d) ss ds) : (n = ss.length ∧ m = ds.length) ∧ RdI w w.heap.size S n ss ∧ RdI w w.heap.size D m ds := by
  obtain ⟨mid, h1, h2, h3, h4⟩ := h
  exact ⟨⟨h2.rd.1, h4.rd.1⟩, h2.rd.2, h4.rd.2⟩
theorem OwC.caps {w : World} {base : Nat} {S D : Option Addr} {n c m d : Nat} {ss ds : List Int} (h : OwC w base (.slice S n c) (.slice D m d) ss ds) : (S = none → c = 0) ∧ (D = none → d = 0) := by
  obtain ⟨mid, h1, h2, h3, h4⟩ := h
  exact ⟨OwI.none_cap h2, OwI.none_cap h4⟩
theorem OwC.rows {w : World} {base : Nat} {vs vd : Value} {ss ds : List Int} (h : OwC w base vs vd ss ds) : (∀ q, vs.ownBlock = some q → base ≤ q ∧ q < w.heap.size) ∧ ∀ q, vd.ownBlock = some q → base ≤ q ∧ q < w.heap.size := by
  obtain ⟨mid, h1, h2, h3, h4⟩ := h
  exact ⟨own_rowI h2, fun q e => ⟨Nat.le_trans h1.1 (own_rowI h4 q e).1, (own_rowI h4 q e).2⟩⟩
theorem kL_len (k : Int) (xs : List Int) : (kL k xs).length ≤ xs.length := by unfold kL; split <;> simp
end Go.Proofs.YtaikfclgmkfooaaGreatDoor
