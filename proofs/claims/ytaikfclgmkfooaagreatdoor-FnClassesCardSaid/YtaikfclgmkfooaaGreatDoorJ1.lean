/-
  Contracts of chapter 13: pay, the reference's side.
-/
import Derived.Test.YtaikfclgmkfooaaGreatDoorI1
import Derived.Test.YtaikfclgmkfooaaGreatDoorF1
set_option linter.unusedSimpArgs false
set_option linter.unusedVariables false
namespace Go.Proofs.YtaikfclgmkfooaaGreatDoor
open Go.RowKit
theorem OwC.off {w w' : World} {base p : Nat} {vs vd : Value} {ss ds : List Int} (h : OwC w base vs vd ss ds) (hg : w.grownBy w' (some p)) (hq : ∀ q, vs.ownBlock = some q ∨ vd.ownBlock = some q → q ≠ p) : OwC w' base vs vd ss ds := by
  obtain ⟨mid, h1, h2, h3, h4⟩ := h
  exact ⟨mid, ⟨h1.1, Nat.le_trans h1.2 hg.size⟩, h2.off hg (fun q e => hq q (.inl e)), h3, h4.off hg (fun q e => hq q (.inr e))⟩
theorem OwC.rowsB {w : World} {base : Nat} {vs vd : Value} {ss ds : List Int} (h : OwC w base vs vd ss ds) : ∀ q, vs.ownBlock = some q ∨ vd.ownBlock = some q → base ≤ q ∧ q < w.heap.size := by
  obtain ⟨mid, h1, h2, h3, h4⟩ := h
  intro q e
  rcases e with e | e
  · exact own_rowI h2 q e
  · exact ⟨Nat.le_trans h1.1 (own_rowI h4 q e).1, (own_rowI h4 q e).2⟩
/-- the code of pay -/
def payK (ss ds : List Int) (t : Int) : Int := if paC ss ds t ≤ 1000000000000 then 0 else 3
/-- what pay gives -/
def payP (w w' : World) (e : Ending) (k : Int) (ss ds : List Int) (cv : Int) (ps : List Int) : Prop := ∃ S' n' c' D' m' d' P p pc, e = .returned (.tuple #[.agg #[.slice S' n' c', .slice D' m' d', .int .i64 (kI k cv)], .slice P p pc, .int .i64 k]) ∧ OwC w' w.heap.size (.slice S' n' c') (.slice D' m' d') (kL k ss) (kL k ds) ∧ OwI w' w.heap.size (.slice P p pc) (kL k ps) ∧ Below w.heap.size w w'
theorem paL_zero {ss ds : List Int} {t : Int} (h : lvS ss ds ss.length = 0) : paL ss ds t = List.replicate ss.length 0 := by
  unfold paL
  rw [← range_zero]
  refine List.map_congr_left fun i _ => ?_
  unfold paV
  rw [h, Int.ediv_zero, Int.zero_mul]
  split <;> rfl
end Go.Proofs.YtaikfclgmkfooaaGreatDoor
