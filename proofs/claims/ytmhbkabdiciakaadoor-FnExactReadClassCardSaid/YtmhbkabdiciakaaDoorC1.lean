/-
  Contracts of chapter 13: the shares of the living, copies.
-/
import Derived.Test.YtmhbkabdiciakaaDoorB1
import Derived.Test.YtmhbkabdiciakaaDoorRT
set_option linter.unusedSimpArgs false
set_option linter.unusedVariables false
namespace Go.Proofs.YtmhbkabdiciakaaDoor
open Go.RowKit
/-- the shares of the living among the first k -/
def lvS (ss ds : List Int) : Nat → Int
  | 0 => 0
  | k + 1 => lvS ss ds k + (if hs ds k = true then 0 else gz ss k)
theorem lvS_bd {ss ds : List Int} (h : ss.all (inR 1 1000) = true) : ∀ k, k ≤ ss.length → 0 ≤ lvS ss ds k ∧ lvS ss ds k ≤ 1000 * (k : Int)
  | 0, _ => by unfold lvS; omega
  | k + 1, hk => by
    have h1 := lvS_bd (ds := ds) h k (by omega)
    have h2 := inR_iff.1 (List.all_eq_true.1 h _ (gz_mem (show k < ss.length by omega)))
    unfold lvS
    split <;> omega
theorem lvS_dead {ss ds : List Int} {k : Nat} (h : hs ds k = true) : lvS ss ds (k + 1) = lvS ss ds k := by
  show lvS ss ds k + (if hs ds k = true then 0 else gz ss k) = _
  rw [if_pos h]
  omega
theorem lvS_alive {ss ds : List Int} {k : Nat} (h : hs ds k = false) : lvS ss ds (k + 1) = lvS ss ds k + gz ss k := by
  show lvS ss ds k + (if hs ds k = true then 0 else gz ss k) = _
  rw [if_neg (by rw [h]; decide)]
/-- a class of the call's own: the dead lie behind the shares -/
def OwC (w : World) (base : Nat) (vs vd : Value) (ss ds : List Int) : Prop := ∃ mid, (base ≤ mid ∧ mid ≤ w.heap.size) ∧ OwI w base vs ss ∧ (∀ q, vs.ownBlock = some q → q < mid) ∧ OwI w mid vd ds
section
variable {w w' : World} {base base' : Nat} {vs vd : Value} {ss ds : List Int}
theorem OwC.later (h : OwC w base vs vd ss ds) (hb : Below w.heap.size w w') : OwC w' base vs vd ss ds := by
  obtain ⟨mid, h1, h2, h3, h4⟩ := h
  exact ⟨mid, ⟨h1.1, Nat.le_trans h1.2 hb.size⟩, h2.later hb, h3, h4.later hb⟩
theorem OwC.mono (h : OwC w base vs vd ss ds) (hb : base' ≤ base) : OwC w base' vs vd ss ds := by
  obtain ⟨mid, h1, h2, h3, h4⟩ := h
  exact ⟨mid, ⟨Nat.le_trans hb h1.1, h1.2⟩, h2.mono hb, h3, h4⟩
theorem OwC.nil {w : World} {base : Nat} (h : base ≤ w.heap.size) : OwC w base (.slice none 0 0) (.slice none 0 0) [] [] := ⟨base, ⟨Nat.le_refl _, h⟩, World.ownsRow_nil _ _ _ _, (fun q e => by cases e), World.ownsRow_nil _ _ _ _⟩
theorem OwC.store (h : OwC w base vs vd ss ds) {p : Addr} (hp : p.block < base) (u : Value) : OwC (w.setCell p u) base vs vd ss ds := by
  obtain ⟨mid, h1, h2, h3, h4⟩ := h
  exact ⟨mid, ⟨h1.1, by simpa [World.setCell] using h1.2⟩, h2.store hp u, h3, h4.store (Nat.lt_of_lt_of_le hp h1.1) u⟩
end
theorem r3_cells {W : World} {t : TypeId} {g : Nat} {a b e : Value} (h : Blk W g t #[a, b, e]) : (W.cell? ⟨g, 0, none⟩ = some a ∧ W.cell? ⟨g, 1, none⟩ = some b ∧ W.cell? ⟨g, 2, none⟩ = some e) ∧ W.frozen? ⟨g, 0, none⟩ = false ∧ W.frozen? ⟨g, 1, none⟩ = false ∧ W.frozen? ⟨g, 2, none⟩ = false := ⟨⟨h.cell 0, h.cell 1, h.cell 2⟩, h.frozen 0, h.frozen 1, h.frozen 2⟩
end Go.Proofs.YtmhbkabdiciakaaDoor
