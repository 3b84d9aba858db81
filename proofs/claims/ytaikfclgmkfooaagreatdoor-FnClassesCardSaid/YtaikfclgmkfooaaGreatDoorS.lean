/-
  Contracts of the small functions that compare, mark and hold lists of int64; slices that a call owns.
-/
import Derived.Test.YtaikfclgmkfooaaGreatDoorB
set_option linter.unusedSimpArgs false
set_option linter.unusedVariables false
namespace Go.Proofs.YtaikfclgmkfooaaGreatDoor
open Go.RowKit

/-- v is a slice of int64 that lies in a block of its own from block base on, and reads as zs -/
def OwI (w : World) (base : Nat) (v : Value) (zs : List Int) : Prop := w.ownsRow base 2 1 v zs.length (zs.map (Value.int .i64))
theorem OwI.form {w : World} {base : Nat} {v : Value} {zs : List Int} (h : OwI w base v zs) : (v = .slice none 0 0 ∧ zs = []) ∨ ∃ g cap, v = .slice (some ⟨g, 0, none⟩) zs.length cap ∧ base ≤ g ∧ g < w.heap.size ∧ zs.length ≤ cap ∧ cap ≤ maxLen := by
  have hlt := h.lt
  obtain ⟨h1, h2⟩ := h
  rcases h2 with ⟨rfl, hn⟩ | ⟨g, cap, cur, rfl, hg, hh, hn, hm, _⟩
  · exact .inl ⟨rfl, List.eq_nil_of_length_eq_zero hn⟩
  · exact .inr ⟨g, cap, rfl, hg, (hlt g rfl).2, hn, hm⟩
theorem map_flat (zs : List Int) : zs.map (Value.int .i64) = zs.flatMap enI := by
  induction zs with
  | nil => rfl
  | cons z zs ih => rw [List.map_cons, List.flatMap_cons, ih]; rfl
theorem OwI.rd {w : World} {base : Nat} {A : Option Addr} {n c : Nat} {zs : List Int} (h : OwI w base (.slice A n c) zs) : n = zs.length ∧ RdI w w.heap.size A n zs := by
  have hn : n = zs.length := by
    rcases h.form with ⟨h1, h2⟩ | ⟨g, cap, h1, _⟩
    · injection h1 with h1 h3; subst h2; exact h3
    · injection h1
  subst hn
  exact ⟨rfl, RdS.of_own (fun x => rfl) h (map_flat zs) rfl⟩
theorem OwI.below {w w' : World} {base B : Nat} {v : Value} {zs : List Int} (h : OwI w base v zs) (hb : Below B w w') (hB : w.heap.size ≤ B) : OwI w' base v zs :=
  World.ownsRow.kept (row := none) h ⟨hb.os, hb.tape, hb.output, hb.size, fun i hi _ => hb.block i (by omega)⟩ (by cases hv : v.ownBlock <;> simp)
theorem OwI.later {w w' : World} {base : Nat} {v : Value} {zs : List Int} (h : OwI w base v zs) (hb : Below w.heap.size w w') : OwI w' base v zs := h.below hb (Nat.le_refl _)
theorem OwI.mono {w : World} {base base' : Nat} {v : Value} {zs : List Int} (h : OwI w base v zs) (hb : base' ≤ base) : OwI w base' v zs := by
  obtain ⟨h1, h2⟩ := h
  refine ⟨h1, ?_⟩
  rcases h2 with h2 | ⟨g, cap, cur, hv, hg, r⟩
  · exact .inl h2
  · exact .inr ⟨g, cap, cur, hv, by omega, r⟩

/-- the marks k, k + 1, .. -/
def marks (k : Int) (n : Nat) : List Int := (List.range n).map fun (i : Nat) => k + (i : Int)
theorem marks_len (k : Int) (n : Nat) : (marks k n).length = n := by simp [marks]
theorem marks_get (k : Int) (n i : Nat) (h : i < n) : (marks k n)[i]? = some (k + (i : Int)) := by simp [marks, h]

end Go.Proofs.YtaikfclgmkfooaaGreatDoor
