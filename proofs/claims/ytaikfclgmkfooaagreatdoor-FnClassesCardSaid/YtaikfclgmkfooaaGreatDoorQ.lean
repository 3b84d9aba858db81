/-
  Regions that draw their order, hold loads and calls that make memory, and write nothing else: one walk of the text's order serves, over the class of worlds in which all that lay there reads as before.
-/
import Derived.Test.YtaikfclgmkfooaaGreatDoorB
set_option linter.unusedSimpArgs false
set_option linter.unusedVariables false
namespace Go.Proofs.YtaikfclgmkfooaaGreatDoor
open Go.RowKit
/-- a world in which all of W0 reads as before -/
structure InC (W0 : World) where
  w : World
  h : Below W0.heap.size W0 w
instance (W0 : World) : Nonempty (InC W0) := ⟨⟨W0, Below.refl _ _⟩⟩
theorem InC.cell {W0 : World} {p : Addr} {v : Value} (hc : W0.cell? p = some v) (x : InC W0) : x.w.cell? p = some v := (x.h.cell (World.block_lt_of_cell? _ _ hc)).trans hc
theorem keepC {W0 w : World} {p : Addr} {v : Value} (hb : Below W0.heap.size W0 w) (hc : W0.cell? p = some v) : w.cell? p = some v := (hb.cell (World.block_lt_of_cell? _ _ hc)).trans hc
theorem InC.down {w W0 : World} (h : Below w.heap.size w W0) (x : InC W0) : Below w.heap.size w x.w := bel_step h x.h
theorem Calls.inC {P : Program} {f : FuncId} {args : Array Value} {W0 : World} {x : InC W0} {v : Value} (h : Calls P f args x.w fun e w' => e = .returned v ∧ Below x.w.heap.size x.w w') :
    Calls P f args x.w fun e w' => e = .returned v ∧ ∃ y : InC W0, w' = y.w :=
  h.mono fun _ w' ⟨he, hb⟩ => ⟨he, ⟨w', bel_step x.h hb⟩, rfl⟩
theorem Calls.inC_same {P : Program} {f : FuncId} {args : Array Value} {W0 : World} {x : InC W0} {v : Value} (h : Calls P f args x.w fun e w' => e = .returned v ∧ x.w = w') :
    Calls P f args x.w fun e w' => e = .returned v ∧ ∃ y : InC W0, w' = y.w :=
  h.mono fun _ w' ⟨he, hb⟩ => ⟨he, x, hb.symm⟩
theorem wp_region_inC {P : Program} {id : Nat} {Q : Exit → Act → World → Prop} {a : Act} {w : World} {l : List Oper} (hm : P.follows .mixedOrders = true) (hB : Region.lexB .any l.toArray = true)
    (h : wpQuiet P l.toArray (fun w' => ∃ x : InC w, w' = x.w) (fun a' => ∀ w', (∃ x : InC w, w' = x.w) → Q .normal a' w') l a) : (Code.region id l.toArray true).wp P Q a w :=
  wp_region_quiet (C := fun w' => ∃ x : InC w, w' = x.w) hm hB ⟨⟨_, (Below.refl _ _).drew⟩, rfl⟩ (by simpa using h)
theorem ret_two {a b c d : Int} (h : a = c) (h2 : b = d) : Ending.returned (.tuple #[.int .i64 a, .int .i64 b]) = .returned (.tuple #[.int .i64 c, .int .i64 d]) := by rw [h, h2]
theorem ret_three {a b c d e f : Int} (h : a = c) (h2 : b = d) (h3 : e = f) : Ending.returned (.tuple #[.int .i64 a, .int .i64 b, .int .i64 e]) = .returned (.tuple #[.int .i64 c, .int .i64 d, .int .i64 f]) := by rw [h, h2, h3]
theorem belowN {w : World} (n : Nat) {B : Nat} : Below B w (w.drewN n) := ⟨rfl, rfl, rfl, Nat.le_refl _, fun _ _ => rfl⟩
end Go.Proofs.YtaikfclgmkfooaaGreatDoor
