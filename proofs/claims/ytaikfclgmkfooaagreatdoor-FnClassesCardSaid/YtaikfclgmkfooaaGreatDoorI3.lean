/-
  Contracts of the small functions over []int64 and life tables: the size, the copy, the comparison of equal tables.
-/
import Derived.Test.YtaikfclgmkfooaaGreatDoorS
import Derived.Deep.RegionHeld3
import Derived.Deep.DeepCutAuto
set_option linter.unusedSimpArgs false
set_option linter.unusedVariables false
namespace Go.Proofs.YtaikfclgmkfooaaGreatDoor
open Go.RowKit
theorem take_set1 (cs : Array Value) (k : Nat) (a : Value) (h : k + 1 ≤ cs.size) : (cs.setIfInBounds k a).toList.take (k + 1) = cs.toList.take k ++ [a] := by
  obtain ⟨l⟩ := cs
  simp only [List.size_toArray] at h
  simp only [List.setIfInBounds_toArray]
  rw [List.take_succ_eq_append_getElem (by simp; omega)]
  simp [List.take_set_of_le]
theorem map_take1 {xs : List Int} {k : Nat} {x : Int} (h : xs[k]? = some x) : (xs.take (k + 1)).flatMap enI = (xs.take k).flatMap enI ++ [.int .i64 x] := by
  obtain ⟨hk, he⟩ := List.getElem?_eq_some_iff.1 h
  rw [List.take_succ_eq_append_getElem hk, List.flatMap_append, he]
  rfl
theorem rdi_of_blk {w : World} {g : Nat} {t : TypeId} {cs : Array Value} {n : Nat} {xs : List Int} (h : Blk w g t cs) (hs : cs.size = n) (hc : cs.toList = xs.flatMap enI) (hn : n ≤ 1048576) : RdI w w.heap.size (some ⟨g, 0, none⟩) n xs := by
  have hl : xs.length = n := by
    rw [← map_flat] at hc
    have := congrArg List.length hc
    simpa [hs] using this.symm
  have ho : w.ownsRow 0 t 1 (.slice (some ⟨g, 0, none⟩) n n) n cs.toList :=
    ⟨by simpa using hs, .inr ⟨g, n, cs, rfl, Nat.zero_le _, h, Nat.le_refl _, by unfold maxLen; omega, by omega, List.take_of_length_le (by rw [Array.length_toList, hs]; omega)⟩⟩
  exact RdS.of_own (fun x => rfl) ho hc hl
theorem keepAb {α : Type} {enc : α → List Value} {sz : Nat} {w w' : World} {B b : Nat} {A : Option Addr} {n : Nat} {xs : List α} (h : RdS enc sz w B A n xs) (hA : ∀ ad, A = some ad → b ≤ ad.block) (hk : ∀ p : Addr, b ≤ p.block → w'.cell? p = w.cell? p) : RdS enc sz w' B A n xs :=
  ⟨h.1, fun hn => by
    obtain ⟨ad, e, hb, hc⟩ := h.2 hn
    exact ⟨ad, e, hb, fun i x hx j v hv => (hk _ (by rw [block_of_add]; exact hA ad e)).trans (hc i x hx j v hv)⟩⟩
theorem far_set {w : World} {p q : Addr} {u : Value} (h : p.block < q.block) : (w.setCell p u).cell? q = w.cell? q := World.cell?_setCell_other w p q u (fun e => by subst e; omega)
end Go.Proofs.YtaikfclgmkfooaaGreatDoor
