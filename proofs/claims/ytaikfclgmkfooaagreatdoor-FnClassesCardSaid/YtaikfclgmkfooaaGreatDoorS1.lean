/-
  slices.Sort over numbers: the library's contract laid at this seat, over slices that the call owns.
-/
import Derived.Test.YtaikfclgmkfooaaGreatDoorA1
import Derived.Test.YtaikfclgmkfooaaGreatDoorOW
import Derived.Test.YtaikfclgmkfooaaGreatDoorLS
import Derived.Shelf.SortG.Plain
import Derived.Shelf.SortG.SortNone
import Derived.Sort.OwnSortedInts
set_option linter.unusedSimpArgs false
set_option linter.unusedVariables false
namespace Go.Proofs.YtaikfclgmkfooaaGreatDoor
open Go.RowKit
open Go.Sort
theorem OwI.sl_form {w : World} {base : Nat} {A : Option Addr} {n c : Nat} {zs : List Int} (h : OwI w base (.slice A n c) zs) : (A = none ∧ n = 0 ∧ c = 0 ∧ zs = []) ∨ ∃ g cur, A = some ⟨g, 0, none⟩ ∧ base ≤ g ∧ w.heap[g]? = some (.cells cur 2 (0, 0)) ∧ n ≤ c ∧ c ≤ maxLen ∧ cur.size = c * 1 ∧ cur.toList.take (zs.length * 1) = zs.map (Value.int .i64) ∧ zs.length = n := by
  have hl := h.rd.1
  obtain ⟨h0, h1⟩ := h
  rcases h1 with ⟨hv, hn⟩ | ⟨g, cap, cur, hv, hb, hh, h1, h2, h3, h4⟩
  · injection hv with e1 e2 e3
    subst e1 e2 e3
    exact .inl ⟨rfl, rfl, rfl, List.eq_nil_of_length_eq_zero (by omega)⟩
  · injection hv with e1 e2 e3
    subst e1 e2 e3
    exact .inr ⟨g, cur, rfl, hb, hh, h1, h2, h3, h4, rfl⟩
theorem sort_own {base : Nat} (A : Option Addr) (n c : Nat) (zs : List Int) (W : World) (h : OwI W base (.slice A n c) zs) (hz : zs.length ≤ 3000000) : Calls Tryz.prog 51 #[.slice A n c] W fun e w' => e = .returned (.tuple #[]) ∧ OwI w' base (.slice A n c) (srt zs) ∧ W.grownBy w' (Value.slice A n c).ownBlock := by
  rcases h.sl_form with ⟨rfl, rfl, rfl, rfl⟩ | ⟨g, cur, rfl, hb, hh, h1, h2, h3, h4, h5⟩
  · refine Calls.mono (AnyG.slices_Sort_int_none sortI none 0 W) ?_
    rintro e w' ⟨rfl, rfl⟩
    exact ⟨rfl, (by rw [show srt [] = [] by simp [srt]]; exact World.ownsRow_nil _ _ _ _), World.grownBy.refl _ _⟩
  · subst h5
    have hH : Holds (Value.int .i64) W g 0 zs.toArray := holds_of_blockI hh (by rw [Nat.mul_one] at h4; exact h4)
    have hlt : g < W.heap.size := by
      rcases Nat.lt_or_ge g W.heap.size with h | h
      · exact h
      · rw [Array.getElem?_eq_none h] at hh; cases hh
    refine Calls.mono (AnyG.slices_Sort_int sortI g 0 c zs W hH hlt (by omega)) ?_
    rintro e w' ⟨rfl, k, os, rfl⟩
    refine ⟨rfl, ?_, grownBy_sortedI _⟩
    have h6 := ownsRow_sortedI (n := k) (os := os) (ts := srt zs) (srt_len zs) hb hh h1 h2 h3
    unfold OwI
    rw [srt_len]
    exact h6
end Go.Proofs.YtaikfclgmkfooaaGreatDoor
