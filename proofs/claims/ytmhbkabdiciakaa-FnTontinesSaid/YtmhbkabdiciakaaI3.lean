/-
  Contracts of the small functions over []int64 and life tables: the size, the copy, the comparison of equal tables.
-/
import Derived.Test.YtmhbkabdiciakaaS
import Derived.Deep.RegionHeld3
import Derived.Deep.DeepCutAuto
set_option linter.unusedSimpArgs false
set_option linter.unusedVariables false
namespace Go.Proofs.Ytmhbkabdiciakaa
open Go.RowKit
theorem take_set1 (cs : Array Value) (k : Nat) (a : Value) (h : k + 1 ≤ cs.size) : (cs.setIfInBounds k a).toList.take (k + 1) = cs.toList.take k ++ [a] := by
  obtain ⟨l⟩ := cs
  simp only [List.size_toArray] at h
  simp only [List.setIfInBounds_toArray]
  rw [List.take_succ_eq_append_getElem (by simp; omega)]
  simp [List.take_set_of_le]
theorem map_take1 {xs : List Int} {k : Nat} {x : Int} (h : xs[k]? = some x) : (xs.take (k + 1)).flatMap enI = (xs.take k).flatMap enI ++ [.int .i64 x] := by
  obtain ⟨hk, he⟩ := List.getElem?_eq_some_iff.1 h
  rw [List.take_succ_eq_append_getElem hk, List.flatMap_append, he]
  rfl
theorem rdi_of_blk {w : World} {g : Nat} {t : TypeId} {cs : Array Value} {n : Nat} {xs : List Int} (h : Blk w g t cs) (hs : cs.size = n) (hc : cs.toList = xs.flatMap enI) (hn : n ≤ 1048576) : RdI w w.heap.size (some ⟨g, 0, none⟩) n xs := by
  have hl : xs.length = n := by
    rw [← map_flat] at hc
    have := congrArg List.length hc
    simpa [hs] using this.symm
  have ho : w.ownsRow 0 t 1 (.slice (some ⟨g, 0, none⟩) n n) n cs.toList :=
    ⟨by simpa using hs, .inr ⟨g, n, cs, rfl, Nat.zero_le _, h, Nat.le_refl _, by unfold maxLen; omega, by omega, List.take_of_length_le (by rw [Array.length_toList, hs]; omega)⟩⟩
  exact RdS.of_own (fun x => rfl) ho hc hl
theorem keepAb {α : Type} {enc : α → List Value} {sz : Nat} {w w' : World} {B b : Nat} {A : Option Addr} {n : Nat} {xs : List α} (h : RdS enc sz w B A n xs) (hA : ∀ ad, A = some ad → b ≤ ad.block) (hk : ∀ p : Addr, b ≤ p.block → w'.cell? p = w.cell? p) : RdS enc sz w' B A n xs :=
  ⟨h.1, fun hn => by
    obtain ⟨ad, e, hb, hc⟩ := h.2 hn
    exact ⟨ad, e, hb, fun i x hx j v hv => (hk _ (by rw [block_of_add]; exact hA ad e)).trans (hc i x hx j v hv)⟩⟩
theorem far_set {w : World} {p q : Addr} {u : Value} (h : p.block < q.block) : (w.setCell p u).cell? q = w.cell? q := World.cell?_setCell_other w p q u (fun e => by subst e; omega)
set_option maxHeartbeats 400000 in
theorem szI_big (A : Option Addr) (n c : Nat) (w : World) (h : 1048576 < n) (hn : n ≤ maxLen) : Calls Try.prog 55 #[.slice A n c, .int .i64 1048576] w fun e w' => e = .returned (.int .i64 (-1)) ∧ w = w' := by
  unfold maxLen at hn
  go_enter Try.func55, Try.ntmps55
  go_wp2
  go_ret
  exact ⟨rfl, rfl⟩
set_option maxHeartbeats 400000 in
theorem szI_ok (A : Option Addr) (n c : Nat) (l : Int) (w : World) (h : (n : Int) ≤ l) (hl : l ≤ 1048576) : Calls Try.prog 55 #[.slice A n c, .int .i64 l] w fun e w' => e = .returned (.int .i64 (l - (n : Int))) ∧ w = w' := by
  go_enter Try.func55, Try.ntmps55
  go_wp2
  go_ret
  exact ⟨rfl, rfl⟩
set_option maxHeartbeats 400000 in
theorem szI_over (A : Option Addr) (n c : Nat) (l : Int) (w : World) (h : l < (n : Int)) (hl : 0 ≤ l ∧ l ≤ 1048576) (hn : n ≤ maxLen) : Calls Try.prog 55 #[.slice A n c, .int .i64 l] w fun e w' => e = .returned (.int .i64 (-1)) ∧ w = w' := by
  unfold maxLen at hn
  go_enter Try.func55, Try.ntmps55
  go_wp2
  go_ret
  exact ⟨rfl, rfl⟩
set_option maxHeartbeats 1000000 in
theorem toInts_any (A : Option Addr) (n c B : Nat) (xs : List Int) (w : World) (h : RdI w B A n xs) (hB : B ≤ w.heap.size) (hn : n ≤ 1048576) : Calls Try.prog 21 #[.slice A n c] w fun e w' => ∃ A' c', e = .returned (.slice A' n c') ∧ n ≤ c' ∧ c' ≤ maxLen ∧ RdI w' w'.heap.size A' n xs ∧ (∀ ad, A' = some ad → w.heap.size ≤ ad.block) ∧ Below w.heap.size w w' := by
  have H := Lib.hid h
  have HN : (Try.prog.info? 2).map (fun i => (i.zero, i.size, i.bytes)) = some (some (.int .i64 0), 1, 8) := by kernel_rfl
  obtain ⟨i0, hi, hz0, hz1, hz2⟩ := info_parts HN
  have hmk := fun W => run_make_rowN (P := Try.prog) 24 2 i0 _ Try.underlying24 hi hz0 .i64 .i64 n n (Nat.le_refl _) (by rw [hz2]; omega) (by omega) W
  rw [hz1] at hmk
  have hms : (madeCells (Value.int .i64 0).cells (n * 1)).size = n * 1 := size_madeCells _ _
  generalize madeCells (Value.int .i64 0).cells (n * 1) = cs0 at *
  rw [Nat.mul_one] at hms
  have HS0 := Lib.hid hms
  clear h HN hi hz0 hz1 hz2 hms
  go_enter Try.func21, Try.ntmps21
  go_wp2
  clear hmk
  go_loopw [4] (fun i wr => ∃ k : Nat, k ≤ n ∧ i = .int .i64 k ∧ Below w.heap.size w wr ∧ ∃ cs : Array Value, cs.size = n ∧ Hid (Blk wr w.heap.size 2 cs) ∧ Hid (cs.toList.take k = (xs.take k).flatMap enI)) (fun i _ => n - (intOf i).toNat)
  case atStart => exact ⟨0, Nat.zero_le _, rfl, by go_grown, cs0, HS0.out, Blk.new _ _ _, by unfold Hid; simp⟩
  case round =>
    obtain ⟨k, hk, rfl, hR, cs, hcs, HB, HL⟩ := hrel
    by_cases hlt : k < n
    · obtain ⟨ad, x, rfl, hb, hz, hx⟩ := RdI.atI ((H.out.more hB).below hR) hlt
      have HZ := Lib.hid hz
      have HCS := Lib.hid hcs
      have hlw := HB.out.lt
      have g3 := HB.out.frozen k
      obtain ⟨v1, g1⟩ : ∃ v, wr.cell? ⟨w.heap.size, k, none⟩ = some v := ⟨_, (HB.out.cell _).trans (Array.getElem?_eq_getElem (by omega))⟩
      clear hcs hz
      go_wp2
      go_roundw
      case rel =>
        refine ⟨k + 1, by omega, by go_num, by go_grown, _, ?_, HB.out.set_ _ _, ?_⟩
        · have := HCS.out; simpa using this
        · show List.take _ _ = _
          rw [take_set1 _ _ _ (by have := HCS.out; omega), HL.out, map_take1 HZ.out]
      case measure => simp [intOf]; omega
    · obtain rfl : k = n := by omega
      have hl := H.out.len
      have HE : Hid (cs.toList = xs.flatMap enI) := by
        have h1 := HL.out
        rw [List.take_of_length_le (by rw [Array.length_toList, hcs]; omega), List.take_of_length_le (by omega)] at h1
        exact h1
      have HCS := Lib.hid hcs
      clear hcs hl
      go_wp2
      go_ret
      exact ⟨_, _, rfl, Nat.le_refl _, by unfold maxLen; omega, rdi_of_blk HB.out HCS.out HE.out hn, fun ad e => by cases e; exact Nat.le_refl _, hR⟩
end Go.Proofs.Ytmhbkabdiciakaa
