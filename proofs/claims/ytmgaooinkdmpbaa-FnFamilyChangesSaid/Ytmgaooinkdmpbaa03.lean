/-
  Contracts of the laws' own dice: big, roll, below. Conditions: bytes that came in.
-/
import Derived.Test.YtmgaooinkdmpbaaD
import Derived.Laws.BitsLemmas
import Derived.Laws.Bits64
set_option linter.unusedSimpArgs false
set_option linter.unusedVariables false
namespace Go.Proofs.Ytmgaooinkdmpbaa
open Go.RowKit
theorem belowG {a b w : World} {B g : Nat} (h : Below B a w) (hg : w.grownBy b (some g)) (hB : B ≤ g) (hs : B ≤ w.heap.size) : Below B a b := h.grown hg hs (fun k e => by cases e; exact hB)
set_option maxHeartbeats 400000 in
theorem big_any (A : Option Addr) (n c : Nat) (w : World) (hn : n ≤ maxLen) : Calls Try.prog 13 #[.slice A n c] w fun e w' => e = .returned (.bool (decide (4096 < n))) ∧ w = w' := by
  unfold maxLen at hn
  go_enter Try.func13, Try.ntmps13
  go_wp2
  go_ret
  exact ⟨ret_bool (decide_eq_decide.2 (by omega)), rfl⟩
def DiceP (w : World) (e : Ending) (w' : World) : Prop := ∃ g A n c s, e = .returned (.pointer (some ⟨g, 0, none⟩)) ∧ w.heap.size ≤ g ∧ Blk w' g 74 #[.slice A n c, .int .i64 0, .int .u64 s] ∧ Code' w.heap.size w' A n ∧ Below w.heap.size w w'
set_option maxHeartbeats 2000000 in
theorem roll_any (A : Option Addr) (n c : Nat) (w : World) (sd : Int) (hC : Code' w.heap.size w A n) : Calls Try.prog 26 #[.slice A n c, .int .u64 sd] w (DiceP w) := by
  have hm : n ≤ 4096 := hC.1
  have HC := Lib.hid hC
  clear hC
  go_enter Try.func26, Try.ntmps26
  go_wp2
  generalize IntKind.u64.wrap (IntKind.u64.wrap (sd * 9341) + IntKind.u64.wrap (n : Int)) = s0
  generalize IntKind.u64.wrap (sd * 9341) = s1
  generalize IntKind.u64.wrap (n : Int) = s2
  go_loopw [6] (fun i wr => ∃ k : Nat, k ≤ n ∧ i = .int .i64 k ∧ ∃ s : Int, Hid (Blk wr w.heap.size 74 #[.slice A n c, .int .i64 0, .int .u64 s]) ∧ Below w.heap.size w wr) (fun i _ => n - (intOf i).toNat)
  case atStart => exact ⟨0, Nat.zero_le _, rfl, _, Blk.new _ _ _, by go_grown⟩
  case round =>
    obtain ⟨k, hk, rfl, s, HB, hR⟩ := hrel
    by_cases hlt : k < n
    · obtain ⟨_, bs, hbs, hby⟩ := HC.out.below hR
      obtain ⟨ad, z, rfl, hb, hz, hc⟩ := hbs.atB hlt
      clear hbs hby hz
      have k2 : wr.cell? ⟨w.heap.size, 2, none⟩ = some (.int .u64 s) := HB.out.cell 2
      have f2 := HB.out.frozen 2
      have hlt' : (k : Int) < (n : Int) := by omega
      go_wp2_with fail
      go_region
      go_wp2
      go_roundw
      case rel => exact ⟨k + 1, by omega, by go_num, _, HB.out.set_ 2 _, (hR.setCell (Nat.le_refl _) _).drew⟩
      case measure => simp [intOf]; omega
    · go_wp2
      go_ret
      exact ⟨_, A, n, c, s, rfl, Nat.le_refl _, HB.out, HC.out.below hR, hR⟩
theorem mask24 (U : Int) (h : 0 ≤ U) (h2 : U < 18446744073709551616) : ∃ X : Int, bits .and .u64 (U / 8589934592) 16777215 = X ∧ 0 ≤ X ∧ X ≤ 16777215 := by
  have hw : ∀ n : Int, 0 ≤ n → n < 2 ^ 63 → IntKind.u64.wrap n = n := fun n h0 h1 => by rw [IntKind.wrap_u64]; omega
  have h3 := bits_mask .u64 63 (by decide) hw 24 (by decide) (U / 8589934592) (by omega) (by omega)
  have e : ((2 : Int) ^ 24 - 1) = 16777215 := by decide
  have e2 : ((2 : Int) ^ 24) = 16777216 := by decide
  rw [e, e2] at h3
  exact ⟨_, h3, by omega, by omega⟩
set_option maxHeartbeats 2000000 in
theorem below_any (g : Nat) (A : Option Addr) (n c : Nat) (s m : Int) (w : World) (B : Nat) (hB : Blk w g 74 #[.slice A n c, .int .i64 0, .int .u64 s]) (hC : Code' B w A n) (hBg : B ≤ g) (hm : 1 ≤ m) : Calls Try.prog 27 #[.pointer (some ⟨g, 0, none⟩), .int .i64 m] w fun e w' => ∃ r, e = .returned (.int .i64 r) ∧ (0 ≤ r ∧ r < m) ∧ w.grownBy w' (some g) := by
  have k0 : w.cell? ⟨g, 0, none⟩ = some (.slice A n c) := hB.cell 0
  have k1 : w.cell? ⟨g, 1, none⟩ = some (.int .i64 0) := hB.cell 1
  have k2 : w.cell? ⟨g, 2, none⟩ = some (.int .u64 s) := hB.cell 2
  have f1 := hB.frozen 1
  have f2 := hB.frozen 2
  obtain ⟨X, hX, hX0, hX1⟩ := mask24 (IntKind.u64.wrap (IntKind.u64.wrap (s * 6364136223846793005) + 1442695040888963407)) (by rw [IntKind.wrap_u64]; omega) (by rw [IntKind.wrap_u64]; omega)
  have hw : IntKind.i64.wrap X = X := IntWalk.i64_in X (by omega)
  have hn4 : n ≤ 4096 := hC.1
  by_cases hn : n = 0
  · have hn1 : ¬ (0 : Int) < (n : Int) := by omega
    clear hB hC hn
    go_enter Try.func27, Try.ntmps27
    go_wp2_with fail
    go_quiet (fail)
    go_wp2
    go_ret
    exact ⟨_, rfl, ⟨Int.emod_nonneg _ (by omega), Int.emod_lt_of_pos _ (by omega)⟩, grownBy_drewN (grownBy_store (World.grownBy.refl _ _) _ _) _⟩
  · obtain ⟨_, bs, hbs, hby⟩ := hC
    obtain ⟨ad, z, rfl, hb, hz, hc⟩ := hbs.atB (k := 0) (by omega)
    obtain ⟨z0, z1⟩ := hby z (List.mem_of_getElem? hz)
    rw [add_zero'] at hc
    have hne : ∀ i, (⟨g, i, none⟩ : Addr) ≠ ad := fun i e => by have := congrArg Addr.block e; simp at this; omega
    have c1 : ∀ u : Value, (w.setCell ⟨g, 2, none⟩ u).cell? ad = some (.int .u8 z) := fun u => by rw [World.cell?_setCell_other _ _ _ _ (hne 2)]; exact hc
    have hn1 : (0 : Int) < (n : Int) := by omega
    have hn2 : 0 < n := by omega
    clear hB hbs hby hz hne hn
    go_enter Try.func27, Try.ntmps27
    go_wp2_with fail
    go_quiet (fail)
    go_wp2_with fail
    go_quiet (fail)
    go_wp2
    go_ret
    exact ⟨_, rfl, ⟨Int.emod_nonneg _ (by omega), Int.emod_lt_of_pos _ (by omega)⟩, by repeat (first | exact World.grownBy.refl _ _ | refine grownBy_store ?_ _ _ | refine grownBy_drewN ?_ _)⟩
end Go.Proofs.Ytmgaooinkdmpbaa
