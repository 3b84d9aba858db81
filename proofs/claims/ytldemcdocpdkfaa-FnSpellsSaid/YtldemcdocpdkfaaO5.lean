/-
  The copy of spells lies in a block of its own; its marks.
-/
import Derived.Test.YtldemcdocpdkfaaI5
import Derived.Test.YtldemcdocpdkfaaI3
set_option linter.unusedSimpArgs false
set_option linter.unusedVariables false
namespace Go.Proofs.Ytldemcdocpdkfaa
open Go.RowKit
set_option maxHeartbeats 1000000 in
theorem toSpellS_own (A : Option Addr) (n c B : Nat) (xs : List (Int × Int)) (w : World) (h : RdP w B A n xs) (hB : B ≤ w.heap.size) (hn : n ≤ 1048576) : Calls Try.prog 15 #[.slice A n c] w fun e w' => e = .returned (.slice (some ⟨w.heap.size, 0, none⟩) n n) ∧ RdP w' w'.heap.size (some ⟨w.heap.size, 0, none⟩) n xs ∧ (∃ cs, Blk w' w.heap.size 57 cs ∧ cs.size = n * 2) ∧ Below w.heap.size w w' := by
  have H := Lib.hid h
  have HT := Lib.hid (fun x y W => toSpell_any x y W)
  have HN : (Try.prog.info? 57).map (fun i => (i.zero, i.size, i.bytes)) = some (some (.agg #[.int .i64 0, .int .i64 0]), 2, 16) := by kernel_rfl
  obtain ⟨i0, hi, hz0, hz1, hz2⟩ := info_parts HN
  have hmk := fun W => run_make_rowN (P := Try.prog) 25 57 i0 _ Try.underlying25 hi hz0 .i64 .i64 n n (Nat.le_refl _) (by rw [hz2]; omega) (by omega) W
  rw [hz1] at hmk
  have hms : (madeCells (Value.agg #[.int .i64 0, .int .i64 0]).cells (n * 2)).size = n * 2 := size_madeCells _ _
  generalize madeCells (Value.agg #[.int .i64 0, .int .i64 0]).cells (n * 2) = cs0 at *
  have HS0 := Lib.hid hms
  clear h HN hi hz0 hz1 hz2 hms
  go_enter Try.func15, Try.ntmps15
  go_wp2
  clear hmk
  go_loopw [4] (fun i wr => ∃ k : Nat, k ≤ n ∧ i = .int .i64 k ∧ Below w.heap.size w wr ∧ ∃ cs : Array Value, cs.size = n * 2 ∧ Hid (Blk wr w.heap.size 57 cs) ∧ Hid (cs.toList.take (2 * k) = (xs.take k).flatMap enP)) (fun i _ => n - (intOf i).toNat)
  case atStart => exact ⟨0, Nat.zero_le _, rfl, by go_grown, cs0, HS0.out, Blk.new _ _ _, by unfold Hid; simp⟩
  case round =>
    obtain ⟨k, hk, rfl, hR, cs, hcs, HB, HL⟩ := hrel
    by_cases hlt : k < n
    · obtain ⟨ad, x, y, rfl, hb, hz, hx, hy⟩ := RdP.atP ((H.out.more hB).below hR) hlt
      have HZ := Lib.hid hz
      clear hz
      have HCS := Lib.hid hcs
      have hlw := HB.out.lt
      clear hcs
      go_wp2_with (go_at_call 40; (with_reducible refine (HT.out _ _ _).mono ?_); rintro ee w1 ⟨rfl, hb1⟩; have HB1 := Lib.hid (HB.out.below hb1 hlw); have g3 := HB1.out.frozen (k * 2); have g4 := HB1.out.frozen (k * 2 + 1); obtain ⟨v1, g1⟩ : ∃ v, w1.cell? ⟨w.heap.size, k * 2, none⟩ = some v := ⟨_, (HB1.out.cell _).trans (Array.getElem?_eq_getElem (by have := HCS.out; omega))⟩; obtain ⟨v2, g2⟩ : ∃ v, w1.cell? ⟨w.heap.size, k * 2 + 1, none⟩ = some v := ⟨_, (HB1.out.cell _).trans (Array.getElem?_eq_getElem (by have := HCS.out; omega))⟩; have hR1 := hR.trans (hb1.mono hR.size))
      go_roundw
      case rel =>
        refine ⟨k + 1, by omega, by go_num, by go_grown, _, ?_, (HB1.out.set_ _ _).set_ _ _, ?_⟩
        · have := HCS.out; simpa using this
        · show List.take _ _ = _
          rw [take_set2 _ _ _ _ (by have := HCS.out; omega), HL.out, flat_take HZ.out]
      case measure => simp [intOf]; omega
    · obtain rfl : k = n := by omega
      have hl := H.out.len
      have HE : Hid (cs.toList = xs.flatMap enP) := by
        have h1 := HL.out
        rw [List.take_of_length_le (by rw [Array.length_toList, hcs]; omega), List.take_of_length_le (by omega)] at h1
        exact h1
      have HCS := Lib.hid hcs
      clear hcs hl
      go_wp2
      go_ret
      exact ⟨rfl, rdp_of_blk HB.out HCS.out HE.out hn, ⟨cs, HB.out, HCS.out⟩, hR⟩
set_option maxHeartbeats 1000000 in
theorem markSpellS_any (g n c : Nat) (cs0 : Array Value) (w : World) (h : Blk w g 57 cs0) (hs0 : cs0.size = n * 2) (hn : n ≤ 1048576) : Calls Try.prog 25 #[.slice (some ⟨g, 0, none⟩) n c, .int .i64 1] w fun e w' => e = .returned (.int .i64 (1 + 2 * (n : Int))) ∧ w.grownBy w' (some g) := by
  have H0 := Lib.hid h
  have S0 := Lib.hid hs0
  clear h hs0
  go_enter Try.func25, Try.ntmps25
  go_wp2
  go_loopw [1, 5] (fun x i wr => ∃ k : Nat, k ≤ n ∧ i = .int .i64 k ∧ x = .int .i64 (1 + 2 * (k : Int)) ∧ w.grownBy wr (some g) ∧ ∃ cs : Array Value, cs.size = n * 2 ∧ Hid (Blk wr g 57 cs)) (fun _ i _ => n - (intOf i).toNat)
  case atStart => exact ⟨0, Nat.zero_le _, rfl, rfl, World.grownBy.refl _ _, cs0, S0.out, H0.out⟩
  case round =>
    obtain ⟨k, hk, rfl, rfl, hG, cs, hcs, HB⟩ := hrel
    by_cases hlt : k < n
    · have g3 := HB.out.frozen (k * 2)
      have g4 := HB.out.frozen (k * 2 + 1)
      obtain ⟨v1, g1⟩ : ∃ v, wr.cell? ⟨g, k * 2, none⟩ = some v := ⟨_, (HB.out.cell _).trans (Array.getElem?_eq_getElem (by omega))⟩
      obtain ⟨v2, g2⟩ : ∃ v, wr.cell? ⟨g, k * 2 + 1, none⟩ = some v := ⟨_, (HB.out.cell _).trans (Array.getElem?_eq_getElem (by omega))⟩
      have HCS := Lib.hid hcs
      clear hcs
      go_wp2
      go_roundw
      case rel => exact ⟨k + 1, by omega, by go_num, by first | go_num | (congr 1; omega), grownBy_store (grownBy_store hG _ _) _ _, _, by have := HCS.out; simpa using this, (HB.out.set_ _ _).set_ _ _⟩
      case measure => simp [intOf]; omega
    · have HE : Hid (k = n) := by show _ = _; omega
      go_wp2
      go_ret
      exact ⟨by rw [← HE.out]; rfl, hG⟩
end Go.Proofs.Ytldemcdocpdkfaa
