/-
  Contracts of the small functions over lists of pairs (payments, spells): the size, the copy, the comparison of equal lists.
-/
import Derived.Test.YtnklpdckclgilaaB
import Derived.Deep.RegionHeld3
import Derived.Deep.DeepCutAuto
set_option linter.unusedSimpArgs false
set_option linter.unusedVariables false
namespace Go.Proofs.Ytnklpdckclgilaa
open Go.RowKit
/-- a pair of int64 -/
def enP (p : Int × Int) : List Value := [.int .i64 p.1, .int .i64 p.2]
abbrev RdP := RdS enP 2
theorem RdP.atP {w : World} {B : Nat} {A : Option Addr} {n : Nat} {xs : List (Int × Int)} {k : Nat} (h : RdP w B A n xs) (hk : k < n) :
    ∃ ad x y, A = some ad ∧ ad.block < B ∧ xs[k]? = some (x, y) ∧ w.cell? (ad.add (k * 2)) = some (.int .i64 x) ∧ w.cell? ⟨(ad.add (k * 2)).block, (ad.add (k * 2)).off + 1, none⟩ = some (.int .i64 y) := by
  obtain ⟨ad, ⟨x, y⟩, h1, h2, h3, h4⟩ := h.at_ hk
  refine ⟨ad, x, y, h1, h2, h3, by simpa using h4 0 _ rfl, ?_⟩
  have h5 := h4 1 (.int .i64 y) rfl
  rw [← add_of_add] at h5
  exact h5
theorem pair_keep {w w' : World} {ad : Addr} {x y : Value} (hl : ad.block < w.heap.size) (hx : w.cell? ad = some x) (hy : w.cell? ⟨ad.block, ad.off + 1, none⟩ = some y) (hb : Below w.heap.size w w') : w'.cell? ad = some x ∧ w'.cell? ⟨ad.block, ad.off + 1, none⟩ = some y :=
  ⟨(hb.cell hl).trans hx, (hb.cell (p := ⟨ad.block, ad.off + 1, none⟩) hl).trans hy⟩
theorem flat_len (xs : List (Int × Int)) : (xs.flatMap enP).length = xs.length * 2 := by
  induction xs with
  | nil => rfl
  | cons x xs ih => rw [List.flatMap_cons, List.length_append, ih, List.length_cons]; simp [enP]; omega
theorem flat_take {xs : List (Int × Int)} {k : Nat} {x y : Int} (h : xs[k]? = some (x, y)) : (xs.take (k + 1)).flatMap enP = (xs.take k).flatMap enP ++ [.int .i64 x, .int .i64 y] := by
  obtain ⟨hk, he⟩ := List.getElem?_eq_some_iff.1 h
  rw [List.take_succ_eq_append_getElem hk, List.flatMap_append, he]
  rfl
theorem rdp_of_blk {w : World} {g : Nat} {t : TypeId} {cs : Array Value} {n : Nat} {xs : List (Int × Int)} (h : Blk w g t cs) (hs : cs.size = n * 2) (hc : cs.toList = xs.flatMap enP) (hn : n ≤ 1048576) : RdP w w.heap.size (some ⟨g, 0, none⟩) n xs := by
  have hl : xs.length = n := by
    have h1 := flat_len xs
    rw [← hc, Array.length_toList, hs] at h1
    omega
  have ho : w.ownsRow 0 t 2 (.slice (some ⟨g, 0, none⟩) n n) n cs.toList :=
    ⟨by simpa using hs, .inr ⟨g, n, cs, rfl, Nat.zero_le _, h, Nat.le_refl _, by unfold maxLen; omega, hs, List.take_of_length_le (by rw [Array.length_toList, hs]; exact Nat.le_refl _)⟩⟩
  exact RdS.of_own (fun x => rfl) ho hc hl
set_option maxHeartbeats 400000 in
theorem szPayment_big (A : Option Addr) (n c : Nat) (w : World) (h : 1048576 < n) (hn : n ≤ maxLen) : Calls Try.prog 8 #[.slice A n c, .int .i64 1048576] w fun e w' => e = .returned (.int .i64 (-1)) ∧ w = w' := by
  unfold maxLen at hn
  go_enter Try.func8, Try.ntmps8
  go_wp2
  go_ret
  exact ⟨rfl, rfl⟩
set_option maxHeartbeats 400000 in
theorem szPayment_ok (A : Option Addr) (n c : Nat) (w : World) (h : n ≤ 1048576) : Calls Try.prog 8 #[.slice A n c, .int .i64 1048576] w fun e w' => e = .returned (.int .i64 (1048576 - (n : Int))) ∧ w = w' := by
  go_enter Try.func8, Try.ntmps8
  go_wp2
  go_ret
  exact ⟨rfl, rfl⟩
set_option maxHeartbeats 400000 in
theorem toPayment_any (x y : Int) (w : World) : Calls Try.prog 36 #[.agg #[.int .i64 x, .int .i64 y]] w fun e w' => e = .returned (.agg #[.int .i64 x, .int .i64 y]) ∧ Below w.heap.size w w' := by
  go_enter Try.func36, Try.ntmps36
  go_wp2
  go_returns
  exact ⟨rfl, by go_grown⟩
set_option maxHeartbeats 400000 in
theorem eqPayment_same (x y : Int) (w : World) : Calls Try.prog 40 #[.agg #[.int .i64 x, .int .i64 y], .agg #[.int .i64 x, .int .i64 y]] w fun e w' => e = .returned (.bool true) ∧ Below w.heap.size w w' := by
  go_enter Try.func40, Try.ntmps40
  go_wp2
  go_returns
  exact ⟨rfl, by go_grown⟩
set_option maxHeartbeats 1000000 in
theorem toPaymentS_any (A : Option Addr) (n c B : Nat) (xs : List (Int × Int)) (w : World) (h : RdP w B A n xs) (hB : B ≤ w.heap.size) (hn : n ≤ 1048576) : Calls Try.prog 10 #[.slice A n c] w fun e w' => ∃ A' c', e = .returned (.slice A' n c') ∧ RdP w' w'.heap.size A' n xs ∧ Below w.heap.size w w' := by
  have H := Lib.hid h
  have HT := Lib.hid (fun x y W => toPayment_any x y W)
  have HN : (Try.prog.info? 43).map (fun i => (i.zero, i.size, i.bytes)) = some (some (.agg #[.int .i64 0, .int .i64 0]), 2, 16) := by kernel_rfl
  obtain ⟨i0, hi, hz0, hz1, hz2⟩ := info_parts HN
  have hmk := fun W => run_make_rowN (P := Try.prog) 26 43 i0 _ Try.underlying26 hi hz0 .i64 .i64 n n (Nat.le_refl _) (by rw [hz2]; omega) (by omega) W
  rw [hz1] at hmk
  have hms : (madeCells (Value.agg #[.int .i64 0, .int .i64 0]).cells (n * 2)).size = n * 2 := size_madeCells _ _
  generalize madeCells (Value.agg #[.int .i64 0, .int .i64 0]).cells (n * 2) = cs0 at *
  have HS0 := Lib.hid hms
  clear h HN hi hz0 hz1 hz2 hms
  go_enter Try.func10, Try.ntmps10
  go_wp2
  clear hmk
  go_loopw [4] (fun i wr => ∃ k : Nat, k ≤ n ∧ i = .int .i64 k ∧ Below w.heap.size w wr ∧ ∃ cs : Array Value, cs.size = n * 2 ∧ Hid (Blk wr w.heap.size 43 cs) ∧ Hid (cs.toList.take (2 * k) = (xs.take k).flatMap enP)) (fun i _ => n - (intOf i).toNat)
  case atStart => exact ⟨0, Nat.zero_le _, rfl, by go_grown, cs0, HS0.out, Blk.new _ _ _, by unfold Hid; simp⟩
  case round =>
    obtain ⟨k, hk, rfl, hR, cs, hcs, HB, HL⟩ := hrel
    by_cases hlt : k < n
    · obtain ⟨ad, x, y, rfl, hb, hz, hx, hy⟩ := RdP.atP ((H.out.more hB).below hR) hlt
      have HZ := Lib.hid hz
      clear hz
      have HCS := Lib.hid hcs
      have hlw := HB.out.lt
      clear hcs
      go_wp2_with (go_at_call 36; (with_reducible refine (HT.out _ _ _).mono ?_); rintro ee w1 ⟨rfl, hb1⟩; have HB1 := Lib.hid (HB.out.below hb1 hlw); have g3 := HB1.out.frozen (k * 2); have g4 := HB1.out.frozen (k * 2 + 1); obtain ⟨v1, g1⟩ : ∃ v, w1.cell? ⟨w.heap.size, k * 2, none⟩ = some v := ⟨_, (HB1.out.cell _).trans (Array.getElem?_eq_getElem (by have := HCS.out; omega))⟩; obtain ⟨v2, g2⟩ : ∃ v, w1.cell? ⟨w.heap.size, k * 2 + 1, none⟩ = some v := ⟨_, (HB1.out.cell _).trans (Array.getElem?_eq_getElem (by have := HCS.out; omega))⟩; have hR1 := hR.trans (hb1.mono hR.size))
      go_roundw
      case rel =>
        refine ⟨k + 1, by omega, by go_num, by go_grown, _, ?_, (HB1.out.set_ _ _).set_ _ _, ?_⟩
        · have := HCS.out; simpa using this
        · show List.take _ _ = _
          rw [take_set2 _ _ _ _ (by have := HCS.out; omega), HL.out, flat_take HZ.out]
      case measure => simp [intOf]; omega
    · obtain rfl : k = n := by omega
      have hl := H.out.len
      have HE : Hid (cs.toList = xs.flatMap enP) := by
        have h1 := HL.out
        rw [List.take_of_length_le (by rw [Array.length_toList, hcs]; omega), List.take_of_length_le (by omega)] at h1
        exact h1
      have HCS := Lib.hid hcs
      clear hcs hl
      go_wp2
      go_ret
      exact ⟨_, _, rfl, rdp_of_blk HB.out HCS.out HE.out hn, hR⟩
set_option maxHeartbeats 1000000 in
theorem eqPaymentS_same (A A' : Option Addr) (n c c' B B' : Nat) (xs : List (Int × Int)) (w : World) (h : RdP w B A n xs) (h' : RdP w B' A' n xs) (hB : B ≤ w.heap.size) (hB' : B' ≤ w.heap.size) (hn : n ≤ maxLen) : Calls Try.prog 12 #[.slice A n c, .slice A' n c'] w fun e w' => e = .returned (.bool true) ∧ Below w.heap.size w w' := by
  unfold maxLen at hn
  have H := Lib.hid h
  have H' := Lib.hid h'
  have HT := Lib.hid (fun x y W => eqPayment_same x y W)
  clear h h'
  go_enter Try.func12, Try.ntmps12
  go_wp2
  go_loopw [5] (fun i wr => ∃ k : Nat, k ≤ n ∧ i = .int .i64 k ∧ Below w.heap.size w wr) (fun i _ => n - (intOf i).toNat)
  case atStart => exact ⟨0, Nat.zero_le _, rfl, Below.refl _ _⟩
  case round =>
    obtain ⟨k, hk, rfl, hR⟩ := hrel
    by_cases hlt : k < n
    · obtain ⟨ad, x, y, rfl, hb, hz, hx, hy⟩ := RdP.atP ((H.out.more hB).below hR) hlt
      obtain ⟨ad', x', y', rfl, hb', hz', hx', hy'⟩ := RdP.atP ((H'.out.more hB').below hR) hlt
      cases hz.symm.trans hz'
      clear hz hz'
      have hs := hR.size
      have hl1 : (ad.add (k * 2)).block < wr.heap.size := by rw [block_of_add]; omega
      have hl2 : (ad'.add (k * 2)).block < wr.heap.size := by rw [block_of_add]; omega
      have hlt' : (k : Int) < (n : Int) := by omega
      go_wp2_with fail
      have KA := Lib.hid (fun W' => pair_keep (w' := W') hl1 hx hy)
      have KB := Lib.hid (fun W' => pair_keep (w' := W') hl2 hx' hy')
      go_region_held3 (fun W' => Below wr.heap.size wr W' ∧ (W'.cell? (ad.add (k * 2)) = some (.int .i64 x) ∧ W'.cell? ⟨(ad.add (k * 2)).block, (ad.add (k * 2)).off + 1, none⟩ = some (.int .i64 y)) ∧ (W'.cell? (ad'.add (k * 2)) = some (.int .i64 x) ∧ W'.cell? ⟨(ad'.add (k * 2)).block, (ad'.add (k * 2)).off + 1, none⟩ = some (.int .i64 y))) (exact ⟨by go_grown, KA.out _ (by go_grown), KB.out _ (by go_grown)⟩)
        (first | (go_at_call 40; (with_reducible refine (HT.out _ _ _).mono ?_); rintro ee w1 ⟨rfl, hb1⟩; have hB1 := bel_step (w := wr) (by go_grown) hb1))
      go_wp2
      go_roundw
      case rel => exact ⟨k + 1, by omega, by go_num, bel_step hR hB1⟩
      case measure => simp [intOf]; omega
    · go_wp2
      go_ret
      exact ⟨rfl, hR⟩
end Go.Proofs.Ytnklpdckclgilaa
