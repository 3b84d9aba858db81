/-
  Contracts of the small functions over families: the size, the copy, the comparison of equal ones, the marks.
-/
import Derived.Test.YtmgaooinkdmpbaaQ
import Derived.Test.YtmgaooinkdmpbaaI3
set_option linter.unusedSimpArgs false
set_option linter.unusedVariables false
namespace Go.Proofs.Ytmgaooinkdmpbaa
open Go.RowKit
theorem some_le {a B : Nat} (h : B ≤ a) : ∀ g, some a = some g → B ≤ g := fun g e => by cases e; exact h
theorem OwI.far {w w' : World} {base g : Nat} {v : Value} {zs : List Int} (h : OwI w base v zs) (hg : w.grownBy w' (some g)) (hb : g < base) : OwI w' base v zs := by
  refine World.ownsRow.kept h hg ?_
  rcases h.form with ⟨h1, _⟩ | ⟨g', cap, h1, h2, _⟩
  · exact .inl (by rw [h1]; rfl)
  · refine .inr ?_
    rw [h1]
    intro e
    simp only [Value.ownBlock, Option.some.injEq] at e
    omega
theorem OwI.store {w : World} {base : Nat} {v : Value} {zs : List Int} (h : OwI w base v zs) {p : Addr} (hp : p.block < base) (u : Value) : OwI (w.setCell p u) base v zs := h.far (grownBy_set (World.grownBy.refl _ _) (.inl rfl) u) hp
theorem OwI.alloc {w : World} {base : Nat} {v : Value} {zs : List Int} (h : OwI w base v zs) (o : Obj) : OwI (w.alloc o) base v zs := h.later ((Below.refl _ _).alloc (Nat.le_refl _) o)
theorem owi_of_blk {w : World} {g base : Nat} {cs : Array Value} {n : Nat} {xs : List Int} (h : Blk w g 2 cs) (hs : cs.size = n) (hc : cs.toList = xs.flatMap enI) (hn : n ≤ 1048576) (hb : base ≤ g) : xs.length = n ∧ OwI w base (.slice (some ⟨g, 0, none⟩) n n) xs := by
  rw [← map_flat] at hc
  have hl : xs.length = n := by
    have := congrArg List.length hc
    simpa [hs] using this.symm
  refine ⟨hl, ?_⟩
  unfold OwI
  rw [hl, ← hc]
  exact ⟨by simpa using hs, .inr ⟨g, n, cs, rfl, hb, h, Nat.le_refl _, by unfold maxLen; omega, by omega, List.take_of_length_le (by rw [Array.length_toList, hs]; omega)⟩⟩
set_option maxHeartbeats 1000000 in
theorem toInts_own (A : Option Addr) (n c B : Nat) (xs : List Int) (w : World) (h : RdI w B A n xs) (hB : B ≤ w.heap.size) (hn : n ≤ 1048576) : Calls Try.prog 41 #[.slice A n c] w fun e w' => ∃ A' c', e = .returned (.slice A' n c') ∧ n ≤ c' ∧ c' ≤ maxLen ∧ OwI w' w.heap.size (.slice A' n c') xs ∧ Below w.heap.size w w' := by
  have H := Lib.hid h
  have HN : (Try.prog.info? 2).map (fun i => (i.zero, i.size, i.bytes)) = some (some (.int .i64 0), 1, 8) := by kernel_rfl
  obtain ⟨i0, hi, hz0, hz1, hz2⟩ := info_parts HN
  have hmk := fun W => run_make_rowN (P := Try.prog) 22 2 i0 _ Try.underlying22 hi hz0 .i64 .i64 n n (Nat.le_refl _) (by rw [hz2]; omega) (by omega) W
  rw [hz1] at hmk
  have hms : (madeCells (Value.int .i64 0).cells (n * 1)).size = n * 1 := size_madeCells _ _
  generalize madeCells (Value.int .i64 0).cells (n * 1) = cs0 at *
  rw [Nat.mul_one] at hms
  have HS0 := Lib.hid hms
  clear h HN hi hz0 hz1 hz2 hms
  go_enter Try.func41, Try.ntmps41
  go_wp2
  clear hmk
  go_loopw [4] (fun i wr => ∃ k : Nat, k ≤ n ∧ i = .int .i64 k ∧ Below w.heap.size w wr ∧ ∃ cs : Array Value, cs.size = n ∧ Hid (Blk wr w.heap.size 2 cs) ∧ Hid (cs.toList.take k = (xs.take k).flatMap enI)) (fun i _ => n - (intOf i).toNat)
  case atStart => exact ⟨0, Nat.zero_le _, rfl, by go_grown, cs0, HS0.out, Blk.new _ _ _, by unfold Hid; simp⟩
  case round =>
    obtain ⟨k, hk, rfl, hR, cs, hcs, HB, HL⟩ := hrel
    by_cases hlt : k < n
    · obtain ⟨ad, x, rfl, hb, hz, hx⟩ := RdI.atI ((H.out.more hB).below hR) hlt
      have HZ := Lib.hid hz
      have HCS := Lib.hid hcs
      have hlw := HB.out.lt
      have g3 := HB.out.frozen k
      obtain ⟨v1, g1⟩ : ∃ v, wr.cell? ⟨w.heap.size, k, none⟩ = some v := ⟨_, (HB.out.cell _).trans (Array.getElem?_eq_getElem (by omega))⟩
      clear hcs hz
      go_wp2
      go_roundw
      case rel =>
        refine ⟨k + 1, by omega, by go_num, by go_grown, _, ?_, HB.out.set_ _ _, ?_⟩
        · have := HCS.out; simpa using this
        · show List.take _ _ = _
          rw [take_set1 _ _ _ (by have := HCS.out; omega), HL.out, map_take1 HZ.out]
      case measure => simp [intOf]; omega
    · obtain rfl : k = n := by omega
      have hl := H.out.len
      have HE : Hid (cs.toList = xs.flatMap enI) := by
        have h1 := HL.out
        rw [List.take_of_length_le (by rw [Array.length_toList, hcs]; omega), List.take_of_length_le (by omega)] at h1
        exact h1
      have HCS := Lib.hid hcs
      clear hcs hl
      go_wp2
      go_ret
      exact ⟨_, _, rfl, Nat.le_refl _, by unfold maxLen; omega, (owi_of_blk HB.out HCS.out HE.out hn (Nat.le_refl _)).2, hR⟩
set_option maxHeartbeats 400000 in
theorem szF_big (d m wd lf : Int) (A : Option Addr) (n c : Nat) (w : World) (h : 1048576 < n) (hn : n ≤ maxLen) : Calls Try.prog 6 #[.agg #[.int .i64 d, .int .i64 m, .int .i64 wd, .int .i64 lf, .slice A n c], .int .i64 1048576] w fun e w' => e = .returned (.int .i64 (-1)) ∧ Below w.heap.size w w' := by
  have H := Lib.hid (fun W => szI_big A n c W h hn)
  clear h hn
  go_enter Try.func6, Try.ntmps6
  go_wp2_with (go_at_call 36; (with_reducible refine (H.out _).mono ?_); rintro ee w1 ⟨rfl, rfl⟩)
  go_returns
  exact ⟨rfl, by go_grown⟩
set_option maxHeartbeats 400000 in
theorem szF_ok (d m wd lf : Int) (A : Option Addr) (n c : Nat) (l : Int) (w : World) (h : (n : Int) ≤ l) (hl : l ≤ 1048576) : Calls Try.prog 6 #[.agg #[.int .i64 d, .int .i64 m, .int .i64 wd, .int .i64 lf, .slice A n c], .int .i64 l] w fun e w' => e = .returned (.int .i64 (l - (n : Int))) ∧ Below w.heap.size w w' := by
  have H := Lib.hid (fun W => szI_ok A n c l W h hl)
  go_enter Try.func6, Try.ntmps6
  go_wp2_with (go_at_call 36; (with_reducible refine (H.out _).mono ?_); rintro ee w1 ⟨rfl, rfl⟩)
  go_returns
  exact ⟨rfl, by go_grown⟩
set_option maxHeartbeats 1000000 in
theorem toF_any (d m wd lf : Int) (A : Option Addr) (n c B : Nat) (xs : List Int) (w : World) (h : RdI w B A n xs) (hB : B ≤ w.heap.size) (hn : n ≤ 1048576) : Calls Try.prog 8 #[.agg #[.int .i64 d, .int .i64 m, .int .i64 wd, .int .i64 lf, .slice A n c]] w fun e w' => ∃ A' c', e = .returned (.agg #[.int .i64 d, .int .i64 m, .int .i64 wd, .int .i64 lf, .slice A' n c']) ∧ n ≤ c' ∧ c' ≤ maxLen ∧ OwI w' w.heap.size (.slice A' n c') xs ∧ Below w.heap.size w w' := by
  have HT := Lib.hid (fun W (hb : Below w.heap.size w W) => toInts_own A n c B xs W (h.below (hb.mono hB)) (Nat.le_trans hB hb.size) hn)
  clear h
  go_enter Try.func8, Try.ntmps8
  go_wp2_with fail
  refine (HT.out _ (by go_grown)).mono ?_
  rintro ee w1 ⟨A1, c1, rfl, hn1, hm1, hR1, hb1⟩
  have R1 := Lib.hid hR1; clear hR1
  have hB1 := bel_step (w := w) (by go_grown) hb1
  have hz1 := hb1.size; (try simp at hz1)
  obtain ⟨hc1, hf1⟩ := bcell hb1
  have k0 : w1.cell? ⟨w.heap.size + 1, 0, none⟩ = some (.int .i64 0) := by rw [hc1 _ _ (by simp)]; simp [go_sem]
  have k1 : w1.cell? ⟨w.heap.size + 1, 1, none⟩ = some (.int .i64 0) := by rw [hc1 _ _ (by simp)]; simp [go_sem]
  have k2 : w1.cell? ⟨w.heap.size + 1, 2, none⟩ = some (.int .i64 0) := by rw [hc1 _ _ (by simp)]; simp [go_sem]
  have k3 : w1.cell? ⟨w.heap.size + 1, 3, none⟩ = some (.int .i64 0) := by rw [hc1 _ _ (by simp)]; simp [go_sem]
  have k4 : w1.cell? ⟨w.heap.size + 1, 4, none⟩ = some (.slice none 0 0) := by rw [hc1 _ _ (by simp)]; simp [go_sem]
  have j0 : w1.cell? ⟨w.heap.size + 1 + 1, 0, none⟩ = some (.int .i64 d) := by rw [hc1 _ _ (by simp)]; simp [go_sem]
  have j1 : w1.cell? ⟨w.heap.size + 1 + 1, 1, none⟩ = some (.int .i64 m) := by rw [hc1 _ _ (by simp)]; simp [go_sem]
  have j2 : w1.cell? ⟨w.heap.size + 1 + 1, 2, none⟩ = some (.int .i64 wd) := by rw [hc1 _ _ (by simp)]; simp [go_sem]
  have j3 : w1.cell? ⟨w.heap.size + 1 + 1, 3, none⟩ = some (.int .i64 lf) := by rw [hc1 _ _ (by simp)]; simp [go_sem]
  have j4 : w1.cell? ⟨w.heap.size + 1 + 1, 4, none⟩ = some (.slice none 0 0) := by rw [hc1 _ _ (by simp)]; simp [go_sem]
  have f0 : ∀ o, w1.frozen? ⟨w.heap.size + 1, o, none⟩ = false := fun o => by rw [hf1 _ _ (by simp)]; simp [go_sem]
  have f1 : ∀ o, w1.frozen? ⟨w.heap.size + 1 + 1, o, none⟩ = false := fun o => by rw [hf1 _ _ (by simp)]; simp [go_sem]
  have hy1 : w.heap.size < w1.heap.size := by omega
  have hx1 : w.heap.size + 1 < w1.heap.size := by omega
  have hv1 : w.heap.size + 1 + 1 < w1.heap.size := by omega
  clear hc1 hf1
  go_wp2
  (try simp only [Exit.inBlock, Exit.then])
  refine bodyPost_ret (v := .agg #[.int .i64 d, .int .i64 m, .int .i64 wd, .int .i64 lf, .slice A1 n c1]) (by simp [results, Try.results8, go_sem, *]) rfl ⟨A1, c1, rfl, hn1, hm1, ?_, by go_grown⟩
  refine OwI.mono (base := w.heap.size + 1 + 1 + 1) ?_ (by omega)
  repeat (refine OwI.store ?_ (by simp) _)
  exact R1.out.mono (by simp)
set_option maxHeartbeats 1000000 in
theorem eqF_same (d m wd lf : Int) (A A' : Option Addr) (n c c' B B' : Nat) (xs : List Int) (w : World) (h : RdI w B A n xs) (h' : RdI w B' A' n xs) (hB : B ≤ w.heap.size) (hB' : B' ≤ w.heap.size) (hn : n ≤ maxLen) : Calls Try.prog 10 #[.agg #[.int .i64 d, .int .i64 m, .int .i64 wd, .int .i64 lf, .slice A n c], .agg #[.int .i64 d, .int .i64 m, .int .i64 wd, .int .i64 lf, .slice A' n c']] w fun e w' => e = .returned (.bool true) ∧ Below w.heap.size w w' := by
  have HT := Lib.hid (fun W (hb : Below w.heap.size w W) => eqInts_same A A' n c c' B B' xs W (h.below (hb.mono hB)) (h'.below (hb.mono hB')) hn)
  clear h h' hn
  go_enter Try.func10, Try.ntmps10
  go_wp2_with (go_at_call 45; (with_reducible refine Calls.mono (HT.out _ (by go_grown)) ?_); rintro ee w1 ⟨rfl, hb1⟩; have hB1 := bel_step (w := w) (by go_grown) hb1)
  go_returns
  exact ⟨rfl, by go_grown⟩
end Go.Proofs.Ytmgaooinkdmpbaa
