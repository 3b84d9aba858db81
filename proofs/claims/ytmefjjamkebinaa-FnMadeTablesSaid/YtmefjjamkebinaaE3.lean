/-
  Draws of chapter 3: rates, and what MakeTable is drawn with.
-/
import Derived.Test.YtmefjjamkebinaaA3
import Derived.Test.YtmefjjamkebinaaOL
import Derived.Test.Ytmefjjamkebinaa03
import Derived.Laws.OwnMore
set_option linter.unusedSimpArgs false
set_option linter.unusedVariables false
namespace Go.Proofs.Ytmefjjamkebinaa
open Go.RowKit
theorem grownBy_new {a w w' : World} {g : Nat} {row : Option Nat} (h : a.grownBy w (some g)) (k : w.grownBy w' row) (hr : ∀ b, row = some b → a.heap.size ≤ b) : a.grownBy w' (some g) :=
  ⟨k.os.trans h.os, k.tape.trans h.tape, k.output.trans h.output, Nat.le_trans h.size k.size, fun i hi hne => (k.block i (Nat.lt_of_lt_of_le hi h.size) (fun e => by have := hr i e.symm; omega)).trans (h.block i hi hne)⟩
theorem Src.kept {B : Nat} {w w' : World} {g : Nat} {row : Option Nat} (h : Src B w g) (hg : w.grownBy w' row) (hb : ∀ b, row = some b → g < b) : Src B w' g := by
  have hlt := h.lt
  refine h.below (B' := g + 1) ⟨hg.os, hg.tape, hg.output, hg.size, fun i hi => hg.block i (by omega) (fun e => by have := hb i e.symm; omega)⟩ (by omega)
set_option maxHeartbeats 4000000 in
theorem l03DrawRates_any (B g : Nat) (w : World) (h : Src B w g) : Calls Try.prog 34 #[.pointer (some ⟨g, 0, none⟩)] w (fun e w' => ∃ (A : Option Addr) (n c : Nat) (xs : List Int), e = .returned (.slice A n c) ∧ OwI w' w.heap.size (.slice A n c) xs ∧ xs.length ≤ 25 ∧ Src B w' g ∧ w.grownBy w' (some g)) := by
  have hlt := h.lt
  have S := Lib.hid (h.alloc (.cells #[] 2))
  have G : Hid (w.grownBy (w.alloc (.cells #[] 2)) (some g)) := grownBy_alloc (World.grownBy.refl _ _) _
  have O := Lib.hid (ownEmpty w w.heap.size (Nat.le_refl _))
  clear h
  go_enter Try.func34, Try.ntmps34
  go_wp2_with (go_at_call 35; (with_reducible refine Calls.mono (next_any B g _ _ S.out) ?_); rintro ee wz ⟨r, rfl, hr, hs, hg⟩; replace S := Lib.hid hs; (try replace O := Lib.hid (O.out.far hg hlt)); replace G := Lib.hid (grownBy_tr G.out hg); have ht := G.out.size; (try have hr1 := hr.2 (by omega)); clear hs hg)

  go_loopw [3, 4, 5] (fun v rr nn wr => ∃ (N M : Int) (xs : List Int), nn = .int .i64 N ∧ 0 ≤ N ∧ N ≤ 25 ∧ rr = .int .i64 M ∧ (∃ A m c, v = .slice A m c) ∧ Hid (OwI wr w.heap.size v xs) ∧ (xs.length : Int) ≤ 25 - N ∧ Hid (Src B wr g) ∧ Hid (w.grownBy wr (some g))) (fun _ _ nn _ => (intOf nn).toNat)
  case atStart => exact ⟨_, _, [], rfl, by omega, by omega, rfl, ⟨_, _, _, rfl⟩, O.out, by simp; omega, S.out, G.out⟩
  case round =>
    clear O S G hr hr1 ht
    obtain ⟨N, M, xs, rfl, hN0, hN1, rfl, ⟨A, m, c, rfl⟩, O, hxl, S, G⟩ := hrel
    have ht := G.out.size
    by_cases hN : 0 < N
    · go_wp2_with (first | (go_at_call 35; (with_reducible refine Calls.mono (next_any B g _ _ S.out) ?_); rintro ee wz ⟨r, rfl, hr, hs, hg⟩; replace S := Lib.hid hs; (try replace O := Lib.hid (O.out.far hg hlt)); replace G := Lib.hid (grownBy_tr G.out hg); have ht := G.out.size; (try have hr1 := hr.2 (by omega)); clear hs hg) | (at_builtin; refine wpl_app_intL rfl _ _ rfl w.heap.size xs _ (by rfl) (O.out.alloc _) _ _ 1 (by rfl) ((Blk.new _ _ _).cell 0) (by omega) (by simp; omega) ?_; intro A3 m3 c3 w3 ho3 hg3 _; have rw3 := own_rowI O.out; replace O := Lib.hid ho3; replace S := Lib.hid (Src.kept (S.out.alloc _) hg3 (fun b e => Nat.lt_of_lt_of_le hlt (rw3 b e).1)); replace G := Lib.hid (grownBy_new (grownBy_alloc G.out _) hg3 (fun b e => (rw3 b e).1)); have ht := G.out.size; clear ho3 hg3 rw3))
      all_goals go_roundw
      all_goals first
        | (exact ⟨N - 1, _, _, by first | rfl | go_num, by omega, by omega, rfl, ⟨_, _, _, rfl⟩, O.out, by simp; omega, S.out, G.out⟩)
        | (simp [intOf]; omega)
    · go_wp2
      go_returns
      exact ⟨_, _, _, rfl, xs, O.out, by omega, S.out, G.out⟩
theorem own_made (W : World) (q base : Nat) (hb : base ≤ W.heap.size) (hq : q ≤ 119) : OwI (W.alloc (.cells (madeCells #[Value.int .i64 0] q) 2)) base (.slice (some ⟨W.heap.size, 0, none⟩) q q) (List.replicate q 0) :=
  (owi_of_blk (Blk.new W _ _) (size_madeCells _ _) (by rw [toList_madeCells_one, ← map_flat, List.map_replicate]) (by omega) hb).2
/-- a list of 118 or 119 noughts -/
theorem mk118 {r : Int} (hr : 0 ≤ r ∧ r < 2) : ∀ W : World, ∃ q : Nat, q ≤ 119 ∧ (Instr.makeSlice 22 (.int .i64 (118 + r)) (.int .i64 (118 + r))).run Try.prog W = .ok (.slice (some ⟨W.heap.size, 0, none⟩) q q) (W.alloc (.cells (madeCells (Value.int .i64 0).cells q) 2)) := by
  have HN : (Try.prog.info? 2).map (fun i => (i.zero, i.size, i.bytes)) = some (some (.int .i64 0), 1, 8) := by kernel_rfl
  obtain ⟨i0, hi, hz0, hz1, hz2⟩ := info_parts HN
  intro W
  obtain ⟨q, rfl⟩ : ∃ q : Nat, r = (q : Int) := ⟨r.toNat, by omega⟩
  have h := run_make_rowN (P := Try.prog) 22 2 i0 _ Try.underlying22 hi hz0 .i64 .i64 (118 + q) (118 + q) (Nat.le_refl _) (by rw [hz2]; omega) (by omega) W
  rw [hz1, Nat.mul_one, show ((118 + q : Nat) : Int) = 118 + (q : Int) by omega] at h
  exact ⟨118 + q, by omega, h⟩
set_option maxHeartbeats 4000000 in
theorem drawMakeTable_any (A0 : Option Addr) (n0 c0 : Nat) (w : World) (hC : ∀ W, Below w.heap.size w W → Code' W.heap.size W A0 n0) : Calls Try.prog 14 #[.slice A0 n0 c0] w (fun e w' => ∃ (f l : Int) (A : Option Addr) (n c : Nat) (xs : List Int), e = .returned (.tuple #[.int .i64 f, .int .i64 l, .slice A n c]) ∧ OwI w' w.heap.size (.slice A n c) xs ∧ xs.length ≤ 120 ∧ Below w.heap.size w w') := by
  have HF := Lib.hid (fun W hb => from_any A0 n0 c0 W (hC W hb))
  clear hC
  go_enter Try.func14, Try.ntmps14
  go_wp2_with (first | (go_at_call 33; (with_reducible refine Calls.mono (HF.out _ (Below.refl _ _)) ?_); rintro ee w1 ⟨g, rfl, hs, hb⟩; have hBg := hs.1; have hlt := hs.lt; have S := Lib.hid hs; have hB := hb; have hw1 := hb.size; have hv : w1.heap.size ≤ w1.heap.size := Nat.le_refl _; clear hs hb) | (go_at_call 34; (with_reducible refine Calls.mono (l03DrawRates_any _ g _ S.out) ?_); rintro ee w2 ⟨A, n, c, xs, rfl, ho, hx, hs, hg⟩; replace S := Lib.hid hs; have O := Lib.hid ho; replace hB := belowG hB hg hBg hB.size; replace hv := Nat.le_trans hv hg.size; clear hs ho hg) | (go_at_call 35; (with_reducible refine Calls.mono (next_any _ g 2 _ S.out) ?_); rintro ee wz ⟨r, rfl, hr, hs, hg⟩; replace S := Lib.hid hs; replace O := Lib.hid (O.out.far hg hlt); replace hB := belowG hB hg hBg hB.size; replace hv := Nat.le_trans hv hg.size; have hr1 := hr.2 (by omega); obtain ⟨qn, hqn, hmk⟩ := mk118 hr1 wz; clear hs hg) | (go_at_call 35; (with_reducible refine Calls.mono (next_any _ g _ _ S.out) ?_); rintro ee wz ⟨r, rfl, hr, hs, hg⟩; replace S := Lib.hid hs; replace O := Lib.hid (O.out.far hg hlt); replace hB := belowG hB hg hBg hB.size; replace hv := Nat.le_trans hv hg.size; (try have hr1 := hr.2 (by omega)); clear hs hg))
  focus ((with_reducible refine Calls.mono (pick_any _ g _ _ _ [-1, 1000, 1001] _ (S.out.alloc _) (rd_litD _ #[.int .i64 (-1), .int .i64 1000, .int .i64 1001] _ _ rfl _ rfl) (by rintro ad ⟨rfl⟩; have := S.out.lt; simp only; omega) (by omega)) ?_); rintro ee wz ⟨r, rfl, hm, hs, hg⟩; replace S := Lib.hid hs; replace O := Lib.hid ((O.out.alloc _).far hg hlt); replace hB := belowG (hB.alloc hB.size _) hg hBg (by have := hB.size; simp; omega); replace hv := Nat.le_trans hv (Nat.le_trans (by simp) hg.size); clear hs hg hm; go_wp2_with (at_builtin; refine wpl_app_intL rfl _ _ rfl w1.heap.size xs _ (by rfl) (O.out.alloc _) _ _ 1 (by rfl) ((Blk.new _ _ _).cell 0) (by omega) (by simp; omega) ?_; intro A3 m3 c3 w3 ho3 hg3 _; have rw3 := own_rowI O.out; replace O := Lib.hid ho3; replace S := Lib.hid (Src.kept (S.out.alloc _) hg3 (fun b e => Nat.lt_of_lt_of_le hlt (rw3 b e).1)); replace hv := Nat.le_trans hv (Nat.le_trans (by simp) hg3.size); replace hB := (hB.alloc hB.size _).grown hg3 (by have := hB.size; simp; omega) (fun b e => (by have := (rw3 b e).1; have := hw1; omega)); clear ho3 hg3 rw3))
  rotate_left 1
  focus (replace O := Lib.hid (own_made wz qn w1.heap.size hv hqn); replace S := Lib.hid (S.out.alloc (.cells (madeCells #[Value.int .i64 0] qn) 2)); replace hB := hB.alloc hB.size (.cells (madeCells #[Value.int .i64 0] qn) 2); replace hv := Nat.le_trans hv (show wz.heap.size ≤ (wz.alloc (.cells (madeCells #[Value.int .i64 0] qn) 2)).heap.size by simp); have tkm : True := trivial; clear hmk)
  all_goals
    go_wp2_with (first | (go_at_call 35; (with_reducible refine Calls.mono (next_any _ g _ _ S.out) ?_); rintro ee wz ⟨r, rfl, hr, hs, hg⟩; replace S := Lib.hid hs; replace O := Lib.hid (O.out.far hg hlt); replace hB := belowG hB hg hBg hB.size; replace hv := Nat.le_trans hv hg.size; (try have hr1 := hr.2 (by omega)); clear hs hg) | (go_at_call 36; (with_reducible refine Calls.mono (pick_any _ g _ _ _ [0, 20, 100, _] _ (S.out.alloc _) (rd_litD _ _ _ _ rfl _ rfl) (by rintro ad ⟨rfl⟩; have := S.out.lt; simp only; omega) (by omega)) ?_); rintro ee wz ⟨r, rfl, hm, hs, hg⟩; replace S := Lib.hid hs; replace O := Lib.hid ((O.out.alloc _).far hg hlt); replace hB := belowG (hB.alloc hB.size _) hg hBg (by have := hB.size; simp; omega); replace hv := Nat.le_trans hv (Nat.le_trans (by simp) hg.size); clear hs hg hm) | (go_at_call 36; (with_reducible refine Calls.mono (pick_any _ g _ _ _ [1, 1000, 100000, _] _ (S.out.alloc _) (rd_litD _ _ _ _ rfl _ rfl) (by rintro ad ⟨rfl⟩; have := S.out.lt; simp only; omega) (by omega)) ?_); rintro ee wz ⟨r, rfl, hm, hs, hg⟩; replace S := Lib.hid hs; replace O := Lib.hid ((O.out.alloc _).far hg hlt); replace hB := belowG (hB.alloc hB.size _) hg hBg (by have := hB.size; simp; omega); replace hv := Nat.le_trans hv (Nat.le_trans (by simp) hg.size); clear hs hg hm))
    go_returns
    first
      | (have hq := tkm; exact ⟨_, _, _, _, _, _, rfl, O.out.mono hw1, by rw [List.length_replicate]; omega, hB⟩)
      | exact ⟨_, _, _, _, _, _, rfl, O.out.mono hw1, by first | omega | (simp; omega), hB⟩
end Go.Proofs.Ytmefjjamkebinaa
