/-
  Draws of chapter 18 that the law of years uses: two years; a year and two amounts.
-/
import Derived.Test.YtpnohdfdfehoiaaE18
set_option linter.unusedSimpArgs false
set_option linter.unusedVariables false
namespace Go.Proofs.Ytpnohdfdfehoiaa
open Go.RowKit
theorem blk_near {w w1 : World} {g g' : Nat} {t : TypeId} {cs : Array Value} (h : Blk w g t cs) (hg : w.grownBy w1 (some g')) (hne : g < g') : Blk w1 g t cs := Blk.grown h hg (fun e => by injection e with e; omega)
set_option maxHeartbeats 4000000 in
set_option maxRecDepth 100000 in
theorem drawJoin_any (A : Option Addr) (n c : Nat) (w : World) (hC : ∀ W, Below w.heap.size w W → Code' W.heap.size W A n) : Calls Try.prog 5 #[.slice A n c] w fun ee w' => ∃ a b c d e f k a' b' c' d' e' f' k' : Int, ee = .returned (.tuple #[.agg #[.int .i64 a, .int .i64 b, .int .i64 c, .int .i64 d, .int .i64 e, .int .i64 f, .int .i64 k], .agg #[.int .i64 a', .int .i64 b', .int .i64 c', .int .i64 d', .int .i64 e', .int .i64 f', .int .i64 k']]) ∧ Below w.heap.size w w' := by
  have hb0 : Below w.heap.size w ((w.alloc (.cells #[.int .i64 0, .int .i64 0, .int .i64 0, .int .i64 0, .int .i64 0, .int .i64 0, .int .i64 0] 25)).alloc (.cells #[.int .i64 0, .int .i64 0, .int .i64 0, .int .i64 0, .int .i64 0, .int .i64 0, .int .i64 0] 25)) := by go_grown
  have HF := Lib.hid (from_any A n c _ (hC _ hb0))
  have HZ1 : Hid (Blk ((w.alloc (.cells #[.int .i64 0, .int .i64 0, .int .i64 0, .int .i64 0, .int .i64 0, .int .i64 0, .int .i64 0] 25)).alloc (.cells #[.int .i64 0, .int .i64 0, .int .i64 0, .int .i64 0, .int .i64 0, .int .i64 0, .int .i64 0] 25)) w.heap.size 25 #[.int .i64 0, .int .i64 0, .int .i64 0, .int .i64 0, .int .i64 0, .int .i64 0, .int .i64 0]) := (Blk.new _ _ _).alloc _
  have HZ2 : Hid (Blk ((w.alloc (.cells #[.int .i64 0, .int .i64 0, .int .i64 0, .int .i64 0, .int .i64 0, .int .i64 0, .int .i64 0] 25)).alloc (.cells #[.int .i64 0, .int .i64 0, .int .i64 0, .int .i64 0, .int .i64 0, .int .i64 0, .int .i64 0] 25)) (w.heap.size + 1) 25 #[.int .i64 0, .int .i64 0, .int .i64 0, .int .i64 0, .int .i64 0, .int .i64 0, .int .i64 0]) := Lib.hid (by have := Blk.new (w.alloc (.cells #[.int .i64 0, .int .i64 0, .int .i64 0, .int .i64 0, .int .i64 0, .int .i64 0, .int .i64 0] 25)) 25 #[.int .i64 0, .int .i64 0, .int .i64 0, .int .i64 0, .int .i64 0, .int .i64 0, .int .i64 0]; simpa using this)
  clear hC
  go_enter Try.func5, Try.ntmps5
  go_wp2_with (first | (go_at_call 14; (with_reducible refine Calls.mono HF.out ?_); rintro ee w1 ⟨g, rfl, hs, hb⟩; have hBg := hs.1; have hx : w.heap.size + 1 < g := (by simp at hBg; omega); have S := Lib.hid hs; have hB : Below w.heap.size w w1 := bel_step hb0 hb; replace HZ1 := Lib.hid (HZ1.out.below hb (by simp only [World.size_alloc]; omega)); replace HZ2 := Lib.hid (HZ2.out.below hb (by simp only [World.size_alloc]; omega)); clear hs hb hBg) | (go_at_call 15; (with_reducible refine Calls.mono (l18Draw_any _ g _ S.out) ?_); rintro ee wz ⟨a, b, c, d, e, f, k, rfl, hs, hg⟩; replace S := Lib.hid hs; replace hB := belowG hB hg (by omega) hB.size; replace HZ1 := Lib.hid (blk_near HZ1.out hg (by omega)); replace HZ2 := Lib.hid (blk_near HZ2.out hg hx); (try obtain ⟨z0, z1, z2, z3, z4, z5, z6, y0, y1, y2, y3, y4, y5, y6⟩ := y7_cells HZ1.out); (try obtain ⟨x0, x1, x2, x3, x4, x5, x6, v0, v1, v2, v3, v4, v5, v6⟩ := y7_cells HZ2.out); clear hs hg))
  (try simp only [Exit.inBlock, Exit.then])
  refine bodyPost_ret (by simp [results, Try.results5, go_sem, z0, z1, z2, z3, z4, z5, z6, x0, x1, x2, x3, x4, x5, x6]; exact ⟨⟨rfl, rfl, rfl, rfl, rfl, rfl, rfl⟩, ⟨rfl, rfl, rfl, rfl, rfl, rfl, rfl⟩⟩) rfl ⟨_, _, _, _, _, _, _, _, _, _, _, _, _, _, rfl, ?_⟩
  repeat (first | with_reducible exact hB | with_reducible refine Below.setCell ?_ (by first | exact Nat.le_refl _ | exact Nat.le_succ _) _)
set_option maxHeartbeats 4000000 in
set_option maxRecDepth 100000 in
theorem drawFoll_any (A : Option Addr) (n c : Nat) (w : World) (hC : ∀ W, Below w.heap.size w W → Code' W.heap.size W A n) : Calls Try.prog 8 #[.slice A n c] w fun ee w' => ∃ a b c d e f k x y : Int, ee = .returned (.tuple #[.agg #[.int .i64 a, .int .i64 b, .int .i64 c, .int .i64 d, .int .i64 e, .int .i64 f, .int .i64 k], .int .i64 x, .int .i64 y]) ∧ Below w.heap.size w w' := by
  have hb0 : Below w.heap.size w (w.alloc (.cells #[.int .i64 0, .int .i64 0, .int .i64 0, .int .i64 0, .int .i64 0, .int .i64 0, .int .i64 0] 25)) := by go_grown
  have HF := Lib.hid (from_any A n c _ (hC _ hb0))
  have HZ1 : Hid (Blk (w.alloc (.cells #[.int .i64 0, .int .i64 0, .int .i64 0, .int .i64 0, .int .i64 0, .int .i64 0, .int .i64 0] 25)) w.heap.size 25 #[.int .i64 0, .int .i64 0, .int .i64 0, .int .i64 0, .int .i64 0, .int .i64 0, .int .i64 0]) := Blk.new _ _ _
  clear hC
  go_enter Try.func8, Try.ntmps8
  have tok1 : True := trivial
  go_wp2_with (first | (go_at_call 14; (with_reducible refine Calls.mono HF.out ?_); rintro ee w1 ⟨g, rfl, hs, hb⟩; have hBg := hs.1; have hx : w.heap.size < g := (by simp at hBg; omega); have S := Lib.hid hs; have hB : Below w.heap.size w w1 := bel_step hb0 hb; replace HZ1 := Lib.hid (HZ1.out.below hb (by simp)); clear hs hb hBg) | (go_at_call 18; (with_reducible refine Calls.mono (next_any _ g _ _ S.out) ?_); rintro ee wz ⟨r, rfl, hr, hs, hg⟩; replace S := Lib.hid hs; replace hB := belowG hB hg (by omega) hB.size; replace HZ1 := Lib.hid (blk_near HZ1.out hg hx); (try obtain ⟨z0, z1, z2, z3, z4, z5, z6, y0, y1, y2, y3, y4, y5, y6⟩ := y7_cells HZ1.out); clear hs hg) | (go_at_call 15; (with_reducible refine Calls.mono (l18Draw_any _ g _ S.out) ?_); rintro ee wz ⟨a, b, c, d, e, f, k, rfl, hs, hg⟩; replace S := Lib.hid hs; replace hB := belowG hB hg (by omega) hB.size; replace HZ1 := Lib.hid (blk_near HZ1.out hg hx); have hgz := S.out.lt; clear hs hg) | (go_at_call 19; (with_reducible refine Calls.mono (pick_any _ g _ _ _ [-1, 0, 1000000000000, 1000000000001] _ (S.out.alloc _) (rd_litD _ _ _ _ rfl _ rfl) (by rintro ad ⟨rfl⟩; simp only; omega) (by omega)) ?_); rintro ee wz ⟨r10, rfl, _, hs, hg⟩; replace S := Lib.hid hs; replace hB := belowG (hB.alloc hB.size _) hg (by omega) (by simp; have := hB.size; omega); replace HZ1 := Lib.hid (blk_near (HZ1.out.alloc _) hg hx); clear hs hg))
  all_goals (try simp only [Exit.inBlock, Exit.then])
  all_goals
    refine bodyPost_ret (by simp [results, Try.results8, go_sem, z0, z1, z2, z3, z4, z5, z6]; exact ⟨⟨rfl, rfl, rfl, rfl, rfl, rfl, rfl⟩, rfl, rfl⟩) rfl ⟨_, _, _, _, _, _, _, _, _, rfl, ?_⟩
    repeat (first | with_reducible exact hB | with_reducible refine Below.setCell ?_ (by first | exact Nat.le_refl _ | exact Nat.le_succ _) _)
end Go.Proofs.Ytpnohdfdfehoiaa
