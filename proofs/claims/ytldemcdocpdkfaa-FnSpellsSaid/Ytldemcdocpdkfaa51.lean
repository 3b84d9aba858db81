/-
  Draws of chapter 15 that the law of spells uses: spells, and spells with one to add.
-/
import Derived.Test.YtldemcdocpdkfaaQ5
import Derived.Test.YtldemcdocpdkfaaM5
set_option linter.unusedSimpArgs false
set_option linter.unusedVariables false
namespace Go.Proofs.Ytldemcdocpdkfaa
open Go.RowKit
theorem boxFar {w w1 : World} {g b : Nat} {o : Obj} (h : w.heap[b]? = some o) (hg : w.grownBy w1 (some g)) (hne : b < g) : w1.heap[b]? = some o := (hg.block b (Array.getElem?_eq_some_iff.1 h).1 (fun e => by cases e; omega)).trans h
theorem boxBelow {w w1 : World} {b B : Nat} {o : Obj} (h : w.heap[b]? = some o) (hb : Below B w w1) (hlt : b < B) : w1.heap[b]? = some o := (hb.block b hlt).trans h
theorem boxNew (w : World) (o : Obj) : (w.alloc o).heap[w.heap.size]? = some o := heap_alloc_new w o
theorem boxLt {w : World} {b : Nat} {o : Obj} (h : w.heap[b]? = some o) : b < w.heap.size := (Array.getElem?_eq_some_iff.1 h).1
theorem boxAlloc {w : World} {b : Nat} {o : Obj} (h : w.heap[b]? = some o) (o2 : Obj) : (w.alloc o2).heap[b]? = some o := (Below.heap_alloc w o2 b (boxLt h)).trans h
theorem box2 {w : World} {g : Nat} {t : TypeId} {x y : Value} (h : w.heap[g]? = some (.cells #[x, y] t (0, 0))) : w.cell? ⟨g, 0, none⟩ = some x ∧ w.cell? ⟨g, 1, none⟩ = some y ∧ w.frozen? ⟨g, 0, none⟩ = false ∧ w.frozen? ⟨g, 1, none⟩ = false :=
  ⟨Blk.cell (cs := #[x, y]) h 0, Blk.cell (cs := #[x, y]) h 1, Blk.frozen (cs := #[x, y]) h 0, Blk.frozen (cs := #[x, y]) h 1⟩
theorem box2_grown {w : World} {g : Nat} {x y : Value} : w.grownBy ((w.setCell ⟨g, 0, none⟩ x).setCell ⟨g, 1, none⟩ y) (some g) := grownBy_store (grownBy_store (World.grownBy.refl _ _) _ _) _ _
set_option maxHeartbeats 2000000 in
theorem drawAdd_any (A : Option Addr) (n c : Nat) (w : World) (hC : ∀ W, Below w.heap.size w W → Code' W.heap.size W A n) : Calls Try.prog 43 #[.slice A n c] w fun e w' => ∃ A' m' c' xs a b, e = .returned (.tuple #[.slice A' m' c', .agg #[.int .i64 a, .int .i64 b]]) ∧ RdP w' w'.heap.size A' m' xs ∧ m' ≤ 100 ∧ Below w.heap.size w w' := by
  have HF := Lib.hid (from_any A n c (w.alloc (.cells #[.int .i64 0, .int .i64 0] 57)) (hC _ (by go_grown)))
  have hk0 := Lib.hid (boxNew w (.cells #[.int .i64 0, .int .i64 0] 57 (0, 0)))
  clear hC
  go_enter Try.func43, Try.ntmps43
  have tok3 : True := trivial
  have tok6 : True := trivial
  go_wp2_with (first | (go_at_call 61; (with_reducible refine Calls.mono HF.out ?_); rintro ee w1 ⟨g, rfl, hs1, hb1⟩; have hBg0 := hs1.1; have hx : w.heap.size < g := (by simp at hBg0; omega); have hBg : w.heap.size ≤ g := (by omega); have S1 := Lib.hid hs1; have hB1 : Below w.heap.size w w1 := bel_step (by go_grown) hb1; have hz1 := hB1.size; have hk1 := boxBelow hk0.out hb1 (by simp); clear hs1 hBg0) | (go_at_call 63; (with_reducible refine Calls.mono (dayDraw_any _ g _ S1.out) ?_); rintro ee w2 ⟨r2, rfl, hs2, hg2⟩; have S2 := Lib.hid hs2; have hB2 := belowG hB1 hg2 hBg hz1; have hz2 := hB2.size; have hk2 := boxFar hk1 hg2 hx; clear hs2) | (go_at_call 64; clear tok3; (with_reducible refine Calls.mono (next_any _ g _ _ (S2.out)) ?_); rintro ee w3 ⟨r3, rfl, hr3, hs3, hg3⟩; have S3 := Lib.hid hs3; have hB3 := belowG hB2 hg3 hBg hz2; have hz3 := hB3.size; have hk3 := boxFar hk2 hg3 hx; clear hs3))
  · go_wp2_with (first | (go_at_call 62; (with_reducible refine Calls.mono (l15Draw_any _ g _ S3.out) ?_); rintro ee w4 ⟨A4, m4, c4, xs, rfl, ho4, hx4, hs4, hg4⟩; have O4 := Lib.hid ho4; have S4 := Lib.hid hs4; have hB4 := belowG hB3 hg4 hBg hz3; have hz4 := hB4.size; have hk4 := boxFar hk3 hg4 hx; have hy4 := hs4.lt; clear ho4 hs4) | (go_at_call 65; (with_reducible refine Calls.mono (pick_any _ g _ _ _ [r2, wrap64 (r2 - 1), 100000, 100001] _ (S4.out.alloc _) (rd_litD _ _ _ _ rfl _ rfl) (by rintro ad ⟨rfl⟩; simp only; omega) (by omega)) ?_); rintro ee w5 ⟨r5, rfl, _, hs5, hg5⟩; have O5 := Lib.hid ((O4.out.alloc _).far hg5 (by have := boxLt hk3; have := S3.out.lt; omega)); have hB5 := belowG (hB4.alloc hz4 _) hg5 hBg (by simp; omega); have hk5 := boxFar (boxAlloc hk4 _) hg5 hx; obtain ⟨hc0, hc1, hf0, hf1⟩ := box2 hk5; have hl3 := boxLt hk3; clear hs5))
    (try simp only [Exit.inBlock, Exit.then]); refine bodyPost_ret (by simp [results, Try.results43, go_sem, hc0, hc1]; try rfl) rfl ?_; have hr := fun x y => (O5.out.far (box2_grown (x := x) (y := y)) hl3).rd; exact ⟨_, _, _, xs, _, _, rfl, (hr _ _).2, (by have := (hr (.int .i64 0) (.int .i64 0)).1; omega), Below.setCell (Below.setCell hB5 (by simp) _) (by simp) _⟩
  · have tok5 : True := trivial
    go_wp2_with (first | (go_at_call 62; (with_reducible refine Calls.mono (l15Draw_any _ g _ S3.out) ?_); rintro ee w4 ⟨A4, m4, c4, xs, rfl, ho4, hx4, hs4, hg4⟩; have O4 := Lib.hid ho4; have S4 := Lib.hid hs4; have hB4 := belowG hB3 hg4 hBg hz3; have hz4 := hB4.size; have hk4 := boxFar hk3 hg4 hx; have hy4 := hs4.lt; clear ho4 hs4) | (go_at_call 64; clear tok5; (with_reducible refine Calls.mono (next_any _ g _ _ S4.out) ?_); rintro ee w5 ⟨r5, rfl, _, hs5, hg5⟩; have O5 := Lib.hid (O4.out.far hg5 (by have := boxLt hk3; have := S3.out.lt; omega)); have hB5 := belowG hB4 hg5 hBg hz4; have hk5 := boxFar hk4 hg5 hx; obtain ⟨hc0, hc1, hf0, hf1⟩ := box2 hk5; have hl3 := boxLt hk3; clear hs5))
    (try simp only [Exit.inBlock, Exit.then]); refine bodyPost_ret (by simp [results, Try.results43, go_sem, hc0, hc1]; try rfl) rfl ?_; have hr := fun x y => (O5.out.far (box2_grown (x := x) (y := y)) hl3).rd; exact ⟨_, _, _, xs, _, _, rfl, (hr _ _).2, (by have := (hr (.int .i64 0) (.int .i64 0)).1; omega), Below.setCell (Below.setCell hB5 (by simp) _) (by simp) _⟩
set_option maxHeartbeats 1000000 in
theorem drawCas_any (A : Option Addr) (n c : Nat) (w : World) (hC : Code' w.heap.size w A n) : Calls Try.prog 44 #[.slice A n c] w fun e w' => ∃ A' m' c' xs, e = .returned (.slice A' m' c') ∧ RdP w' w'.heap.size A' m' xs ∧ m' ≤ 100 ∧ Below w.heap.size w w' := by
  have HF := Lib.hid (from_any A n c w hC)
  clear hC
  go_enter Try.func44, Try.ntmps44
  go_wp2_with (first | (go_at_call 61; (with_reducible refine Calls.mono HF.out ?_); rintro ee w1 ⟨g, rfl, hs1, hb1⟩; have hBg := hs1.1; have hlt1 := hs1.lt; have S1 := Lib.hid hs1; have hz1 := hb1.size; clear hs1) | (go_at_call 62; (with_reducible refine Calls.mono (l15Draw_any _ g _ S1.out) ?_); rintro ee w2 ⟨A2, m2, c2, xs, rfl, ho2, hx2, hs2, hg2⟩; have O2 := Lib.hid ho2; have hB2 := belowG hb1 hg2 hBg hz1; clear ho2 hs2))
  go_returns
  have hr := O2.out.rd
  exact ⟨_, _, _, xs, rfl, hr.2, by have := hr.1; omega, hB2⟩
end Go.Proofs.Ytldemcdocpdkfaa
