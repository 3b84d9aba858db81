/-
  Contracts of the draws of years (chapter 18): they return some years, and leave what was there.
-/
import Derived.Test.Ytpnohdfdfehoiaa03
import Derived.Test.YtpnohdfdfehoiaaZ18
set_option linter.unusedSimpArgs false
set_option linter.unusedVariables false
namespace Go.Proofs.Ytpnohdfdfehoiaa
open Go.RowKit
theorem okY_mk {a b c d e f g : Int} (h : (0 ≤ a ∧ a ≤ 1000000000000) ∧ (0 ≤ b ∧ b ≤ 1000000000000) ∧ (0 ≤ c ∧ c ≤ 1000000000000) ∧ (0 ≤ d ∧ d ≤ 1000000000000) ∧ (0 ≤ e ∧ e ≤ 1000000000000) ∧ (0 ≤ f ∧ f ≤ 1000000000000) ∧ (0 ≤ g ∧ g ≤ 1000000000000)) : okY a b c d e f g = true := by
  simp only [okY, List.all_cons, List.all_nil, Bool.and_true, Bool.and_eq_true, inR_iff]
  exact h
section
variable {W : World} {g : Nat} {a b c d e f k : Int}
theorem y7_cells (h : Blk W g 25 #[.int .i64 a, .int .i64 b, .int .i64 c, .int .i64 d, .int .i64 e, .int .i64 f, .int .i64 k]) : W.cell? ⟨g, 0, none⟩ = some (.int .i64 a) ∧ W.cell? ⟨g, 1, none⟩ = some (.int .i64 b) ∧ W.cell? ⟨g, 2, none⟩ = some (.int .i64 c) ∧ W.cell? ⟨g, 3, none⟩ = some (.int .i64 d) ∧ W.cell? ⟨g, 4, none⟩ = some (.int .i64 e) ∧ W.cell? ⟨g, 5, none⟩ = some (.int .i64 f) ∧ W.cell? ⟨g, 6, none⟩ = some (.int .i64 k) ∧ (W.frozen? ⟨g, 0, none⟩ = false ∧ W.frozen? ⟨g, 1, none⟩ = false ∧ W.frozen? ⟨g, 2, none⟩ = false ∧ W.frozen? ⟨g, 3, none⟩ = false ∧ W.frozen? ⟨g, 4, none⟩ = false ∧ W.frozen? ⟨g, 5, none⟩ = false ∧ W.frozen? ⟨g, 6, none⟩ = false) :=
  ⟨h.cell 0, h.cell 1, h.cell 2, h.cell 3, h.cell 4, h.cell 5, h.cell 6, h.frozen 0, h.frozen 1, h.frozen 2, h.frozen 3, h.frozen 4, h.frozen 5, h.frozen 6⟩
theorem y7_set6 (h : Blk W g 25 #[.int .i64 a, .int .i64 b, .int .i64 c, .int .i64 d, .int .i64 e, .int .i64 f, .int .i64 k]) (u : Int) : Blk (W.setCell ⟨g, 6, none⟩ (.int .i64 u)) g 25 #[.int .i64 a, .int .i64 b, .int .i64 c, .int .i64 d, .int .i64 e, .int .i64 f, .int .i64 u] := h.set_ 6 _
theorem y7_far {w w1 : World} {g g' : Nat} (h : Blk w g 25 #[.int .i64 a, .int .i64 b, .int .i64 c, .int .i64 d, .int .i64 e, .int .i64 f, .int .i64 k]) (hg : w.grownBy w1 (some g')) (hne : g' < g) : Blk w1 g 25 #[.int .i64 a, .int .i64 b, .int .i64 c, .int .i64 d, .int .i64 e, .int .i64 f, .int .i64 k] := Blk.grown h hg (fun e => by injection e with e; omega)
end
def D18 (B g : Nat) (w : World) (ee : Ending) (w' : World) : Prop := ∃ a b c d e f k : Int, ee = .returned (.agg #[.int .i64 a, .int .i64 b, .int .i64 c, .int .i64 d, .int .i64 e, .int .i64 f, .int .i64 k]) ∧ Src B w' g ∧ w.grownBy w' (some g)
set_option maxHeartbeats 4000000 in
set_option maxRecDepth 100000 in
theorem l18Draw_any (B g : Nat) (w : World) (h : Src B w g) : Calls Try.prog 15 #[.pointer (some ⟨g, 0, none⟩)] w (D18 B g w) := by
  have hlt := h.lt
  obtain ⟨W0, hW0⟩ : ∃ W0 : World, W0 = w.alloc (.cells #[.int .i64 0, .int .i64 0, .int .i64 0, .int .i64 0, .int .i64 0, .int .i64 0, .int .i64 0] 25) := ⟨_, rfl⟩
  have S : Hid (Src B W0 g) := by rw [hW0]; exact h.alloc _
  have G : w.grownBy W0 (some g) := by rw [hW0]; exact grownBy_alloc (World.grownBy.refl _ _) _
  have HZ : Hid (Blk W0 w.heap.size 25 #[.int .i64 0, .int .i64 0, .int .i64 0, .int .i64 0, .int .i64 0, .int .i64 0, .int .i64 0]) := by rw [hW0]; exact Blk.new _ _ _
  clear h
  go_enter Try.func15, Try.ntmps15
  go_wp2_with fail
  rw [← hW0]
  clear hW0
  go_upto_region 2 with (go_at_call 18; (with_reducible refine Calls.mono (next_any B g _ _ S.out) ?_); rintro ee wz ⟨r, rfl, hr, hs, hg⟩; have hrb := hr.2 (by omega); replace S := Lib.hid hs; replace G := grownBy_tr G hg; replace HZ := Lib.hid (y7_far HZ.out hg hlt); clear hr hs hg)
  have hgz := S.out.lt
  have hwz := HZ.out.lt
  go_cut [] (fun wx => ∃ a b c d e f k : Int, Hid (Src B wx g) ∧ w.grownBy wx (some g) ∧ Hid (Blk wx w.heap.size 25 #[.int .i64 0, .int .i64 0, .int .i64 0, .int .i64 0, .int .i64 0, .int .i64 0, .int .i64 0]) ∧ Hid (Blk wx wz.heap.size 25 #[.int .i64 a, .int .i64 b, .int .i64 c, .int .i64 d, .int .i64 e, .int .i64 f, .int .i64 k]))
  case first =>
    go_wp2_with (go_at_call 21; (with_reducible refine Calls.mono (sEnd_any _ _ _ _ _ _ _ _ (okY_mk (by omega))) ?_); rintro ee w7 ⟨rfl, hb⟩; have HY := Lib.hid ((Blk.new wz _ _).below hb (by simp)); replace S := Lib.hid ((S.out.alloc _).below hb (by simp; omega)); replace G := grownBy_below (grownBy_alloc G _) hb; replace HZ := Lib.hid ((HZ.out.alloc _).below hb (by simp; omega)); clear hb)
    go_wp2_with (go_at_call 18; (with_reducible refine Calls.mono (next_any B g _ _ S.out) ?_); rintro ee w8 ⟨r8, rfl, hr, hs, hg⟩; have hrb := hr.2 (by omega); replace S := Lib.hid hs; replace G := grownBy_tr G hg; replace HZ := Lib.hid (y7_far HZ.out hg hlt); replace HY := Lib.hid (y7_far HY.out hg hgz); obtain ⟨k0, k1, k2, k3, k4, k5, k6, f0, f1, f2, f3, f4, f5, f6⟩ := y7_cells HY.out; clear hr hs hg)
    all_goals go_meet
    all_goals exact ⟨_, _, _, _, _, _, _, S.out.store (p := ⟨wz.heap.size, 6, none⟩) hgz _, grownBy_set G (p := ⟨wz.heap.size, 6, none⟩) (.inr (Nat.le_of_lt hwz)) _, HZ.out.far (p := ⟨wz.heap.size, 6, none⟩) (Nat.ne_of_lt hwz) _, y7_set6 HY.out _⟩
  case rest =>
    obtain ⟨a, b, c, d, e, f, k, S, G, HZ, HY⟩ := hcut
    obtain ⟨k0, k1, k2, k3, k4, k5, k6, f0, f1, f2, f3, f4, f5, f6⟩ := y7_cells HY.out
    have tok2 : True := trivial
    go_wp2_with (go_at_call 18; clear tok2; (with_reducible refine Calls.mono (next_any B g _ _ S.out) ?_); rintro ee w9 ⟨r9, rfl, hr, hs, hg⟩; replace S := Lib.hid hs; replace G := grownBy_tr G hg; replace HZ := Lib.hid (y7_far HZ.out hg hlt); replace HY := Lib.hid (y7_far HY.out hg hgz); have hg9 := S.out.lt; clear k0 k1 k2 k3 k4 k5 k6 f0 f1 f2 f3 f4 f5 f6; obtain ⟨k0, k1, k2, k3, k4, k5, k6, f0, f1, f2, f3, f4, f5, f6⟩ := y7_cells HY.out; obtain ⟨z0, z1, z2, z3, z4, z5, z6, y0, y1, y2, y3, y4, y5, y6⟩ := y7_cells HZ.out; clear hr hs hg)
    all_goals
      go_wp2_with (go_at_call 19; (with_reducible refine Calls.mono (pick_any B g _ _ _ [-1, 1000000000000, 1000000000001] _ (S.out.alloc _) (rd_litD _ _ _ _ rfl _ rfl) (by rintro ad ⟨rfl⟩; simp only; omega) (by omega)) ?_); rintro ee w10 ⟨r10, rfl, _, hs, hg⟩; replace S := Lib.hid hs; replace G := grownBy_tr (grownBy_alloc G _) hg; replace HZ := Lib.hid (y7_far (HZ.out.alloc _) hg hlt); replace HY := Lib.hid (y7_far (HY.out.alloc _) hg hgz); clear k0 k1 k2 k3 k4 k5 k6 f0 f1 f2 f3 f4 f5 f6 z0 z1 z2 z3 z4 z5 z6 y0 y1 y2 y3 y4 y5 y6; obtain ⟨k0, k1, k2, k3, k4, k5, k6, f0, f1, f2, f3, f4, f5, f6⟩ := y7_cells HY.out; obtain ⟨z0, z1, z2, z3, z4, z5, z6, y0, y1, y2, y3, y4, y5, y6⟩ := y7_cells HZ.out; clear hs hg)
    all_goals (try simp only [Exit.inBlock, Exit.then])
    all_goals
      refine bodyPost_ret (by simp [results, Try.results15, go_sem, z0, z1, z2, z3, z4, z5, z6]; exact ⟨rfl, rfl, rfl, rfl, rfl, rfl, rfl⟩) rfl ⟨_, _, _, _, _, _, _, rfl, ?_, ?_⟩
      · repeat (first | with_reducible exact S.out | with_reducible refine Src.store ?_ (by first | exact hlt | exact hgz) _)
      · repeat (first | with_reducible exact G | with_reducible refine grownBy_set ?_ (.inr (by first | exact Nat.le_refl _ | exact Nat.le_of_lt hwz)) _)
end Go.Proofs.Ytpnohdfdfehoiaa
