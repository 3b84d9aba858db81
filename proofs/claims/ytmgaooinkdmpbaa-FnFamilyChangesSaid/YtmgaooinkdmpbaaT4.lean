/-
  Draws of chapter 14: families, months, rates.
-/
import Derived.Test.YtmgaooinkdmpbaaR4
import Derived.Test.Ytmgaooinkdmpbaa03
import Derived.Test.YtmgaooinkdmpbaaOL
set_option linter.unusedSimpArgs false
set_option linter.unusedVariables false
namespace Go.Proofs.Ytmgaooinkdmpbaa
open Go.RowKit
theorem grownBy_new {a w w' : World} {g : Nat} {row : Option Nat} (h : a.grownBy w (some g)) (k : w.grownBy w' row) (hr : ∀ b, row = some b → a.heap.size ≤ b) : a.grownBy w' (some g) :=
  ⟨k.os.trans h.os, k.tape.trans h.tape, k.output.trans h.output, Nat.le_trans h.size k.size, fun i hi hne => (k.block i (Nat.lt_of_lt_of_le hi h.size) (fun e => by have := hr i e.symm; omega)).trans (h.block i hi hne)⟩
theorem Src.kept {B : Nat} {w w' : World} {g : Nat} {row : Option Nat} (h : Src B w g) (hg : w.grownBy w' row) (hb : ∀ b, row = some b → g < b) : Src B w' g := by
  have hlt := h.lt
  refine h.below (B' := g + 1) ⟨hg.os, hg.tape, hg.output, hg.size, fun i hi => hg.block i (by omega) (fun e => by have := hb i e.symm; omega)⟩ (by omega)
theorem blk_far {w w1 : World} {g g' : Nat} {t : TypeId} {cs : Array Value} (h : Blk w g t cs) (hg : w.grownBy w1 (some g')) (hne : g' < g) : Blk w1 g t cs := Blk.grown h hg (fun e => by injection e with e; omega)
theorem own_rowJ {w : World} {base : Nat} {v : Value} {zs : List Int} (h : OwI w base v zs) : ∀ g, v.ownBlock = some g → base ≤ g := by
  intro g e
  rcases h.form with ⟨h1, _⟩ | ⟨g', cap, h1, h2, h3, _⟩
  · rw [h1] at e; cases e
  · rw [h1] at e
    simp only [Value.ownBlock, Option.some.injEq] at e
    omega
/-- what stands while a family is drawn -/
structure FS (B g : Nat) (w : World) (fb k : Nat) (W : World) (d m wd lf : Int) (A : Option Addr) (n c : Nat) (xs : List Int) : Prop where
  src : Src B W g
  gr : w.grownBy W (some g)
  box : Blk W fb 26 #[.int .i64 d, .int .i64 m, .int .i64 wd, .int .i64 lf, .slice A n c]
  res : Blk W w.heap.size 26 #[.int .i64 0, .int .i64 0, .int .i64 0, .int .i64 0, .slice none 0 0]
  own : OwI W (w.heap.size + 1) (.slice A n c) xs
  len : xs.length ≤ k
  off : ∀ q, (Value.slice A n c).ownBlock = some q → q ≠ fb
  hg : g < w.heap.size
  hb : w.heap.size < fb
def FE (B g : Nat) (w : World) (fb k : Nat) (W : World) : Prop := ∃ d m wd lf A n c xs, FS B g w fb k W d m wd lf A n c xs
section
variable {B g : Nat} {w : World} {fb k : Nat} {W W' : World} {d m wd lf : Int} {A : Option Addr} {n c : Nat} {xs : List Int}
theorem FS.e (h : FS B g w fb k W d m wd lf A n c xs) : FE B g w fb k W := ⟨_, _, _, _, _, _, _, _, h⟩
theorem FE.mono {k' : Nat} (h : FE B g w fb k W) (hk : k ≤ k') : FE B g w fb k' W := by
  obtain ⟨d, m, wd, lf, A, n, c, xs, h⟩ := h
  exact ⟨d, m, wd, lf, A, n, c, xs, h.src, h.gr, h.box, h.res, h.own, Nat.le_trans h.len hk, h.off, h.hg, h.hb⟩
theorem FE.drew (h : FE B g w fb k W) : FE B g w fb k W.drew := by
  obtain ⟨d, m, wd, lf, A, n, c, xs, h⟩ := h
  exact ⟨d, m, wd, lf, A, n, c, xs, h.src, grownBy_drewN h.gr 1, h.box, h.res, h.own, h.len, h.off, h.hg, h.hb⟩
theorem FS.step (h : FS B g w fb k W d m wd lf A n c xs) (hs : Src B W' g) (hg : W.grownBy W' (some g)) : FS B g w fb k W' d m wd lf A n c xs :=
  ⟨hs, grownBy_tr h.gr hg, blk_far h.box hg (Nat.lt_trans h.hg h.hb), blk_far h.res hg h.hg, h.own.far hg (Nat.lt_succ_of_lt h.hg), h.len, h.off, h.hg, h.hb⟩
theorem FS.alloc (h : FS B g w fb k W d m wd lf A n c xs) (o : Obj) : FS B g w fb k (W.alloc o) d m wd lf A n c xs :=
  ⟨h.src.alloc o, grownBy_alloc h.gr o, h.box.alloc o, h.res.alloc o, h.own.alloc o, h.len, h.off, h.hg, h.hb⟩
theorem FS.put (h : FS B g w fb k W d m wd lf A n c xs) (i : Nat) (u : Value) {d' m' wd' lf' : Int} (e : (#[.int .i64 d, .int .i64 m, .int .i64 wd, .int .i64 lf, .slice A n c]).setIfInBounds i u = #[.int .i64 d', .int .i64 m', .int .i64 wd', .int .i64 lf', .slice A n c]) : FS B g w fb k (W.setCell ⟨fb, i, none⟩ u) d' m' wd' lf' A n c xs :=
  ⟨h.src.store (p := ⟨fb, i, none⟩) (Nat.lt_trans h.hg h.hb) u, grownBy_set h.gr (p := ⟨fb, i, none⟩) (.inr (Nat.le_of_lt h.hb)) u, by rw [← e]; exact h.box.set_ i u, h.res.far (p := ⟨fb, i, none⟩) (Nat.ne_of_lt h.hb) u, h.own.off (grownBy_one W ⟨fb, i, none⟩ u) h.off, h.len, h.off, h.hg, h.hb⟩
theorem FS.p0 (h : FS B g w fb k W d m wd lf A n c xs) (u : Int) : FS B g w fb k (W.setCell ⟨fb, 0, none⟩ (.int .i64 u)) u m wd lf A n c xs := h.put 0 _ rfl
theorem FS.p1 (h : FS B g w fb k W d m wd lf A n c xs) (u : Int) : FS B g w fb k (W.setCell ⟨fb, 1, none⟩ (.int .i64 u)) d u wd lf A n c xs := h.put 1 _ rfl
theorem FS.p2 (h : FS B g w fb k W d m wd lf A n c xs) (u : Int) : FS B g w fb k (W.setCell ⟨fb, 2, none⟩ (.int .i64 u)) d m u lf A n c xs := h.put 2 _ rfl
theorem FS.p3 (h : FS B g w fb k W d m wd lf A n c xs) (u : Int) : FS B g w fb k (W.setCell ⟨fb, 3, none⟩ (.int .i64 u)) d m wd u A n c xs := h.put 3 _ rfl
theorem FS.lt (h : FS B g w fb k W d m wd lf A n c xs) : fb < W.heap.size := h.box.lt
theorem FS.app (h : FS B g w fb k W d m wd lf A n c xs) {z : Int} {t : TypeId} {A3 : Option Addr} {m3 c3 : Nat} {w3 : World} (ho : OwI w3 (w.heap.size + 1) (.slice A3 m3 c3) (xs ++ [z])) (hgr : (W.alloc (.cells #[.int .i64 z] t)).grownBy w3 (Value.slice A n c).ownBlock) (hq : ∀ q, (Value.slice A3 m3 c3).ownBlock = some q → (Value.slice A n c).ownBlock = some q ∨ q = (W.alloc (.cells #[.int .i64 z] t)).heap.size) :
    Blk w3 fb 26 #[.int .i64 d, .int .i64 m, .int .i64 wd, .int .i64 lf, .slice A n c] ∧ Blk w3 w.heap.size 26 #[.int .i64 0, .int .i64 0, .int .i64 0, .int .i64 0, .slice none 0 0] ∧ FS B g w fb (k + 1) (w3.setCell ⟨fb, 4, none⟩ (.slice A3 m3 c3)) d m wd lf A3 m3 c3 (xs ++ [z]) := by
  have rw := own_rowJ (h.own.alloc (.cells #[.int .i64 z] t))
  have hgg := h.hg
  have hbb := h.hb
  have hlt := h.lt
  have hB : Blk w3 fb 26 #[.int .i64 d, .int .i64 m, .int .i64 wd, .int .i64 lf, .slice A n c] := (h.box.alloc _).grown hgr (fun e => h.off _ e.symm rfl)
  have hQ : ∀ q, (Value.slice A3 m3 c3).ownBlock = some q → q ≠ fb := fun q e => by
    rcases hq q e with e1 | e1
    · exact h.off q e1
    · simp at e1; omega
  have hR : Blk w3 w.heap.size 26 #[.int .i64 0, .int .i64 0, .int .i64 0, .int .i64 0, .slice none 0 0] := (h.res.alloc _).grown hgr (fun e => by have := rw _ e.symm; omega)
  refine ⟨hB, hR, ?_, ?_, hB.set_ 4 _, ?_, ho.off (grownBy_one w3 ⟨fb, 4, none⟩ _) hQ, by have := h.len; simp; omega, hQ, hgg, hbb⟩
  · exact Src.store (Src.kept (h.src.alloc _) hgr (fun b e => by have := rw b e; omega)) (p := ⟨fb, 4, none⟩) (by show g < fb; omega) _
  · exact grownBy_set (grownBy_new (grownBy_alloc h.gr _) hgr (fun b e => by have := rw b e; omega)) (p := ⟨fb, 4, none⟩) (.inr (by show w.heap.size ≤ fb; omega)) _
  · exact hR.far (p := ⟨fb, 4, none⟩) (by show w.heap.size ≠ fb; omega) _
theorem FS.fin (h : FS B g w fb k W d m wd lf A n c xs) (hk : k ≤ 10) (u0 u1 u2 u3 u4 : Value) :
    OwI (((((W.setCell ⟨w.heap.size, 0, none⟩ u0).setCell ⟨w.heap.size, 1, none⟩ u1).setCell ⟨w.heap.size, 2, none⟩ u2).setCell ⟨w.heap.size, 3, none⟩ u3).setCell ⟨w.heap.size, 4, none⟩ u4) w.heap.size (.slice A n c) xs ∧ xs.length ≤ 10 ∧ Src B (((((W.setCell ⟨w.heap.size, 0, none⟩ u0).setCell ⟨w.heap.size, 1, none⟩ u1).setCell ⟨w.heap.size, 2, none⟩ u2).setCell ⟨w.heap.size, 3, none⟩ u3).setCell ⟨w.heap.size, 4, none⟩ u4) g ∧ w.grownBy (((((W.setCell ⟨w.heap.size, 0, none⟩ u0).setCell ⟨w.heap.size, 1, none⟩ u1).setCell ⟨w.heap.size, 2, none⟩ u2).setCell ⟨w.heap.size, 3, none⟩ u3).setCell ⟨w.heap.size, 4, none⟩ u4) (some g) := by
  refine ⟨?_, Nat.le_trans h.len hk, ?_, ?_⟩
  · refine OwI.mono (base := w.heap.size + 1) ?_ (Nat.le_succ _)
    repeat (refine OwI.store ?_ (Nat.lt_succ_self _) _)
    exact h.own
  · repeat (refine Src.store ?_ h.hg _)
    exact h.src
  · repeat (refine grownBy_set ?_ (.inr (Nat.le_refl _)) _)
    exact h.gr
theorem FS.next (h : FS B g w fb k W d m wd lf A n c xs) (N : Int) : Calls Try.prog 50 #[.pointer (some ⟨g, 0, none⟩), .int .i64 N] W (fun e w' => ∃ r, e = .returned (.int .i64 r) ∧ Rng N r ∧ FS B g w fb k w' d m wd lf A n c xs ∧ ∀ i, w'.cell? ⟨fb, i, none⟩ = W.cell? ⟨fb, i, none⟩) :=
  (next_any B g N W h.src).mono fun _ w' ⟨r, h1, h2, h3, h4⟩ => ⟨r, h1, h2, h.step h3 h4, fun i => (gcell h4).1 fb i (Nat.lt_trans h.hg h.hb) h.lt⟩
theorem FE.next (h : FE B g w fb k W) (N : Int) : Calls Try.prog 50 #[.pointer (some ⟨g, 0, none⟩), .int .i64 N] W (fun e w' => ∃ r, e = .returned (.int .i64 r) ∧ Rng N r ∧ FE B g w fb k w' ∧ ∀ i, w'.cell? ⟨fb, i, none⟩ = W.cell? ⟨fb, i, none⟩) := by
  obtain ⟨d, m, wd, lf, A, n, c, xs, h⟩ := h
  exact (FS.next h N).mono fun _ w' ⟨r, h1, h2, h3, h4⟩ => ⟨r, h1, h2, ⟨_, _, _, _, _, _, _, _, h3⟩, h4⟩
theorem FS.pick (h : FS B g w fb k W d m wd lf A n c xs) (zs : List Int) (cs : Array Value) (hcs : cs = (zs.map (Value.int .i64)).toArray) (q : Nat) (hq : zs.length = q) (hq0 : 0 < q) : Calls Try.prog 51 #[.pointer (some ⟨g, 0, none⟩), .slice (some ⟨W.heap.size, 0, none⟩) q q] (W.alloc (.cells cs 2)) (fun e w' => ∃ r, e = .returned (.int .i64 r) ∧ FS B g w fb k w' d m wd lf A n c xs) :=
  (pick_any B g _ _ _ zs _ (h.src.alloc _) (rd_litD _ _ _ _ hcs _ hq) (by rintro ad ⟨rfl⟩; have := h.src.lt; simp only; omega) hq0).mono fun _ w' ⟨r, h1, _, h3, h4⟩ => ⟨r, h1, (h.alloc _).step h3 h4⟩
theorem FE.pick (h : FE B g w fb k W) (zs : List Int) (cs : Array Value) (hcs : cs = (zs.map (Value.int .i64)).toArray) (q : Nat) (hq : zs.length = q) (hq0 : 0 < q) : Calls Try.prog 51 #[.pointer (some ⟨g, 0, none⟩), .slice (some ⟨W.heap.size, 0, none⟩) q q] (W.alloc (.cells cs 2)) (fun e w' => ∃ r, e = .returned (.int .i64 r) ∧ FE B g w fb k w') := by
  obtain ⟨d, m, wd, lf, A, n, c, xs, h⟩ := h
  exact (FS.pick h zs cs hcs q hq hq0).mono fun _ w' ⟨r, h1, h3⟩ => ⟨r, h1, ⟨_, _, _, _, _, _, _, _, h3⟩⟩
end
set_option maxHeartbeats 4000000 in
set_option maxRecDepth 100000 in
theorem l14Draw_any (B g : Nat) (w : World) (h : Src B w g) : Calls Try.prog 65 #[.pointer (some ⟨g, 0, none⟩)] w (fun e w' => ∃ (d m wd lf : Int) (A : Option Addr) (n c : Nat) (xs : List Int), e = .returned (.agg #[.int .i64 d, .int .i64 m, .int .i64 wd, .int .i64 lf, .slice A n c]) ∧ OwI w' w.heap.size (.slice A n c) xs ∧ xs.length ≤ 10 ∧ Src B w' g ∧ w.grownBy w' (some g)) := by
  have hlt := h.lt
  have S0 := Lib.hid h
  have G0 : w.grownBy w (some g) := World.grownBy.refl _ _
  have hz0 : w.heap.size ≤ w.heap.size := Nat.le_refl _
  clear h
  go_enter Try.func65, Try.ntmps65
  go_upto_region 1 with fail
  go_cut [3] (fun s3 wx => ∃ (fb : Nat) (d m wd lf : Int) (A : Option Addr) (n c : Nat) (xs : List Int), s3 = .pointer (some ⟨fb, 0, none⟩) ∧ Hid (FS B g w fb 0 wx d m wd lf A n c xs))
  case first =>
    go_wp2_with (go_at_call 50; (with_reducible refine Calls.mono (next_any B g _ _ (S0.out.alloc _)) ?_); rintro ee w1 ⟨r1, rfl, hr1, hs1, hg1⟩; have hr1' := hr1.2 (by omega); have S1 := Lib.hid hs1; have G1 := Lib.hid hg1; have hz1 := hg1.size; clear hr1 hs1 hg1)
    go_meet
    simp only [World.size_alloc] at hz1
    exact ⟨w1.heap.size + 1, _, _, _, _, some ⟨w1.heap.size, 0, none⟩, 0, 0, [], rfl, (S1.out.alloc _).alloc _, grownBy_alloc (grownBy_alloc (grownBy_tr (grownBy_alloc G0 _) G1.out) _) _, (by have := Blk.new (w1.alloc (.cells #[] 2)) 26 #[.int .i64 (22000 + r1), .int .i64 (-1), .int .i64 (-1), .int .i64 (-1), .slice (some ⟨w1.heap.size, 0, none⟩) 0 0]; rw [World.size_alloc] at this; exact this), ((blk_far (Blk.new w _ _) G1.out hlt).alloc _).alloc _, (ownEmpty w1 (w.heap.size + 1) (by omega)).alloc _, Nat.le_refl _, fun q e => (by simp only [Value.ownBlock, Option.some.injEq] at e; omega), hlt, by omega⟩
  case rest =>
    obtain ⟨fb, d, m, wd, lf, A, n, c, xs, rfl, H⟩ := hcut
    have hlz := H.out.lt
    have hgz := H.out.hg
    have hbz := H.out.hb
    (try clear k0 k1 k2 k3 k4 f0 f1 f2 f3 f4); obtain ⟨k0, k1, k2, k3, k4, f0, f1, f2, f3, f4⟩ := f5_cells H.out.box; (try clear z0 z1 z2 z3 z4 y0 y1 y2 y3 y4); obtain ⟨z0, z1, z2, z3, z4, y0, y1, y2, y3, y4⟩ := f5_cells H.out.res
    go_upto_if 13 with (go_at_call 50; (with_reducible refine Calls.mono (FE.next (B := B) (w := w) (fb := fb) (k := 0) ?_ _) ?_); (first | with_reducible exact H9.out.e | with_reducible exact FE.drew (H9.out.e) | with_reducible exact H.out.e | with_reducible exact FE.drew (H.out.e) | with_reducible exact (H.out.p1 _).e | with_reducible exact FE.drew ((H.out.p1 _).e) | with_reducible exact ((H.out.p1 _).p2 _).e | with_reducible exact FE.drew (((H.out.p1 _).p2 _).e) | with_reducible exact (H.out.p3 _).e | with_reducible exact FE.drew ((H.out.p3 _).e) | with_reducible exact (H.out.p0 _).e | with_reducible exact FE.drew ((H.out.p0 _).e)); rintro ee wz ⟨r, rfl, hr, hs, hcz⟩; replace hcz := Lib.hid hcz; (obtain ⟨d, m, wd, lf, A, n, c, xs, h⟩ := hs; replace H := Lib.hid h; have hlz := H.out.lt; (try clear k0 k1 k2 k3 k4 f0 f1 f2 f3 f4); obtain ⟨k0, k1, k2, k3, k4, f0, f1, f2, f3, f4⟩ := f5_cells H.out.box; (try clear z0 z1 z2 z3 z4 y0 y1 y2 y3 y4); obtain ⟨z0, z1, z2, z3, z4, y0, y1, y2, y3, y4⟩ := f5_cells H.out.res; clear h))
    go_cut [] from 6 (fun wx => Hid (FE B g w fb 0 wx))
    case first =>
      go_wp2_with (go_at_call 50; (with_reducible refine Calls.mono (FE.next (B := B) (w := w) (fb := fb) (k := 0) ?_ _) ?_); (first | with_reducible exact H9.out.e | with_reducible exact FE.drew (H9.out.e) | with_reducible exact H.out.e | with_reducible exact FE.drew (H.out.e) | with_reducible exact (H.out.p1 _).e | with_reducible exact FE.drew ((H.out.p1 _).e) | with_reducible exact ((H.out.p1 _).p2 _).e | with_reducible exact FE.drew (((H.out.p1 _).p2 _).e) | with_reducible exact (H.out.p3 _).e | with_reducible exact FE.drew ((H.out.p3 _).e) | with_reducible exact (H.out.p0 _).e | with_reducible exact FE.drew ((H.out.p0 _).e)); rintro ee wz ⟨r, rfl, hr, hs, hcz⟩; replace hcz := Lib.hid hcz; (obtain ⟨d, m, wd, lf, A, n, c, xs, h⟩ := hs; replace H := Lib.hid h; have hlz := H.out.lt; (try clear k0 k1 k2 k3 k4 f0 f1 f2 f3 f4); obtain ⟨k0, k1, k2, k3, k4, f0, f1, f2, f3, f4⟩ := f5_cells H.out.box; (try clear z0 z1 z2 z3 z4 y0 y1 y2 y3 y4); obtain ⟨z0, z1, z2, z3, z4, y0, y1, y2, y3, y4⟩ := f5_cells H.out.res; clear h))
      · go_region_held3 (fun W' => W'.cell? ⟨fb, 0, none⟩ = some (.int .i64 (d))) (first | exact k0 | assumption | (rw [hcz.out]; assumption) | (rw [hcz.out]; exact k0) | (refine Eq.trans (World.cell?_setCell_other _ _ _ _ (by simp)) ?_; first | exact k0 | assumption)) (first | (go_at_call 50; (with_reducible refine Calls.mono (FE.next (B := B) (w := w) (fb := fb) (k := 0) ?_ _) ?_); (first | with_reducible exact H9.out.e | with_reducible exact FE.drew (H9.out.e) | with_reducible exact H.out.e | with_reducible exact FE.drew (H.out.e) | with_reducible exact (H.out.p1 _).e | with_reducible exact FE.drew ((H.out.p1 _).e) | with_reducible exact ((H.out.p1 _).p2 _).e | with_reducible exact FE.drew (((H.out.p1 _).p2 _).e) | with_reducible exact (H.out.p3 _).e | with_reducible exact FE.drew ((H.out.p3 _).e) | with_reducible exact (H.out.p0 _).e | with_reducible exact FE.drew ((H.out.p0 _).e)); rintro ee wz ⟨r, rfl, hr, hs, hcz⟩; replace hcz := Lib.hid hcz; (obtain ⟨d, m, wd, lf, A, n, c, xs, h⟩ := hs; replace H := Lib.hid h; have hlz := H.out.lt; (try clear k0 k1 k2 k3 k4 f0 f1 f2 f3 f4); obtain ⟨k0, k1, k2, k3, k4, f0, f1, f2, f3, f4⟩ := f5_cells H.out.box; (try clear z0 z1 z2 z3 z4 y0 y1 y2 y3 y4); obtain ⟨z0, z1, z2, z3, z4, y0, y1, y2, y3, y4⟩ := f5_cells H.out.res; clear h)))
        go_wp2_with (go_at_call 50; (with_reducible refine Calls.mono (FE.next (B := B) (w := w) (fb := fb) (k := 0) ?_ _) ?_); (first | with_reducible exact H9.out.e | with_reducible exact FE.drew (H9.out.e) | with_reducible exact H.out.e | with_reducible exact FE.drew (H.out.e) | with_reducible exact (H.out.p1 _).e | with_reducible exact FE.drew ((H.out.p1 _).e) | with_reducible exact ((H.out.p1 _).p2 _).e | with_reducible exact FE.drew (((H.out.p1 _).p2 _).e) | with_reducible exact (H.out.p3 _).e | with_reducible exact FE.drew ((H.out.p3 _).e) | with_reducible exact (H.out.p0 _).e | with_reducible exact FE.drew ((H.out.p0 _).e)); rintro ee wz ⟨r, rfl, hr, hs, hcz⟩; replace hcz := Lib.hid hcz; (obtain ⟨d, m, wd, lf, A, n, c, xs, h⟩ := hs; replace H := Lib.hid h; have hlz := H.out.lt; (try clear k0 k1 k2 k3 k4 f0 f1 f2 f3 f4); obtain ⟨k0, k1, k2, k3, k4, f0, f1, f2, f3, f4⟩ := f5_cells H.out.box; (try clear z0 z1 z2 z3 z4 y0 y1 y2 y3 y4); obtain ⟨z0, z1, z2, z3, z4, y0, y1, y2, y3, y4⟩ := f5_cells H.out.res; clear h))
        · go_region_held3 (fun W' => W'.cell? ⟨fb, 2, none⟩ = some (.int .i64 (wd))) (first | exact k2 | assumption | (rw [hcz.out]; assumption) | (rw [hcz.out]; exact k2) | (refine Eq.trans (World.cell?_setCell_other _ _ _ _ (by simp)) ?_; first | exact k2 | assumption)) (first | (go_at_call 50; (with_reducible refine Calls.mono (FE.next (B := B) (w := w) (fb := fb) (k := 0) ?_ _) ?_); (first | with_reducible exact H9.out.e | with_reducible exact FE.drew (H9.out.e) | with_reducible exact H.out.e | with_reducible exact FE.drew (H.out.e) | with_reducible exact (H.out.p1 _).e | with_reducible exact FE.drew ((H.out.p1 _).e) | with_reducible exact ((H.out.p1 _).p2 _).e | with_reducible exact FE.drew (((H.out.p1 _).p2 _).e) | with_reducible exact (H.out.p3 _).e | with_reducible exact FE.drew ((H.out.p3 _).e) | with_reducible exact (H.out.p0 _).e | with_reducible exact FE.drew ((H.out.p0 _).e)); rintro ee wz ⟨r, rfl, hr, hs, hcz⟩; replace hcz := Lib.hid hcz; (obtain ⟨d, m, wd, lf, A, n, c, xs, h⟩ := hs; replace H := Lib.hid h; have hlz := H.out.lt; (try clear k0 k1 k2 k3 k4 f0 f1 f2 f3 f4); obtain ⟨k0, k1, k2, k3, k4, f0, f1, f2, f3, f4⟩ := f5_cells H.out.box; (try clear z0 z1 z2 z3 z4 y0 y1 y2 y3 y4); obtain ⟨z0, z1, z2, z3, z4, y0, y1, y2, y3, y4⟩ := f5_cells H.out.res; clear h)))
          go_wp2_with fail
          go_meet
          refine Lib.hid ?_
          (first | with_reducible exact H9.out.e | with_reducible exact FE.drew (H9.out.e) | with_reducible exact H.out.e | with_reducible exact FE.drew (H.out.e) | with_reducible exact (H.out.p1 _).e | with_reducible exact FE.drew ((H.out.p1 _).e) | with_reducible exact ((H.out.p1 _).p2 _).e | with_reducible exact FE.drew (((H.out.p1 _).p2 _).e) | with_reducible exact (H.out.p3 _).e | with_reducible exact FE.drew ((H.out.p3 _).e) | with_reducible exact (H.out.p0 _).e | with_reducible exact FE.drew ((H.out.p0 _).e))
        · go_meet
          refine Lib.hid ?_
          (first | with_reducible exact H9.out.e | with_reducible exact FE.drew (H9.out.e) | with_reducible exact H.out.e | with_reducible exact FE.drew (H.out.e) | with_reducible exact (H.out.p1 _).e | with_reducible exact FE.drew ((H.out.p1 _).e) | with_reducible exact ((H.out.p1 _).p2 _).e | with_reducible exact FE.drew (((H.out.p1 _).p2 _).e) | with_reducible exact (H.out.p3 _).e | with_reducible exact FE.drew ((H.out.p3 _).e) | with_reducible exact (H.out.p0 _).e | with_reducible exact FE.drew ((H.out.p0 _).e))
      · go_meet
        refine Lib.hid ?_
        (first | with_reducible exact H9.out.e | with_reducible exact FE.drew (H9.out.e) | with_reducible exact H.out.e | with_reducible exact FE.drew (H.out.e) | with_reducible exact (H.out.p1 _).e | with_reducible exact FE.drew ((H.out.p1 _).e) | with_reducible exact ((H.out.p1 _).p2 _).e | with_reducible exact FE.drew (((H.out.p1 _).p2 _).e) | with_reducible exact (H.out.p3 _).e | with_reducible exact FE.drew ((H.out.p3 _).e) | with_reducible exact (H.out.p0 _).e | with_reducible exact FE.drew ((H.out.p0 _).e))
    case rest =>
      clear H k0 k1 k2 k3 k4 f0 f1 f2 f3 f4 z0 z1 z2 z3 z4 y0 y1 y2 y3 y4 hlz
      obtain ⟨d, m, wd, lf, A, n, c, xs, h⟩ := hcut.out
      have H := Lib.hid h
      have hlz := H.out.lt
      clear h hcut
      (try clear k0 k1 k2 k3 k4 f0 f1 f2 f3 f4); obtain ⟨k0, k1, k2, k3, k4, f0, f1, f2, f3, f4⟩ := f5_cells H.out.box; (try clear z0 z1 z2 z3 z4 y0 y1 y2 y3 y4); obtain ⟨z0, z1, z2, z3, z4, y0, y1, y2, y3, y4⟩ := f5_cells H.out.res
      go_wp2_with fail
      go_region_held3 (fun W' => W'.cell? ⟨fb, 0, none⟩ = some (.int .i64 (d))) (first | exact k0 | assumption | (rw [hcz.out]; assumption) | (rw [hcz.out]; exact k0) | (refine Eq.trans (World.cell?_setCell_other _ _ _ _ (by simp)) ?_; first | exact k0 | assumption)) (first | (go_at_call 50; (with_reducible refine Calls.mono (FE.next (B := B) (w := w) (fb := fb) (k := 0) ?_ _) ?_); (first | with_reducible exact H9.out.e | with_reducible exact FE.drew (H9.out.e) | with_reducible exact H.out.e | with_reducible exact FE.drew (H.out.e) | with_reducible exact (H.out.p1 _).e | with_reducible exact FE.drew ((H.out.p1 _).e) | with_reducible exact ((H.out.p1 _).p2 _).e | with_reducible exact FE.drew (((H.out.p1 _).p2 _).e) | with_reducible exact (H.out.p3 _).e | with_reducible exact FE.drew ((H.out.p3 _).e) | with_reducible exact (H.out.p0 _).e | with_reducible exact FE.drew ((H.out.p0 _).e)); rintro ee wz ⟨r, rfl, hr, hs, hcz⟩; replace hcz := Lib.hid hcz; (obtain ⟨d, m, wd, lf, A, n, c, xs, h⟩ := hs; replace H := Lib.hid h; have hlz := H.out.lt; (try clear k0 k1 k2 k3 k4 f0 f1 f2 f3 f4); obtain ⟨k0, k1, k2, k3, k4, f0, f1, f2, f3, f4⟩ := f5_cells H.out.box; (try clear z0 z1 z2 z3 z4 y0 y1 y2 y3 y4); obtain ⟨z0, z1, z2, z3, z4, y0, y1, y2, y3, y4⟩ := f5_cells H.out.res; clear h)))
      go_wp2_with (go_at_call 50; (with_reducible refine Calls.mono (FE.next (B := B) (w := w) (fb := fb) (k := 0) ?_ _) ?_); (first | with_reducible exact H9.out.e | with_reducible exact FE.drew (H9.out.e) | with_reducible exact H.out.e | with_reducible exact FE.drew (H.out.e) | with_reducible exact (H.out.p1 _).e | with_reducible exact FE.drew ((H.out.p1 _).e) | with_reducible exact ((H.out.p1 _).p2 _).e | with_reducible exact FE.drew (((H.out.p1 _).p2 _).e) | with_reducible exact (H.out.p3 _).e | with_reducible exact FE.drew ((H.out.p3 _).e) | with_reducible exact (H.out.p0 _).e | with_reducible exact FE.drew ((H.out.p0 _).e)); rintro ee wz ⟨r, rfl, hr, hs, hcz⟩; replace hcz := Lib.hid hcz; (obtain ⟨d, m, wd, lf, A, n, c, xs, h⟩ := hs; replace H := Lib.hid h; have hlz := H.out.lt; (try clear k0 k1 k2 k3 k4 f0 f1 f2 f3 f4); obtain ⟨k0, k1, k2, k3, k4, f0, f1, f2, f3, f4⟩ := f5_cells H.out.box; (try clear z0 z1 z2 z3 z4 y0 y1 y2 y3 y4); obtain ⟨z0, z1, z2, z3, z4, y0, y1, y2, y3, y4⟩ := f5_cells H.out.res; clear h))
      have hr' := hr.2 (by omega)
      simp only [IntWalk.i64_left]
      go_loopw [4, 5] (fun a nn wr => ∃ (M N : Int), a = .int .i64 M ∧ nn = .int .i64 N ∧ 0 ≤ N ∧ N ≤ 4 ∧ Hid (FE B g w fb (4 - N).toNat wr)) (fun _ nn _ => (intOf nn).toNat)
      case atStart => exact ⟨_, _, rfl, rfl, by omega, by omega, H.out.e.mono (Nat.zero_le _)⟩
      case round =>
        obtain ⟨M, N, rfl, rfl, hN0, hN1, HE⟩ := hrel
        clear H k0 k1 k2 k3 k4 f0 f1 f2 f3 f4 z0 z1 z2 z3 z4 y0 y1 y2 y3 y4 hlz hr hr' hcz
        obtain ⟨d, m, wd, lf, A, n, c, xs, h⟩ := HE.out
        have H := Lib.hid h
        have hlz := h.lt
        clear h HE
        (try clear k0 k1 k2 k3 k4 f0 f1 f2 f3 f4); obtain ⟨k0, k1, k2, k3, k4, f0, f1, f2, f3, f4⟩ := f5_cells H.out.box; (try clear z0 z1 z2 z3 z4 y0 y1 y2 y3 y4); obtain ⟨z0, z1, z2, z3, z4, y0, y1, y2, y3, y4⟩ := f5_cells H.out.res
        obtain ⟨k, hk⟩ : ∃ k, (4 - N).toNat = k := ⟨_, rfl⟩
        rw [hk] at H
        by_cases hN : 0 < N
        · go_wp2_with (first | (at_builtin; refine wpl_app_intL rfl _ _ rfl (w.heap.size + 1) xs _ (by rfl) (H.out.own.alloc _) _ _ 1 (by rfl) ((Blk.new _ _ _).cell 0) (by have := H.out.len; omega) (by simp; omega) ?_; intro A3 m3 c3 w3 ho3 hg3 hq3; obtain ⟨hb3, hr3, h9⟩ := H.out.app ho3 hg3 hq3; have H9 := Lib.hid h9; (try clear k0 k1 k2 k3 k4 f0 f1 f2 f3 f4); obtain ⟨k0, k1, k2, k3, k4, f0, f1, f2, f3, f4⟩ := f5_cells hb3; (try clear z0 z1 z2 z3 z4 y0 y1 y2 y3 y4); obtain ⟨z0, z1, z2, z3, z4, y0, y1, y2, y3, y4⟩ := f5_cells hr3; have hl3 := hb3.lt; clear ho3 hg3 hq3 hb3 hr3 h9) | (go_at_call 50; (with_reducible refine Calls.mono (FE.next (B := B) (w := w) (fb := fb) (k := k + 1) ?_ _) ?_); (first | with_reducible exact H9.out.e | with_reducible exact FE.drew (H9.out.e) | with_reducible exact H.out.e | with_reducible exact FE.drew (H.out.e) | with_reducible exact (H.out.p1 _).e | with_reducible exact FE.drew ((H.out.p1 _).e) | with_reducible exact ((H.out.p1 _).p2 _).e | with_reducible exact FE.drew (((H.out.p1 _).p2 _).e) | with_reducible exact (H.out.p3 _).e | with_reducible exact FE.drew ((H.out.p3 _).e) | with_reducible exact (H.out.p0 _).e | with_reducible exact FE.drew ((H.out.p0 _).e)); rintro ee wz ⟨r, rfl, hr, hs, hcz⟩; replace hcz := Lib.hid hcz; (obtain ⟨d, m, wd, lf, A, n, c, xs, h⟩ := hs; replace H := Lib.hid h; have hlz := H.out.lt; (try clear k0 k1 k2 k3 k4 f0 f1 f2 f3 f4); obtain ⟨k0, k1, k2, k3, k4, f0, f1, f2, f3, f4⟩ := f5_cells H.out.box; (try clear z0 z1 z2 z3 z4 y0 y1 y2 y3 y4); obtain ⟨z0, z1, z2, z3, z4, y0, y1, y2, y3, y4⟩ := f5_cells H.out.res; clear h)))
          go_roundw
          case rel => exact ⟨_, N - 1, rfl, by go_num, by omega, by omega, H.out.e.mono (by omega)⟩
          case measure => simp [intOf]; omega
        · go_wp2_with (first | (go_at_call 50; (with_reducible refine Calls.mono (FE.next (B := B) (w := w) (fb := fb) (k := k) ?_ _) ?_); (first | with_reducible exact H9.out.e | with_reducible exact FE.drew (H9.out.e) | with_reducible exact H.out.e | with_reducible exact FE.drew (H.out.e) | with_reducible exact (H.out.p1 _).e | with_reducible exact FE.drew ((H.out.p1 _).e) | with_reducible exact ((H.out.p1 _).p2 _).e | with_reducible exact FE.drew (((H.out.p1 _).p2 _).e) | with_reducible exact (H.out.p3 _).e | with_reducible exact FE.drew ((H.out.p3 _).e) | with_reducible exact (H.out.p0 _).e | with_reducible exact FE.drew ((H.out.p0 _).e)); rintro ee wz ⟨r, rfl, hr, hs, hcz⟩; replace hcz := Lib.hid hcz; (obtain ⟨d, m, wd, lf, A, n, c, xs, h⟩ := hs; replace H := Lib.hid h; have hlz := H.out.lt; (try clear k0 k1 k2 k3 k4 f0 f1 f2 f3 f4); obtain ⟨k0, k1, k2, k3, k4, f0, f1, f2, f3, f4⟩ := f5_cells H.out.box; (try clear z0 z1 z2 z3 z4 y0 y1 y2 y3 y4); obtain ⟨z0, z1, z2, z3, z4, y0, y1, y2, y3, y4⟩ := f5_cells H.out.res; clear h)) | (at_builtin; refine wpl_app_intL rfl _ _ rfl (w.heap.size + 1) xs _ (by rfl) (H.out.own.alloc _) _ _ 1 (by rfl) ((Blk.new _ _ _).cell 0) (by have := H.out.len; omega) (by simp; omega) ?_; intro A3 m3 c3 w3 ho3 hg3 hq3; obtain ⟨hb3, hr3, h9⟩ := H.out.app ho3 hg3 hq3; have H9 := Lib.hid h9; (try clear k0 k1 k2 k3 k4 f0 f1 f2 f3 f4); obtain ⟨k0, k1, k2, k3, k4, f0, f1, f2, f3, f4⟩ := f5_cells hb3; (try clear z0 z1 z2 z3 z4 y0 y1 y2 y3 y4); obtain ⟨z0, z1, z2, z3, z4, y0, y1, y2, y3, y4⟩ := f5_cells hr3; have hl3 := hb3.lt; clear ho3 hg3 hq3 hb3 hr3 h9))
          focus (refine Calls.mono (FE.pick (B := B) (w := w) (fb := fb) (k := k) ?_ [-1, 35999, 36000, wrap64 (d - 1)] _ rfl _ rfl (by omega)) ?_; (first | with_reducible exact H9.out.e | with_reducible exact FE.drew (H9.out.e) | with_reducible exact H.out.e | with_reducible exact FE.drew (H.out.e) | with_reducible exact (H.out.p1 _).e | with_reducible exact FE.drew ((H.out.p1 _).e) | with_reducible exact ((H.out.p1 _).p2 _).e | with_reducible exact FE.drew (((H.out.p1 _).p2 _).e) | with_reducible exact (H.out.p3 _).e | with_reducible exact FE.drew ((H.out.p3 _).e) | with_reducible exact (H.out.p0 _).e | with_reducible exact FE.drew ((H.out.p0 _).e)); rintro ee wz ⟨r, rfl, hs⟩; (obtain ⟨d, m, wd, lf, A, n, c, xs, h⟩ := hs; replace H := Lib.hid h; have hlz := H.out.lt; (try clear k0 k1 k2 k3 k4 f0 f1 f2 f3 f4); obtain ⟨k0, k1, k2, k3, k4, f0, f1, f2, f3, f4⟩ := f5_cells H.out.box; (try clear z0 z1 z2 z3 z4 y0 y1 y2 y3 y4); obtain ⟨z0, z1, z2, z3, z4, y0, y1, y2, y3, y4⟩ := f5_cells H.out.res; clear h); have tkp0 : True := trivial; go_wp2_with fail)
          all_goals (try (go_region_held3 (fun W' => W'.cell? ⟨fb, 0, none⟩ = some (.int .i64 (d))) (first | exact k0 | assumption | (rw [hcz.out]; assumption) | (rw [hcz.out]; exact k0) | (refine Eq.trans (World.cell?_setCell_other _ _ _ _ (by simp)) ?_; first | exact k0 | assumption)) (first | (go_at_call 50; (with_reducible refine Calls.mono (FE.next (B := B) (w := w) (fb := fb) (k := k) ?_ _) ?_); (first | with_reducible exact H9.out.e | with_reducible exact FE.drew (H9.out.e) | with_reducible exact H.out.e | with_reducible exact FE.drew (H.out.e) | with_reducible exact (H.out.p1 _).e | with_reducible exact FE.drew ((H.out.p1 _).e) | with_reducible exact ((H.out.p1 _).p2 _).e | with_reducible exact FE.drew (((H.out.p1 _).p2 _).e) | with_reducible exact (H.out.p3 _).e | with_reducible exact FE.drew ((H.out.p3 _).e) | with_reducible exact (H.out.p0 _).e | with_reducible exact FE.drew ((H.out.p0 _).e)); rintro ee wz ⟨r, rfl, hr, hs, hcz⟩; replace hcz := Lib.hid hcz; (obtain ⟨d, m, wd, lf, A, n, c, xs, h⟩ := hs; replace H := Lib.hid h; have hlz := H.out.lt; (try clear k0 k1 k2 k3 k4 f0 f1 f2 f3 f4); obtain ⟨k0, k1, k2, k3, k4, f0, f1, f2, f3, f4⟩ := f5_cells H.out.box; (try clear z0 z1 z2 z3 z4 y0 y1 y2 y3 y4); obtain ⟨z0, z1, z2, z3, z4, y0, y1, y2, y3, y4⟩ := f5_cells H.out.res; clear h))); have tkp3 : True := trivial; go_wp2_with fail))
          all_goals (try simp only [Exit.inBlock, Exit.then])
          all_goals clear hcz hr S0 G0
          all_goals first
            | (have hq := H9; refine bodyPost_ret (by simp [results, Try.results65, go_sem, *]; exact ⟨rfl, rfl, rfl, rfl⟩) rfl ⟨_, _, _, _, A3, m3, c3, _, rfl, FS.fin H9.out (by omega) _ _ _ _ _⟩)
            | (have hq := tkp0; refine bodyPost_ret (by simp [results, Try.results65, go_sem, *]; exact ⟨rfl, rfl, rfl, rfl⟩) rfl ⟨_, _, _, _, A, n, c, xs, rfl, FS.fin (H.out.p0 _) (by omega) _ _ _ _ _⟩)
            | (have hq := tkp3; refine bodyPost_ret (by simp [results, Try.results65, go_sem, *]; exact ⟨rfl, rfl, rfl, rfl⟩) rfl ⟨_, _, _, _, A, n, c, xs, rfl, FS.fin (H.out.p3 _) (by omega) _ _ _ _ _⟩)
            | (refine bodyPost_ret (by simp [results, Try.results65, go_sem, *]; exact ⟨rfl, rfl, rfl, rfl⟩) rfl ⟨_, _, _, _, A, n, c, xs, rfl, FS.fin H.out (by omega) _ _ _ _ _⟩)
end Go.Proofs.Ytmgaooinkdmpbaa
