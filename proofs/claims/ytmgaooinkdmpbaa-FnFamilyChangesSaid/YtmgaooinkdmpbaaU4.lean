/-
  Draws of chapter 14, the rest: a family and a month, rates, and what the laws of families draw.
-/
import Derived.Test.YtmgaooinkdmpbaaT4
import Derived.Test.YtmgaooinkdmpbaaQ
set_option linter.unusedSimpArgs false
set_option linter.unusedVariables false
namespace Go.Proofs.Ytmgaooinkdmpbaa
open Go.RowKit
theorem own_rowK {w : World} {base : Nat} {v : Value} {zs : List Int} (h : OwI w base v zs) : ∀ g, v.ownBlock = some g → g < w.heap.size := by
  intro g e
  rcases h.form with ⟨h1, _⟩ | ⟨g', cap, h1, h2, h3, _⟩
  · rw [h1] at e; cases e
  · rw [h1] at e
    simp only [Value.ownBlock, Option.some.injEq] at e
    omega
theorem FE.pickC {B g : Nat} {w : World} {fb k : Nat} {W : World} (h : FE B g w fb k W) (zs : List Int) (cs : Array Value) (hcs : cs = (zs.map (Value.int .i64)).toArray) (q : Nat) (hq : zs.length = q) (hq0 : 0 < q) (b : Nat) (hb : b = W.heap.size) : Calls Try.prog 51 #[.pointer (some ⟨g, 0, none⟩), .slice (some ⟨b, 0, none⟩) q q] (W.alloc (.cells cs 2)) (fun e w' => ∃ r, e = .returned (.int .i64 r) ∧ FE B g w fb k w' ∧ ∀ i, w'.cell? ⟨fb, i, none⟩ = W.cell? ⟨fb, i, none⟩) := by
  subst hb
  obtain ⟨d, m, wd, lf, A, n, c, xs, h⟩ := h
  have hl := h.lt
  refine (pick_any B g _ _ _ zs _ (h.src.alloc _) (rd_litD _ _ _ _ hcs _ hq) (by rintro ad ⟨rfl⟩; have := h.src.lt; simp only; omega) hq0).mono fun _ w' ⟨r, h1, _, h3, h4⟩ => ⟨r, h1, ⟨_, _, _, _, _, _, _, _, (h.alloc _).step h3 h4⟩, fun i => ?_⟩
  rw [(gcell h4).1 fb i (Nat.lt_trans h.hg h.hb) (by simp; omega)]
  exact World.cell?_alloc_lt W _ _ hl
theorem FE.pickD {B g : Nat} {w : World} {fb k : Nat} {W : World} (h : FE B g w fb k W) (zs : List Int) (cs : Array Value) (hcs : cs = (zs.map (Value.int .i64)).toArray) (q : Nat) (hq : zs.length = q) (hq0 : 0 < q) (b : Nat) (hb : b = W.heap.size) : Calls Try.prog 51 #[.pointer (some ⟨g, 0, none⟩), .slice (some ⟨b, 0, none⟩) q q] (W.alloc (.cells cs 2)).drew (fun e w' => ∃ r, e = .returned (.int .i64 r) ∧ FE B g w fb k w' ∧ ∀ i, w'.cell? ⟨fb, i, none⟩ = W.cell? ⟨fb, i, none⟩) :=
  FE.pickC h.drew zs cs hcs q hq hq0 b hb
set_option maxHeartbeats 4000000 in
set_option maxRecDepth 100000 in
theorem l14DrawMonth_any (B g : Nat) (w : World) (h : Src B w g) : Calls Try.prog 49 #[.pointer (some ⟨g, 0, none⟩)] w (fun e w' => ∃ (d m wd lf : Int) (A : Option Addr) (n c : Nat) (xs : List Int) (x : Int), e = .returned (.tuple #[.agg #[.int .i64 d, .int .i64 m, .int .i64 wd, .int .i64 lf, .slice A n c], .int .i64 x]) ∧ OwI w' w.heap.size (.slice A n c) xs ∧ xs.length ≤ 10 ∧ Src B w' g ∧ w.grownBy w' (some g)) := by
  have hlt := h.lt
  have S0 := Lib.hid h
  clear h
  go_enter Try.func49, Try.ntmps49
  go_upto_region 1 with fail
  go_cut [4] (fun s4 wx => ∃ (fb : Nat) (d m wd lf : Int) (A : Option Addr) (n c : Nat) (xs : List Int), s4 = .pointer (some ⟨fb, 0, none⟩) ∧ Hid (FS B g w fb 10 wx d m wd lf A n c xs))
  case first =>
    go_wp2_with (go_at_call 65; (with_reducible refine Calls.mono (l14Draw_any B g _ (S0.out.alloc _)) ?_); rintro ee w1 ⟨d, m, wd, lf, A, n, c, xs, rfl, ho, hx, hs, hg⟩; have O := Lib.hid ho; have S1 := Lib.hid hs; have G := Lib.hid hg; have hz1 := hg.size; clear ho hs hg)
    go_meet
    simp only [World.size_alloc] at hz1
    exact ⟨w1.heap.size, d, m, wd, lf, A, n, c, xs, rfl, S1.out.alloc _, grownBy_alloc (grownBy_tr (grownBy_alloc (World.grownBy.refl _ _) _) G.out) _, Blk.new _ _ _, (blk_far (Blk.new w _ _) G.out hlt).alloc _, (O.out.mono (by simp)).alloc _, hx, fun q e => (by have := own_rowK O.out q e; omega), hlt, by omega⟩
  case rest =>
    obtain ⟨fb, d, m, wd, lf, A, n, c, xs, rfl, H⟩ := hcut
    have hlz := H.out.lt
    have hgz := H.out.hg
    have hbz := H.out.hb
    (try clear k0 k1 k2 k3 k4 f0 f1 f2 f3 f4); obtain ⟨k0, k1, k2, k3, k4, f0, f1, f2, f3, f4⟩ := f5_cells H.out.box; (try clear z0 z1 z2 z3 z4 y0 y1 y2 y3 y4); obtain ⟨z0, z1, z2, z3, z4, y0, y1, y2, y3, y4⟩ := f5_cells H.out.res
    have HPK := Lib.hid (fun W (hW : FE B g w fb 10 W) (b : Nat) (hb : b = W.heap.size) => FE.pickD hW [-1, 0, 35999, 36000] #[.int .i64 (-1), .int .i64 0, .int .i64 35999, .int .i64 36000] rfl 4 rfl (by omega) b hb)
    go_wp2_with (go_at_call 50; (with_reducible refine Calls.mono (FE.next (B := B) (w := w) (fb := fb) (k := 10) ?_ _) ?_); (first | with_reducible exact H9.out.e | with_reducible exact FE.drew (H9.out.e) | with_reducible exact H.out.e | with_reducible exact FE.drew (H.out.e) | with_reducible exact (H.out.p1 _).e | with_reducible exact FE.drew ((H.out.p1 _).e) | with_reducible exact ((H.out.p1 _).p2 _).e | with_reducible exact FE.drew (((H.out.p1 _).p2 _).e) | with_reducible exact (H.out.p3 _).e | with_reducible exact FE.drew ((H.out.p3 _).e) | with_reducible exact (H.out.p0 _).e | with_reducible exact FE.drew ((H.out.p0 _).e)); rintro ee wz ⟨r, rfl, hr, hs, hcz⟩; (try have KC := Lib.hid (And.intro ((hcz 0).trans K0d.out.1) (And.intro ((hcz 1).trans K0d.out.2.1) (And.intro ((hcz 2).trans K0d.out.2.2.1) (And.intro ((hcz 3).trans K0d.out.2.2.2.1) ((hcz 4).trans K0d.out.2.2.2.2)))))); replace hcz := Lib.hid hcz; (obtain ⟨d, m, wd, lf, A, n, c, xs, h⟩ := hs; replace H := Lib.hid h; have hlz := H.out.lt; (try clear k0 k1 k2 k3 k4 f0 f1 f2 f3 f4); obtain ⟨k0, k1, k2, k3, k4, f0, f1, f2, f3, f4⟩ := f5_cells H.out.box; (try clear z0 z1 z2 z3 z4 y0 y1 y2 y3 y4); obtain ⟨z0, z1, z2, z3, z4, y0, y1, y2, y3, y4⟩ := f5_cells H.out.res; clear h))
    all_goals (have K0d : Hid ((fun W' => W'.cell? ⟨fb, 0, none⟩ = some (.int .i64 d) ∧ W'.cell? ⟨fb, 1, none⟩ = some (.int .i64 m) ∧ W'.cell? ⟨fb, 2, none⟩ = some (.int .i64 wd) ∧ W'.cell? ⟨fb, 3, none⟩ = some (.int .i64 lf) ∧ W'.cell? ⟨fb, 4, none⟩ = some (.slice A n c)) wz.drew) := Lib.hid ⟨k0, k1, k2, k3, k4⟩; focus (go_region_held3 (fun W' => W'.cell? ⟨fb, 0, none⟩ = some (.int .i64 d) ∧ W'.cell? ⟨fb, 1, none⟩ = some (.int .i64 m) ∧ W'.cell? ⟨fb, 2, none⟩ = some (.int .i64 wd) ∧ W'.cell? ⟨fb, 3, none⟩ = some (.int .i64 lf) ∧ W'.cell? ⟨fb, 4, none⟩ = some (.slice A n c)) (first | with_reducible exact K0d.out | with_reducible exact KC.out | (refine ⟨?_, ?_, ?_, ?_, ?_⟩ <;> (repeat (with_reducible refine (World.cell?_setCell_far _ _ _ _ (by show w.heap.size ≠ fb; omega)).trans ?_)) <;> first | with_reducible exact KC.out.1 | with_reducible exact KC.out.2.1 | with_reducible exact KC.out.2.2.1 | with_reducible exact KC.out.2.2.2.1 | with_reducible exact KC.out.2.2.2.2) | (simp [go_sem, k0, k1, k2, k3, k4, hlz]; done)) (first | (go_at_call 50; (with_reducible refine Calls.mono (FE.next (B := B) (w := w) (fb := fb) (k := 10) ?_ _) ?_); (first | with_reducible exact H9.out.e | with_reducible exact FE.drew (H9.out.e) | with_reducible exact H.out.e | with_reducible exact FE.drew (H.out.e) | with_reducible exact (H.out.p1 _).e | with_reducible exact FE.drew ((H.out.p1 _).e) | with_reducible exact ((H.out.p1 _).p2 _).e | with_reducible exact FE.drew (((H.out.p1 _).p2 _).e) | with_reducible exact (H.out.p3 _).e | with_reducible exact FE.drew ((H.out.p3 _).e) | with_reducible exact (H.out.p0 _).e | with_reducible exact FE.drew ((H.out.p0 _).e)); rintro ee wz ⟨r, rfl, hr, hs, hcz⟩; (try have KC := Lib.hid (And.intro ((hcz 0).trans K0d.out.1) (And.intro ((hcz 1).trans K0d.out.2.1) (And.intro ((hcz 2).trans K0d.out.2.2.1) (And.intro ((hcz 3).trans K0d.out.2.2.2.1) ((hcz 4).trans K0d.out.2.2.2.2)))))); replace hcz := Lib.hid hcz; (obtain ⟨d, m, wd, lf, A, n, c, xs, h⟩ := hs; replace H := Lib.hid h; have hlz := H.out.lt; (try clear k0 k1 k2 k3 k4 f0 f1 f2 f3 f4); obtain ⟨k0, k1, k2, k3, k4, f0, f1, f2, f3, f4⟩ := f5_cells H.out.box; (try clear z0 z1 z2 z3 z4 y0 y1 y2 y3 y4); obtain ⟨z0, z1, z2, z3, z4, y0, y1, y2, y3, y4⟩ := f5_cells H.out.res; clear h)) | (go_at_call 51; (with_reducible refine Calls.mono (HPK.out _ ?_ _ ?_) ?_); (first | with_reducible exact H9.out.e | with_reducible exact FE.drew (H9.out.e) | with_reducible exact H.out.e | with_reducible exact FE.drew (H.out.e) | with_reducible exact (H.out.p1 _).e | with_reducible exact FE.drew ((H.out.p1 _).e) | with_reducible exact ((H.out.p1 _).p2 _).e | with_reducible exact FE.drew (((H.out.p1 _).p2 _).e) | with_reducible exact (H.out.p3 _).e | with_reducible exact FE.drew ((H.out.p3 _).e) | with_reducible exact (H.out.p0 _).e | with_reducible exact FE.drew ((H.out.p0 _).e)); (first | with_reducible rfl | exact (World.size_drew _).symm | (simp; done)); rintro ee wz ⟨r, rfl, hs, hcz⟩; have KC := Lib.hid (And.intro ((hcz 0).trans K0d.out.1) (And.intro ((hcz 1).trans K0d.out.2.1) (And.intro ((hcz 2).trans K0d.out.2.2.1) (And.intro ((hcz 3).trans K0d.out.2.2.2.1) ((hcz 4).trans K0d.out.2.2.2.2))))); replace hcz := Lib.hid hcz; (obtain ⟨d, m, wd, lf, A, n, c, xs, h⟩ := hs; replace H := Lib.hid h; have hlz := H.out.lt; (try clear k0 k1 k2 k3 k4 f0 f1 f2 f3 f4); obtain ⟨k0, k1, k2, k3, k4, f0, f1, f2, f3, f4⟩ := f5_cells H.out.box; (try clear z0 z1 z2 z3 z4 y0 y1 y2 y3 y4); obtain ⟨z0, z1, z2, z3, z4, y0, y1, y2, y3, y4⟩ := f5_cells H.out.res; clear h)))))
    all_goals
      (have e0 := KC.out.1.symm.trans k0; simp only [Option.some.injEq, Value.int.injEq, Value.slice.injEq, true_and] at e0)
      (have e1 := KC.out.2.1.symm.trans k1; simp only [Option.some.injEq, Value.int.injEq, Value.slice.injEq, true_and] at e1)
      (have e2 := KC.out.2.2.1.symm.trans k2; simp only [Option.some.injEq, Value.int.injEq, Value.slice.injEq, true_and] at e2)
      (have e3 := KC.out.2.2.2.1.symm.trans k3; simp only [Option.some.injEq, Value.int.injEq, Value.slice.injEq, true_and] at e3)
      (have e4 := KC.out.2.2.2.2.symm.trans k4; simp only [Option.some.injEq, Value.int.injEq, Value.slice.injEq, true_and] at e4)
      obtain ⟨e4, e5, e6⟩ := e4
      subst e0 e1 e2 e3 e4 e5 e6
      clear hcz K0d KC S0
      go_wp2_with fail
      (try simp only [Exit.inBlock, Exit.then])
      refine bodyPost_ret (by simp [results, Try.results49, go_sem, *]; exact ⟨⟨rfl, rfl, rfl, rfl⟩, rfl⟩) rfl ⟨_, _, _, _, _, _, _, _, _, rfl, FS.fin H.out (by omega) _ _ _ _ _⟩
set_option maxHeartbeats 1000000 in
theorem l14DrawRate_any (B g : Nat) (w : World) (h : Src B w g) : Calls Try.prog 52 #[.pointer (some ⟨g, 0, none⟩)] w (fun e w' => ∃ r : Int, e = .returned (.int .i64 r) ∧ Src B w' g ∧ w.grownBy w' (some g)) := by
  have S := Lib.hid h
  have G : Hid (w.grownBy w (some g)) := World.grownBy.refl _ _
  clear h
  go_enter Try.func52, Try.ntmps52
  go_wp2_with (first | (go_at_call 50; (with_reducible refine Calls.mono (next_any B g _ _ S.out) ?_); rintro ee wz ⟨r, rfl, hr, hs, hg⟩; replace S := Lib.hid hs; replace G := Lib.hid (grownBy_tr G.out hg); clear hs hg hr) | (go_at_call 51; (with_reducible refine Calls.mono (pick_any B g _ _ _ [-1, 0, 1000000, 1000001] _ (S.out.alloc _) (rd_litD _ _ _ _ rfl _ rfl) (by rintro ad ⟨rfl⟩; have := S.out.lt; simp only; omega) (by omega)) ?_); rintro ee wz ⟨r, rfl, hm, hs, hg⟩; replace S := Lib.hid hs; replace G := Lib.hid (grownBy_tr (grownBy_alloc G.out _) hg); clear hs hg hm))
  all_goals go_returns
  all_goals exact ⟨_, rfl, S.out, G.out⟩
theorem blk_near {w w1 : World} {g g' : Nat} {t : TypeId} {cs : Array Value} (h : Blk w g t cs) (hg : w.grownBy w1 (some g')) (hne : g < g') : Blk w1 g t cs := Blk.grown h hg (fun e => by injection e with e; omega)
set_option maxHeartbeats 1000000 in
set_option maxRecDepth 100000 in
theorem drawNextChange_any (A0 : Option Addr) (n0 c0 : Nat) (w : World) (hC : ∀ W, Below w.heap.size w W → Code' W.heap.size W A0 n0) : Calls Try.prog 28 #[.slice A0 n0 c0] w (fun e w' => ∃ (d m wd lf : Int) (A : Option Addr) (n c : Nat) (xs : List Int)(x : Int), e = .returned (.tuple #[.agg #[.int .i64 d, .int .i64 m, .int .i64 wd, .int .i64 lf, .slice A n c], .int .i64 x]) ∧ OwI w' w.heap.size (.slice A n c) xs ∧ xs.length ≤ 10 ∧ Below w.heap.size w w') := by
  have HF := Lib.hid (fun W hb => from_any A0 n0 c0 W (hC W hb)); have HZ : Hid (Blk (w.alloc (.cells #[.int .i64 0, .int .i64 0, .int .i64 0, .int .i64 0, .slice none 0 0] 26)) w.heap.size 26 #[.int .i64 0, .int .i64 0, .int .i64 0, .int .i64 0, .slice none 0 0]) := Blk.new _ _ _; clear hC
  go_enter Try.func28, Try.ntmps28
  go_wp2_with (first | (go_at_call 48; (with_reducible refine Calls.mono (HF.out _ (al_ _ _)) ?_); rintro ee w1 ⟨g, rfl, hs, hb⟩; have hBg := hs.1; (simp only [World.size_alloc] at hBg); have hgl := hs.lt; have S := Lib.hid hs; have hB : Below w.heap.size w w1 := bel_step (al_ _ _) hb; replace HZ := Lib.hid (HZ.out.below hb (by simp)); clear hs hb) | (go_at_call 49; (with_reducible refine Calls.mono (l14DrawMonth_any _ g _ S.out) ?_); rintro ee w2 ⟨d, m, wd, lf, A, n, c, xs, x, rfl, ho, hx, hs, hg⟩; replace S := Lib.hid hs; have O := Lib.hid ho; replace hB := belowG hB hg (by omega) hB.size; replace HZ := Lib.hid (blk_near HZ.out hg (by omega)); have hz2 := hg.size; clear hs ho hg; (try clear z0 z1 z2 z3 z4 y0 y1 y2 y3 y4); obtain ⟨z0, z1, z2, z3, z4, y0, y1, y2, y3, y4⟩ := f5_cells HZ.out; have hzl := HZ.out.lt))
  (try simp only [Exit.inBlock, Exit.then]); refine bodyPost_ret (v := .tuple #[.agg #[.int .i64 d, .int .i64 m, .int .i64 wd, .int .i64 lf, .slice A n c], .int .i64 x]) (by simp [results, Try.results28, go_sem, *]) rfl ⟨d, m, wd, lf, A, n, c, xs, x,rfl, ?_, hx, by go_grown⟩
  refine OwI.mono (base := w1.heap.size) ?_ (by omega)
  repeat (refine OwI.store ?_ (by show w.heap.size < w1.heap.size; omega) _)
  exact O.out
set_option maxHeartbeats 1000000 in
set_option maxRecDepth 100000 in
theorem drawRemarry_any (A0 : Option Addr) (n0 c0 : Nat) (w : World) (hC : ∀ W, Below w.heap.size w W → Code' W.heap.size W A0 n0) : Calls Try.prog 34 #[.slice A0 n0 c0] w (fun e w' => ∃ (d m wd lf : Int) (A : Option Addr) (n c : Nat) (xs : List Int)(x : Int), e = .returned (.tuple #[.agg #[.int .i64 d, .int .i64 m, .int .i64 wd, .int .i64 lf, .slice A n c], .int .i64 x]) ∧ OwI w' w.heap.size (.slice A n c) xs ∧ xs.length ≤ 10 ∧ Below w.heap.size w w') := by
  have HF := Lib.hid (fun W hb => from_any A0 n0 c0 W (hC W hb)); have HZ : Hid (Blk (w.alloc (.cells #[.int .i64 0, .int .i64 0, .int .i64 0, .int .i64 0, .slice none 0 0] 26)) w.heap.size 26 #[.int .i64 0, .int .i64 0, .int .i64 0, .int .i64 0, .slice none 0 0]) := Blk.new _ _ _; clear hC
  go_enter Try.func34, Try.ntmps34
  go_wp2_with (first | (go_at_call 48; (with_reducible refine Calls.mono (HF.out _ (al_ _ _)) ?_); rintro ee w1 ⟨g, rfl, hs, hb⟩; have hBg := hs.1; (simp only [World.size_alloc] at hBg); have hgl := hs.lt; have S := Lib.hid hs; have hB : Below w.heap.size w w1 := bel_step (al_ _ _) hb; replace HZ := Lib.hid (HZ.out.below hb (by simp)); clear hs hb) | (go_at_call 49; (with_reducible refine Calls.mono (l14DrawMonth_any _ g _ S.out) ?_); rintro ee w2 ⟨d, m, wd, lf, A, n, c, xs, x, rfl, ho, hx, hs, hg⟩; replace S := Lib.hid hs; have O := Lib.hid ho; replace hB := belowG hB hg (by omega) hB.size; replace HZ := Lib.hid (blk_near HZ.out hg (by omega)); have hz2 := hg.size; clear hs ho hg; (try clear z0 z1 z2 z3 z4 y0 y1 y2 y3 y4); obtain ⟨z0, z1, z2, z3, z4, y0, y1, y2, y3, y4⟩ := f5_cells HZ.out; have hzl := HZ.out.lt))
  (try simp only [Exit.inBlock, Exit.then]); refine bodyPost_ret (v := .tuple #[.agg #[.int .i64 d, .int .i64 m, .int .i64 wd, .int .i64 lf, .slice A n c], .int .i64 x]) (by simp [results, Try.results34, go_sem, *]) rfl ⟨d, m, wd, lf, A, n, c, xs, x,rfl, ?_, hx, by go_grown⟩
  refine OwI.mono (base := w1.heap.size) ?_ (by omega)
  repeat (refine OwI.store ?_ (by show w.heap.size < w1.heap.size; omega) _)
  exact O.out
set_option maxHeartbeats 1000000 in
set_option maxRecDepth 100000 in
theorem drawEndOfPensions_any (A0 : Option Addr) (n0 c0 : Nat) (w : World) (hC : ∀ W, Below w.heap.size w W → Code' W.heap.size W A0 n0) : Calls Try.prog 31 #[.slice A0 n0 c0] w (fun e w' => ∃ (d m wd lf : Int) (A : Option Addr) (n c : Nat) (xs : List Int), e = .returned (.agg #[.int .i64 d, .int .i64 m, .int .i64 wd, .int .i64 lf, .slice A n c]) ∧ OwI w' w.heap.size (.slice A n c) xs ∧ xs.length ≤ 10 ∧ Below w.heap.size w w') := by
  have HF := Lib.hid (fun W hb => from_any A0 n0 c0 W (hC W hb)); have HZ : Hid (Blk (w.alloc (.cells #[.int .i64 0, .int .i64 0, .int .i64 0, .int .i64 0, .slice none 0 0] 26)) w.heap.size 26 #[.int .i64 0, .int .i64 0, .int .i64 0, .int .i64 0, .slice none 0 0]) := Blk.new _ _ _; clear hC
  go_enter Try.func31, Try.ntmps31
  go_wp2_with (first | (go_at_call 48; (with_reducible refine Calls.mono (HF.out _ (al_ _ _)) ?_); rintro ee w1 ⟨g, rfl, hs, hb⟩; have hBg := hs.1; (simp only [World.size_alloc] at hBg); have hgl := hs.lt; have S := Lib.hid hs; have hB : Below w.heap.size w w1 := bel_step (al_ _ _) hb; replace HZ := Lib.hid (HZ.out.below hb (by simp)); clear hs hb) | (go_at_call 65; (with_reducible refine Calls.mono (l14Draw_any _ g _ S.out) ?_); rintro ee w2 ⟨d, m, wd, lf, A, n, c, xs, rfl, ho, hx, hs, hg⟩; replace S := Lib.hid hs; have O := Lib.hid ho; replace hB := belowG hB hg (by omega) hB.size; replace HZ := Lib.hid (blk_near HZ.out hg (by omega)); have hz2 := hg.size; clear hs ho hg; (try clear z0 z1 z2 z3 z4 y0 y1 y2 y3 y4); obtain ⟨z0, z1, z2, z3, z4, y0, y1, y2, y3, y4⟩ := f5_cells HZ.out; have hzl := HZ.out.lt))
  (try simp only [Exit.inBlock, Exit.then]); refine bodyPost_ret (v := .agg #[.int .i64 d, .int .i64 m, .int .i64 wd, .int .i64 lf, .slice A n c]) (by simp [results, Try.results31, go_sem, *]) rfl ⟨d, m, wd, lf, A, n, c, xs, rfl, ?_, hx, by go_grown⟩
  refine OwI.mono (base := w1.heap.size) ?_ (by omega)
  repeat (refine OwI.store ?_ (by show w.heap.size < w1.heap.size; omega) _)
  exact O.out
theorem keep5 {W W' : World} {g fb : Nat} {d m wd lf : Int} {A : Option Addr} {n c : Nat} (h : ((fun W' : World => W'.cell? ⟨fb, 0, none⟩ = some (.int .i64 d) ∧ W'.cell? ⟨fb, 1, none⟩ = some (.int .i64 m) ∧ W'.cell? ⟨fb, 2, none⟩ = some (.int .i64 wd) ∧ W'.cell? ⟨fb, 3, none⟩ = some (.int .i64 lf) ∧ W'.cell? ⟨fb, 4, none⟩ = some (.slice A n c))) W) (hg : W.grownBy W' (some g)) (hlt : g < fb) : ((fun W' : World => W'.cell? ⟨fb, 0, none⟩ = some (.int .i64 d) ∧ W'.cell? ⟨fb, 1, none⟩ = some (.int .i64 m) ∧ W'.cell? ⟨fb, 2, none⟩ = some (.int .i64 wd) ∧ W'.cell? ⟨fb, 3, none⟩ = some (.int .i64 lf) ∧ W'.cell? ⟨fb, 4, none⟩ = some (.slice A n c))) W' := by
  have hl : fb < W.heap.size := World.block_lt_of_cell? _ _ h.1
  have hk : ∀ i, W'.cell? ⟨fb, i, none⟩ = W.cell? ⟨fb, i, none⟩ := fun i => (gcell hg).1 fb i hlt hl
  exact ⟨(hk 0).trans h.1, (hk 1).trans h.2.1, (hk 2).trans h.2.2.1, (hk 3).trans h.2.2.2.1, (hk 4).trans h.2.2.2.2⟩
theorem near5 {W W' : World} {g zb : Nat} {d m wd lf : Int} {A : Option Addr} {n c : Nat} (h : Blk W zb 26 #[.int .i64 d, .int .i64 m, .int .i64 wd, .int .i64 lf, .slice A n c]) (hg : W.grownBy W' (some g)) (hlt : zb < g) : Blk W' zb 26 #[.int .i64 d, .int .i64 m, .int .i64 wd, .int .i64 lf, .slice A n c] := blk_near h hg hlt
set_option maxHeartbeats 4000000 in
set_option maxRecDepth 100000 in
theorem drawPensionIn_any (A0 : Option Addr) (n0 c0 : Nat) (w : World) (hC : ∀ W, Below w.heap.size w W → Code' W.heap.size W A0 n0) : Calls Try.prog 17 #[.slice A0 n0 c0] w (fun e w' => ∃ (d m wd lf : Int) (A : Option Addr) (n c : Nat) (xs : List Int)(x r5 r6 : Int), e = .returned (.tuple #[.agg #[.int .i64 d, .int .i64 m, .int .i64 wd, .int .i64 lf, .slice A n c], .int .i64 x, .int .i64 r5, .int .i64 r6]) ∧ OwI w' w.heap.size (.slice A n c) xs ∧ xs.length ≤ 10 ∧ Below w.heap.size w w') := by
  have HF := Lib.hid (fun W hb => from_any A0 n0 c0 W (hC W hb)); have HZ : Hid (Blk (w.alloc (.cells #[.int .i64 0, .int .i64 0, .int .i64 0, .int .i64 0, .slice none 0 0] 26)) w.heap.size 26 #[.int .i64 0, .int .i64 0, .int .i64 0, .int .i64 0, .slice none 0 0]) := Blk.new _ _ _; clear hC
  go_enter Try.func17, Try.ntmps17
  go_wp2_with (first | (go_at_call 48; (with_reducible refine Calls.mono (HF.out _ (al_ _ _)) ?_); rintro ee w1 ⟨g, rfl, hs, hb⟩; have hBg := hs.1; (simp only [World.size_alloc] at hBg); have hgl := hs.lt; have S := Lib.hid hs; have hB : Below w.heap.size w w1 := bel_step (al_ _ _) hb; replace HZ := Lib.hid (HZ.out.below hb (by simp)); clear hs hb) | (go_at_call 49; (with_reducible refine Calls.mono (l14DrawMonth_any _ g _ S.out) ?_); rintro ee w2 ⟨d, m, wd, lf, A, n, c, xs, x, rfl, ho, hx, hs, hg⟩; replace S := Lib.hid hs; have O := Lib.hid ho; replace hB := belowG hB hg (by omega) hB.size; replace HZ := Lib.hid (blk_near HZ.out hg (by omega)); have hz2 := hg.size; clear hs ho hg; (try clear z0 z1 z2 z3 z4 y0 y1 y2 y3 y4); obtain ⟨z0, z1, z2, z3, z4, y0, y1, y2, y3, y4⟩ := f5_cells HZ.out; have hzl := HZ.out.lt))
  obtain ⟨fb, hfb⟩ : ∃ fb, w2.heap.size = fb := ⟨_, rfl⟩
  obtain ⟨w4, hw4⟩ : ∃ w4, w2.alloc (.cells #[.int .i64 d, .int .i64 m, .int .i64 wd, .int .i64 lf, .slice A n c] 26) = w4 := ⟨_, rfl⟩
  have HB : Hid (Blk w4 fb 26 #[.int .i64 d, .int .i64 m, .int .i64 wd, .int .i64 lf, .slice A n c]) := Lib.hid (by rw [← hw4, ← hfb]; exact Blk.new _ _ _)
  replace S := Lib.hid (hw4 ▸ S.out.alloc (.cells #[.int .i64 d, .int .i64 m, .int .i64 wd, .int .i64 lf, .slice A n c] 26))
  replace HZ := Lib.hid (hw4 ▸ HZ.out.alloc (.cells #[.int .i64 d, .int .i64 m, .int .i64 wd, .int .i64 lf, .slice A n c] 26))
  replace O := Lib.hid (hw4 ▸ O.out.alloc (.cells #[.int .i64 d, .int .i64 m, .int .i64 wd, .int .i64 lf, .slice A n c] 26))
  replace hB := hw4 ▸ hB.alloc hB.size (.cells #[.int .i64 d, .int .i64 m, .int .i64 wd, .int .i64 lf, .slice A n c] 26)
  rw [hw4, hfb]
  (try clear z0 z1 z2 z3 z4 y0 y1 y2 y3 y4); obtain ⟨z0, z1, z2, z3, z4, y0, y1, y2, y3, y4⟩ := f5_cells HZ.out; have hzl := HZ.out.lt
  obtain ⟨k0, k1, k2, k3, k4, -⟩ := f5_cells HB.out
  have hlz := HB.out.lt
  have KD0 : Hid (((fun W' : World => W'.cell? ⟨fb, 0, none⟩ = some (.int .i64 d) ∧ W'.cell? ⟨fb, 1, none⟩ = some (.int .i64 m) ∧ W'.cell? ⟨fb, 2, none⟩ = some (.int .i64 wd) ∧ W'.cell? ⟨fb, 3, none⟩ = some (.int .i64 lf) ∧ W'.cell? ⟨fb, 4, none⟩ = some (.slice A n c))) w4) := Lib.hid ⟨k0, k1, k2, k3, k4⟩
  have K0d : Hid (((fun W' : World => W'.cell? ⟨fb, 0, none⟩ = some (.int .i64 d) ∧ W'.cell? ⟨fb, 1, none⟩ = some (.int .i64 m) ∧ W'.cell? ⟨fb, 2, none⟩ = some (.int .i64 wd) ∧ W'.cell? ⟨fb, 3, none⟩ = some (.int .i64 lf) ∧ W'.cell? ⟨fb, 4, none⟩ = some (.slice A n c))) w4.drew) := Lib.hid ⟨k0, k1, k2, k3, k4⟩
  have tok5 : True := trivial
  have tok6 : True := trivial
  go_region_held3 (fun W' : World => W'.cell? ⟨fb, 0, none⟩ = some (.int .i64 d) ∧ W'.cell? ⟨fb, 1, none⟩ = some (.int .i64 m) ∧ W'.cell? ⟨fb, 2, none⟩ = some (.int .i64 wd) ∧ W'.cell? ⟨fb, 3, none⟩ = some (.int .i64 lf) ∧ W'.cell? ⟨fb, 4, none⟩ = some (.slice A n c)) (first | with_reducible exact K0d.out | with_reducible exact KD5.out | with_reducible exact KD6.out | (refine ⟨?_, ?_, ?_, ?_, ?_⟩ <;> (repeat (with_reducible refine (World.cell?_setCell_far _ _ _ _ (by show w.heap.size ≠ fb; omega)).trans ?_)) <;> first | with_reducible exact KD6.out.1 | with_reducible exact KD6.out.2.1 | with_reducible exact KD6.out.2.2.1 | with_reducible exact KD6.out.2.2.2.1 | with_reducible exact KD6.out.2.2.2.2)) (first | (go_at_call 52; clear tok5; (with_reducible refine Calls.mono (l14DrawRate_any (w.alloc (.cells #[.int .i64 0, .int .i64 0, .int .i64 0, .int .i64 0, .slice none 0 0] 26)).heap.size g _ ?_) ?_); (first | with_reducible exact S.out | exact S.out.drewN 1); rintro ee w5 ⟨r5, rfl, hs, hg⟩; (try replace hg := grownBy_tr (a := w4) (grownBy_drewN (World.grownBy.refl _ _) 1) hg); replace S := Lib.hid hs; have KD5 := Lib.hid (keep5 (g := g) (fb := fb) KD0.out hg (by omega)); replace HZ := Lib.hid (blk_near HZ.out hg (by omega)); replace O := Lib.hid (O.out.far hg (by omega)); replace hB := belowG hB hg (by omega) hB.size; clear hs hg; (try clear z0 z1 z2 z3 z4 y0 y1 y2 y3 y4); obtain ⟨z0, z1, z2, z3, z4, y0, y1, y2, y3, y4⟩ := f5_cells HZ.out; have hzl := HZ.out.lt) | (go_at_call 52; clear tok6; (with_reducible refine Calls.mono (l14DrawRate_any (w.alloc (.cells #[.int .i64 0, .int .i64 0, .int .i64 0, .int .i64 0, .slice none 0 0] 26)).heap.size g _ ?_) ?_); (first | with_reducible exact S.out | exact S.out.drewN 1); rintro ee w6 ⟨r6, rfl, hs, hg⟩; (try replace hg := grownBy_tr (a := w4) (grownBy_drewN (World.grownBy.refl _ _) 1) hg); replace S := Lib.hid hs; have KD6 := Lib.hid (keep5 (g := g) (fb := fb) KD5.out hg (by omega)); replace HZ := Lib.hid (blk_near HZ.out hg (by omega)); replace O := Lib.hid (O.out.far hg (by omega)); replace hB := belowG hB hg (by omega) hB.size; clear hs hg; (try clear z0 z1 z2 z3 z4 y0 y1 y2 y3 y4); obtain ⟨z0, z1, z2, z3, z4, y0, y1, y2, y3, y4⟩ := f5_cells HZ.out; have hzl := HZ.out.lt))
  go_wp2
  (try simp only [Exit.inBlock, Exit.then]); refine bodyPost_ret (v := .tuple #[.agg #[.int .i64 d, .int .i64 m, .int .i64 wd, .int .i64 lf, .slice A n c], .int .i64 x, .int .i64 r5, .int .i64 r6]) (by simp [results, Try.results17, go_sem, *]) rfl ⟨d, m, wd, lf, A, n, c, xs, x, r5, r6,rfl, ?_, hx, by go_grown⟩
  refine OwI.mono (base := w1.heap.size) ?_ (by omega)
  repeat (refine OwI.store ?_ (by show w.heap.size < w1.heap.size; omega) _)
  exact O.out
set_option maxHeartbeats 4000000 in
set_option maxRecDepth 100000 in
theorem drawPensionBetween_any (A0 : Option Addr) (n0 c0 : Nat) (w : World) (hC : ∀ W, Below w.heap.size w W → Code' W.heap.size W A0 n0) : Calls Try.prog 14 #[.slice A0 n0 c0] w (fun e w' => ∃ (d m wd lf : Int) (A : Option Addr) (n c : Nat) (xs : List Int)(x t r5 r6 : Int), e = .returned (.tuple #[.agg #[.int .i64 d, .int .i64 m, .int .i64 wd, .int .i64 lf, .slice A n c], .int .i64 x, .int .i64 t, .int .i64 r5, .int .i64 r6]) ∧ OwI w' w.heap.size (.slice A n c) xs ∧ xs.length ≤ 10 ∧ Below w.heap.size w w') := by
  have HF := Lib.hid (fun W hb => from_any A0 n0 c0 W (hC W hb)); have HZ : Hid (Blk (w.alloc (.cells #[.int .i64 0, .int .i64 0, .int .i64 0, .int .i64 0, .slice none 0 0] 26)) w.heap.size 26 #[.int .i64 0, .int .i64 0, .int .i64 0, .int .i64 0, .slice none 0 0]) := Blk.new _ _ _; clear hC
  go_enter Try.func14, Try.ntmps14
  go_wp2_with (first | (go_at_call 48; (with_reducible refine Calls.mono (HF.out _ (al_ _ _)) ?_); rintro ee w1 ⟨g, rfl, hs, hb⟩; have hBg := hs.1; (simp only [World.size_alloc] at hBg); have hgl := hs.lt; have S := Lib.hid hs; have hB : Below w.heap.size w w1 := bel_step (al_ _ _) hb; replace HZ := Lib.hid (HZ.out.below hb (by simp)); clear hs hb) | (go_at_call 49; (with_reducible refine Calls.mono (l14DrawMonth_any _ g _ S.out) ?_); rintro ee w2 ⟨d, m, wd, lf, A, n, c, xs, x, rfl, ho, hx, hs, hg⟩; replace S := Lib.hid hs; have O := Lib.hid ho; replace hB := belowG hB hg (by omega) hB.size; replace HZ := Lib.hid (blk_near HZ.out hg (by omega)); have hz2 := hg.size; clear hs ho hg; (try clear z0 z1 z2 z3 z4 y0 y1 y2 y3 y4); obtain ⟨z0, z1, z2, z3, z4, y0, y1, y2, y3, y4⟩ := f5_cells HZ.out; have hzl := HZ.out.lt))
  obtain ⟨fb, hfb⟩ : ∃ fb, w2.heap.size = fb := ⟨_, rfl⟩
  obtain ⟨w4, hw4⟩ : ∃ w4, w2.alloc (.cells #[.int .i64 d, .int .i64 m, .int .i64 wd, .int .i64 lf, .slice A n c] 26) = w4 := ⟨_, rfl⟩
  have HB : Hid (Blk w4 fb 26 #[.int .i64 d, .int .i64 m, .int .i64 wd, .int .i64 lf, .slice A n c]) := Lib.hid (by rw [← hw4, ← hfb]; exact Blk.new _ _ _)
  replace S := Lib.hid (hw4 ▸ S.out.alloc (.cells #[.int .i64 d, .int .i64 m, .int .i64 wd, .int .i64 lf, .slice A n c] 26))
  replace HZ := Lib.hid (hw4 ▸ HZ.out.alloc (.cells #[.int .i64 d, .int .i64 m, .int .i64 wd, .int .i64 lf, .slice A n c] 26))
  replace O := Lib.hid (hw4 ▸ O.out.alloc (.cells #[.int .i64 d, .int .i64 m, .int .i64 wd, .int .i64 lf, .slice A n c] 26))
  replace hB := hw4 ▸ hB.alloc hB.size (.cells #[.int .i64 d, .int .i64 m, .int .i64 wd, .int .i64 lf, .slice A n c] 26)
  rw [hw4, hfb]
  (try clear z0 z1 z2 z3 z4 y0 y1 y2 y3 y4); obtain ⟨z0, z1, z2, z3, z4, y0, y1, y2, y3, y4⟩ := f5_cells HZ.out; have hzl := HZ.out.lt
  obtain ⟨k0, k1, k2, k3, k4, -⟩ := f5_cells HB.out
  have KD0 : Hid (((fun W' : World => W'.cell? ⟨fb, 0, none⟩ = some (.int .i64 d) ∧ W'.cell? ⟨fb, 1, none⟩ = some (.int .i64 m) ∧ W'.cell? ⟨fb, 2, none⟩ = some (.int .i64 wd) ∧ W'.cell? ⟨fb, 3, none⟩ = some (.int .i64 lf) ∧ W'.cell? ⟨fb, 4, none⟩ = some (.slice A n c))) w4) := Lib.hid ⟨k0, k1, k2, k3, k4⟩
  clear HB hw4 k0 k1 k2 k3 k4
  go_wp2_with (first | (go_at_call 50; (with_reducible refine Calls.mono (next_any (w.alloc (.cells #[.int .i64 0, .int .i64 0, .int .i64 0, .int .i64 0, .slice none 0 0] 26)).heap.size g _ _ S.out) ?_); rintro ee w4 ⟨r, rfl, hr, hs, hg⟩; replace S := Lib.hid hs; replace KD0 := Lib.hid (keep5 (g := g) (fb := fb) KD0.out hg (by omega)); replace HZ := Lib.hid (blk_near HZ.out hg (by omega)); replace O := Lib.hid (O.out.far hg (by omega)); replace hB := belowG hB hg (by omega) hB.size; clear hs hg; (try clear z0 z1 z2 z3 z4 y0 y1 y2 y3 y4); obtain ⟨z0, z1, z2, z3, z4, y0, y1, y2, y3, y4⟩ := f5_cells HZ.out; have hzl := HZ.out.lt) | (go_at_call 51; (with_reducible refine Calls.mono (pick_any (w.alloc (.cells #[.int .i64 0, .int .i64 0, .int .i64 0, .int .i64 0, .slice none 0 0] 26)).heap.size g _ _ _ [wrap64 (x - 1), x, wrap64 (x + 1200), wrap64 (x + 1201)] _ (S.out.alloc _) (rd_litD _ _ _ _ rfl _ rfl) (by rintro ad ⟨rfl⟩; have := S.out.lt; simp only; omega) (by omega)) ?_); rintro ee w4 ⟨r, rfl, hm, hs, hg⟩; replace hg := grownBy_tr (grownBy_alloc (World.grownBy.refl _ (some g)) _) hg; replace S := Lib.hid hs; replace KD0 := Lib.hid (keep5 (g := g) (fb := fb) KD0.out hg (by omega)); replace HZ := Lib.hid (blk_near HZ.out hg (by omega)); replace O := Lib.hid (O.out.far hg (by omega)); replace hB := belowG hB hg (by omega) hB.size; clear hs hg; (try clear z0 z1 z2 z3 z4 y0 y1 y2 y3 y4); obtain ⟨z0, z1, z2, z3, z4, y0, y1, y2, y3, y4⟩ := f5_cells HZ.out; have hzl := HZ.out.lt; clear hm))
  all_goals
    have K0d : Hid (((fun W' : World => W'.cell? ⟨fb, 0, none⟩ = some (.int .i64 d) ∧ W'.cell? ⟨fb, 1, none⟩ = some (.int .i64 m) ∧ W'.cell? ⟨fb, 2, none⟩ = some (.int .i64 wd) ∧ W'.cell? ⟨fb, 3, none⟩ = some (.int .i64 lf) ∧ W'.cell? ⟨fb, 4, none⟩ = some (.slice A n c))) w4.drew) := Lib.hid KD0.out
    have tok5 : True := trivial
    have tok6 : True := trivial
    go_region_held3 (fun W' : World => W'.cell? ⟨fb, 0, none⟩ = some (.int .i64 d) ∧ W'.cell? ⟨fb, 1, none⟩ = some (.int .i64 m) ∧ W'.cell? ⟨fb, 2, none⟩ = some (.int .i64 wd) ∧ W'.cell? ⟨fb, 3, none⟩ = some (.int .i64 lf) ∧ W'.cell? ⟨fb, 4, none⟩ = some (.slice A n c)) (first | with_reducible exact K0d.out | with_reducible exact KD5.out | with_reducible exact KD6.out | (refine ⟨?_, ?_, ?_, ?_, ?_⟩ <;> (repeat (with_reducible refine (World.cell?_setCell_far _ _ _ _ (by show w.heap.size ≠ fb; omega)).trans ?_)) <;> first | with_reducible exact KD6.out.1 | with_reducible exact KD6.out.2.1 | with_reducible exact KD6.out.2.2.1 | with_reducible exact KD6.out.2.2.2.1 | with_reducible exact KD6.out.2.2.2.2)) (first | (go_at_call 52; clear tok5; (with_reducible refine Calls.mono (l14DrawRate_any (w.alloc (.cells #[.int .i64 0, .int .i64 0, .int .i64 0, .int .i64 0, .slice none 0 0] 26)).heap.size g _ ?_) ?_); (first | with_reducible exact S.out | exact S.out.drewN 1); rintro ee w5 ⟨r5, rfl, hs, hg⟩; (try replace hg := grownBy_tr (a := w4) (grownBy_drewN (World.grownBy.refl _ _) 1) hg); replace S := Lib.hid hs; have KD5 := Lib.hid (keep5 (g := g) (fb := fb) KD0.out hg (by omega)); replace HZ := Lib.hid (blk_near HZ.out hg (by omega)); replace O := Lib.hid (O.out.far hg (by omega)); replace hB := belowG hB hg (by omega) hB.size; clear hs hg; (try clear z0 z1 z2 z3 z4 y0 y1 y2 y3 y4); obtain ⟨z0, z1, z2, z3, z4, y0, y1, y2, y3, y4⟩ := f5_cells HZ.out; have hzl := HZ.out.lt) | (go_at_call 52; clear tok6; (with_reducible refine Calls.mono (l14DrawRate_any (w.alloc (.cells #[.int .i64 0, .int .i64 0, .int .i64 0, .int .i64 0, .slice none 0 0] 26)).heap.size g _ ?_) ?_); (first | with_reducible exact S.out | exact S.out.drewN 1); rintro ee w6 ⟨r6, rfl, hs, hg⟩; (try replace hg := grownBy_tr (a := w4) (grownBy_drewN (World.grownBy.refl _ _) 1) hg); replace S := Lib.hid hs; have KD6 := Lib.hid (keep5 (g := g) (fb := fb) KD5.out hg (by omega)); replace HZ := Lib.hid (blk_near HZ.out hg (by omega)); replace O := Lib.hid (O.out.far hg (by omega)); replace hB := belowG hB hg (by omega) hB.size; clear hs hg; (try clear z0 z1 z2 z3 z4 y0 y1 y2 y3 y4); obtain ⟨z0, z1, z2, z3, z4, y0, y1, y2, y3, y4⟩ := f5_cells HZ.out; have hzl := HZ.out.lt))
    go_wp2
    (try simp only [Exit.inBlock, Exit.then])
    refine bodyPost_ret (by simp [results, Try.results14, go_sem, *]; first | done | rfl) rfl ⟨d, m, wd, lf, A, n, c, xs, x, _, r5, r6, rfl, ?_, hx, by go_grown⟩
    refine OwI.mono (base := w1.heap.size) ?_ (by omega)
    repeat (refine OwI.store ?_ (by show w.heap.size < w1.heap.size; omega) _)
    exact O.out
end Go.Proofs.Ytmgaooinkdmpbaa
