/-
  Draws of FnClasses: the walks of DrawClassText, DrawBuryMembers, DrawLastMember.
-/
import Derived.Test.YtaikfclgmkfooaaGreatDoorY1
import Derived.Test.YtaikfclgmkfooaaGreatDoorX1
set_option linter.unusedSimpArgs false
set_option linter.unusedVariables false
namespace Go.Proofs.YtaikfclgmkfooaaGreatDoor
open Go.RowKit
theorem blk_nearC {w w1 : World} {g g' : Nat} {t : TypeId} {cs : Array Value} (h : Blk w g t cs) (hg : w.grownBy w1 (some g')) (hne : g < g') : Blk w1 g t cs := Blk.grown h hg (fun e => by injection e with e; omega)
/-- a class that was drawn -/
def DwC (w : World) (v : Value) (w' : World) : Prop := ∃ S n c ss D m d ds ch, v = .agg #[.slice S n c, .slice D m d, .int .i64 ch] ∧ (RdI w' w'.heap.size S n ss ∧ (S = none → c = 0)) ∧ (RdI w' w'.heap.size D m ds ∧ (D = none → d = 0)) ∧ (n ≤ 61 ∧ m ≤ 10) ∧ Below w.heap.size w w'
set_option maxHeartbeats 1000000 in
set_option maxRecDepth 100000 in
theorem drawCT_any (A0 : Option Addr) (n0 c0 : Nat) (w : World) (hC : ∀ W, Below w.heap.size w W → Code' W.heap.size W A0 n0) : Calls Tryz.prog 5 #[.slice A0 n0 c0] w (fun e w' => ∃ v, e = .returned v ∧ DwC w v w') := by
  have HF := Lib.hid (fun W hb => from_any A0 n0 c0 W (hC W hb)); have HZ : Hid (Blk (w.alloc (.cells #[.slice none 0 0, .slice none 0 0, .int .i64 0] 26)) w.heap.size 26 #[.slice none 0 0, .slice none 0 0, .int .i64 0]) := Blk.new _ _ _; clear hC
  go_enter Tryz.func5, Tryz.ntmps5
  go_wp2_with (first | (go_at_call 21; (with_reducible refine Calls.mono (HF.out _ (al_ _ _)) ?_); rintro ee w1 ⟨g, rfl, hs, hb⟩; have hBg := hs.1; (simp only [World.size_alloc] at hBg); have hgl := hs.lt; have SR := Lib.hid hs; have hB : Below w.heap.size w w1 := bel_step (al_ _ _) hb; replace HZ := Lib.hid (HZ.out.below hb (by simp)); clear hs hb) | (go_at_call 20; (with_reducible refine Calls.mono (l13Draw_any _ g _ SR.out) ?_); rintro ee w2 ⟨S, n, c, ss, D, m, d, ds, ch, rfl, ho, hop, hsl, hdl, hs, hg⟩; replace SR := Lib.hid hs; have OS := Lib.hid ho; have OD := Lib.hid hop; replace hB := belowG hB hg (by omega) hB.size; replace HZ := Lib.hid (blk_nearC HZ.out hg (by omega)); have hz2 := hg.size; clear hs ho hop hg; (try clear z0 z1 z2 y0 y1 y2); obtain ⟨⟨z0, z1, z2⟩, y0, y1, y2⟩ := r3_cells HZ.out; have hzl := HZ.out.lt))
  have h1 := OS.out.rd.1
  have h2 := OD.out.rd.1
  have hb : w.heap.size < w1.heap.size := by omega
  (try simp only [Exit.inBlock, Exit.then])
  refine bodyPost_ret (v := .agg #[.slice S n c, .slice D m d, .int .i64 ch]) (by simp [results, Tryz.results5, go_sem, *]) rfl ?_
  have OS2 := ((OS.out.store (p := ⟨w.heap.size, 0, none⟩) hb (.slice S n c)).store (p := ⟨w.heap.size, 1, none⟩) hb (.slice D m d)).store (p := ⟨w.heap.size, 2, none⟩) hb (.int .i64 ch)
  have OD2 := ((OD.out.store (p := ⟨w.heap.size, 0, none⟩) hb (.slice S n c)).store (p := ⟨w.heap.size, 1, none⟩) hb (.slice D m d)).store (p := ⟨w.heap.size, 2, none⟩) hb (.int .i64 ch)
  exact ⟨_, rfl, S, n, c, ss, D, m, d, ds, ch, rfl, ⟨OS2.rd.2, OS2.none_cap⟩, ⟨OD2.rd.2, OD2.none_cap⟩, ⟨by omega, by omega⟩, by go_grown⟩
/-- a class and members that were drawn -/
def DwM (w : World) (e : Ending) (w' : World) : Prop := ∃ v M l ec ms, e = .returned (.tuple #[v, .slice M l ec]) ∧ DwC w v w' ∧ (RdI w' w'.heap.size M l ms ∧ (M = none → ec = 0)) ∧ l ≤ 3
theorem cell_off3 {W : World} {a fb i : Nat} {u0 u1 u2 : Value} (h : a ≠ fb) : (((W.setCell ⟨a, 0, none⟩ u0).setCell ⟨a, 1, none⟩ u1).setCell ⟨a, 2, none⟩ u2).cell? ⟨fb, i, none⟩ = W.cell? ⟨fb, i, none⟩ := by
  rw [World.cell?_setCell_other _ _ _ _ (fun e => h (congrArg Addr.block e)), World.cell?_setCell_other _ _ _ _ (fun e => h (congrArg Addr.block e)), World.cell?_setCell_other _ _ _ _ (fun e => h (congrArg Addr.block e))]
set_option maxHeartbeats 2000000 in
set_option maxRecDepth 100000 in
theorem drawBM_any (A0 : Option Addr) (n0 c0 : Nat) (w : World) (hC : ∀ W, Below w.heap.size w W → Code' W.heap.size W A0 n0) : Calls Tryz.prog 11 #[.slice A0 n0 c0] w (DwM w) := by
  have HF := Lib.hid (fun W hb => from_any A0 n0 c0 W (hC W hb)); have HZ : Hid (Blk (w.alloc (.cells #[.slice none 0 0, .slice none 0 0, .int .i64 0] 26)) w.heap.size 26 #[.slice none 0 0, .slice none 0 0, .int .i64 0]) := Blk.new _ _ _; clear hC
  go_enter Tryz.func11, Tryz.ntmps11
  go_upto_region 3 with (first | (go_at_call 21; (with_reducible refine Calls.mono (HF.out _ (al_ _ _)) ?_); rintro ee w1 ⟨g, rfl, hs, hb⟩; have hBg := hs.1; (simp only [World.size_alloc] at hBg); have hgl := hs.lt; have SR := Lib.hid hs; have hB : Below w.heap.size w w1 := bel_step (al_ _ _) hb; replace HZ := Lib.hid (HZ.out.below hb (by simp)); clear hs hb) | (go_at_call 20; (with_reducible refine Calls.mono (l13Draw_any _ g _ SR.out) ?_); rintro ee w2 ⟨S, n, c, ss, D, m, d, ds, ch, rfl, ho, hop, hsl, hdl, hs, hg⟩; replace SR := Lib.hid hs; have OS := Lib.hid ho; have OD := Lib.hid hop; replace hB := belowG hB hg (by omega) hB.size; replace HZ := Lib.hid (blk_nearC HZ.out hg (by omega)); have hz2 := hg.size; clear hs ho hop hg; (try clear z0 z1 z2 y0 y1 y2); obtain ⟨⟨z0, z1, z2⟩, y0, y1, y2⟩ := r3_cells HZ.out; have hzl := HZ.out.lt))
  have h1 := Lib.hid OS.out.rd.1
  have h2 := Lib.hid OD.out.rd.1
  obtain ⟨fb, hfb⟩ : ∃ fb, w2.heap.size = fb := ⟨_, rfl⟩
  have OS3 := Lib.hid (OS.out.alloc (.cells #[.slice S n c, .slice D m d, .int .i64 ch] 26))
  have OD3 := Lib.hid (OD.out.alloc (.cells #[.slice S n c, .slice D m d, .int .i64 ch] 26))
  have S3 := Lib.hid (SR.out.alloc (.cells #[.slice S n c, .slice D m d, .int .i64 ch] 26))
  have Z3 := Lib.hid (HZ.out.alloc (.cells #[.slice S n c, .slice D m d, .int .i64 ch] 26))
  have B3 := Lib.hid (Blk.new w2 26 #[.slice S n c, .slice D m d, .int .i64 ch])
  have hB3 := hB.alloc hB.size (.cells #[.slice S n c, .slice D m d, .int .i64 ch] 26)
  have hz3 : (w2.alloc (.cells #[.slice S n c, .slice D m d, .int .i64 ch] 26)).heap.size = fb + 1 := by rw [World.size_alloc, hfb]
  rw [hfb] at B3 ⊢
  obtain ⟨W3, hW3⟩ : ∃ W3, w2.alloc (.cells #[.slice S n c, .slice D m d, .int .i64 ch] 26) = W3 := ⟨_, rfl⟩
  rw [hW3] at OS3 OD3 S3 Z3 B3 hB3 hz3 ⊢
  clear hW3 OS OD SR HZ hB z0 z1 z2 y0 y1 y2 hzl
  have HW := Lib.hid (show OwI W3.drew (w1.heap.size) (.slice S n c) ss ∧ OwI W3.drew (w1.heap.size) (.slice D m d) ds ∧ Src (w.alloc (.cells #[.slice none 0 0, .slice none 0 0, .int .i64 0] 26)).heap.size W3.drew g ∧ Blk W3.drew w.heap.size 26 #[.slice none 0 0, .slice none 0 0, .int .i64 0] ∧ Blk W3.drew fb 26 #[.slice S n c, .slice D m d, .int .i64 ch] ∧ Below w.heap.size w W3.drew ∧ W3.drew.heap.size = fb + 1 from ⟨OS3.out, OD3.out, S3.out, Z3.out, B3.out, hB3.drew, hz3⟩)
  clear OS3 OD3 S3 Z3 B3 hB3 hz3
  have hS0 : (fun W' : World => W'.cell? ⟨fb, 0, none⟩ = some (.slice S n c) ∧ W'.cell? ⟨fb, 1, none⟩ = some (.slice D m d) ∧ W'.cell? ⟨fb, 2, none⟩ = some (.int .i64 ch)) W3.drew := (r3_cells HW.out.2.2.2.2.1).1
  refine wp_region_D 7 (fun W' : World => W'.cell? ⟨fb, 0, none⟩ = some (.slice S n c) ∧ W'.cell? ⟨fb, 1, none⟩ = some (.slice D m d) ∧ W'.cell? ⟨fb, 2, none⟩ = some (.int .i64 ch)) (by kernel_rfl) ?_
  generalize W3.drew = Wd at *
  refine wpAnyD_take (i := 0) (v := ?_) rfl (by kernel_rfl) (fun _ _ _ h => h) (Or.inl ⟨by rfl, ?_⟩) (by assumption) ?_; rotate_left; (intro w' hSw; obtain ⟨u0, u1, u2⟩ := hSw; go_simp; with_reducible rfl); (try simp only [Act.put, List.setIfInBounds_toArray, List.set_cons_zero, List.set_cons_succ])
  refine wpAnyD_take (i := 1) (v := ?_) rfl (by kernel_rfl) (fun _ _ _ h => h) (Or.inl ⟨by rfl, ?_⟩) (by assumption) ?_; rotate_left; (intro w' hSw; obtain ⟨u0, u1, u2⟩ := hSw; go_simp; with_reducible rfl); (try simp only [Act.put, List.setIfInBounds_toArray, List.set_cons_zero, List.set_cons_succ])
  refine wpAnyD_take (i := 2) (v := ?_) rfl (by kernel_rfl) (fun _ _ _ h => h) (Or.inl ⟨by rfl, ?_⟩) (by assumption) ?_; rotate_left; (intro w' hSw; obtain ⟨u0, u1, u2⟩ := hSw; go_simp; with_reducible rfl); (try simp only [Act.put, List.setIfInBounds_toArray, List.set_cons_zero, List.set_cons_succ])
  refine wpAnyD_take (i := 3) (v := ?_) rfl (by kernel_rfl) (fun _ _ _ h => h) (Or.inl ⟨by rfl, ?_⟩) (by assumption) ?_; rotate_left; (intro w' hSw; obtain ⟨u0, u1, u2⟩ := hSw; go_simp; with_reducible rfl); (try simp only [Act.put, List.setIfInBounds_toArray, List.set_cons_zero, List.set_cons_succ])
  refine wpAnyD_take (i := 4) (v := ?_) rfl (by kernel_rfl) (fun _ _ _ h => h) (Or.inl ⟨by rfl, ?_⟩) (by assumption) ?_; rotate_left; (intro w' hSw; obtain ⟨u0, u1, u2⟩ := hSw; go_simp; with_reducible rfl); (try simp only [Act.put, List.setIfInBounds_toArray, List.set_cons_zero, List.set_cons_succ])
  refine wpAnyD_one (i := 5) rfl (by kernel_rfl) (fun K hK => ?_)
  go_simp
  obtain ⟨oS, oD, sr, bz, bf, hB, hz3⟩ := HW.out
  clear HW hS0
  (with_reducible refine Calls.mono (l13DrawDeaths_any _ g Wd sr S n c D m d ch D m d w1.heap.size ds oD hgl (by omega) (by omega) (by have := h1.out; omega)) ?_)
  rintro ee w6 ⟨M, l, ec, ys, rfl, hoL, hyl, hs, hg⟩
  dsimp only
  have oS6 := Lib.hid (oS.far hg hgl)
  have oD6 := Lib.hid (oD.far hg hgl)
  have bz6 := Lib.hid (blk_nearC bz hg (by omega))
  have bf6 := Lib.hid (blk_far bf hg (by omega))
  have hB6 := belowG hB hg (by omega) hB.size
  have hz6 := hg.size
  have oL6 := Lib.hid hoL
  have hl6 := Lib.hid hoL.rd.1
  clear oS oD sr bz bf hB hs hg hoL
  have hS6 : (fun W' : World => W'.cell? ⟨fb, 0, none⟩ = some (.slice S n c) ∧ W'.cell? ⟨fb, 1, none⟩ = some (.slice D m d) ∧ W'.cell? ⟨fb, 2, none⟩ = some (.int .i64 ch)) w6 := (r3_cells bf6.out).1
  obtain ⟨⟨z0, z1, z2⟩, y0, y1, y2⟩ := r3_cells bz6.out
  have hzl := bz6.out.lt
  refine hK _ _ (fun _ => hS6) ?_; clear hK K; (try simp only [Act.put, List.setIfInBounds_toArray, List.set_cons_zero, List.set_cons_succ])
  refine wpAnyD_one (i := 6) rfl (by kernel_rfl) (fun K hK => ?_)
  go_simp
  have hab : w.heap.size ≠ fb := by omega
  have hS7 : (fun W' : World => W'.cell? ⟨fb, 0, none⟩ = some (.slice S n c) ∧ W'.cell? ⟨fb, 1, none⟩ = some (.slice D m d) ∧ W'.cell? ⟨fb, 2, none⟩ = some (.int .i64 ch)) (((w6.setCell ⟨w.heap.size, 0, none⟩ (.slice S n c)).setCell ⟨w.heap.size, 1, none⟩ (.slice D m d)).setCell ⟨w.heap.size, 2, none⟩ (.int .i64 ch)) := ⟨(cell_off3 hab).trans hS6.1, (cell_off3 hab).trans hS6.2.1, (cell_off3 hab).trans hS6.2.2⟩
  refine hK _ _ (fun _ => hS7) ?_; clear hK K; (try simp only [Act.put, List.setIfInBounds_toArray, List.set_cons_zero, List.set_cons_succ])
  refine wpAnyD_one (i := 7) rfl (by kernel_rfl) (fun K hK => ?_)
  go_simp
  refine hK _ _ (fun h => absurd rfl h) ?_
  clear hK K
  refine wpAnyD_done (by kernel_rfl) ?_ _
  go_wp2
  (try simp only [Exit.inBlock, Exit.then])
  refine bodyPost_ret (v := .tuple #[.agg #[.slice S n c, .slice D m d, .int .i64 ch], .slice M l ec]) (by simp [results, Tryz.results11, go_sem, z0, z1, z2, hzl]; done) rfl ?_
  have hb : w.heap.size < w1.heap.size := by omega
  have hb2 : w.heap.size < Wd.heap.size := by omega
  have OS2 := ((oS6.out.store (p := ⟨w.heap.size, 0, none⟩) hb (.slice S n c)).store (p := ⟨w.heap.size, 1, none⟩) hb (.slice D m d)).store (p := ⟨w.heap.size, 2, none⟩) hb (.int .i64 ch)
  have OD2 := ((oD6.out.store (p := ⟨w.heap.size, 0, none⟩) hb (.slice S n c)).store (p := ⟨w.heap.size, 1, none⟩) hb (.slice D m d)).store (p := ⟨w.heap.size, 2, none⟩) hb (.int .i64 ch)
  have OL2 := ((oL6.out.store (p := ⟨w.heap.size, 0, none⟩) hb2 (.slice S n c)).store (p := ⟨w.heap.size, 1, none⟩) hb2 (.slice D m d)).store (p := ⟨w.heap.size, 2, none⟩) hb2 (.int .i64 ch)
  have h11 := h1.out
  have h22 := h2.out
  have h33 := hl6.out
  exact ⟨_, M, l, ec, ys, rfl, ⟨S, n, c, ss, D, m, d, ds, ch, rfl, ⟨OS2.rd.2, OS2.none_cap⟩, ⟨OD2.rd.2, OD2.none_cap⟩, ⟨by omega, by omega⟩, by go_grown⟩, ⟨OL2.rd.2, OL2.none_cap⟩, by omega⟩
theorem off3 {W : World} {base a : Nat} {v : Value} {zs : List Int} (h : a < base) (u0 u1 u2 : Value) (ho : OwI W base v zs) : OwI (((W.setCell ⟨a, 0, none⟩ u0).setCell ⟨a, 1, none⟩ u1).setCell ⟨a, 2, none⟩ u2) base v zs := ((ho.store (p := ⟨a, 0, none⟩) h u0).store (p := ⟨a, 1, none⟩) h u1).store (p := ⟨a, 2, none⟩) h u2
set_option maxHeartbeats 2000000 in
set_option maxRecDepth 100000 in
theorem drawLM_any (A0 : Option Addr) (n0 c0 : Nat) (w : World) (hC : ∀ W, Below w.heap.size w W → Code' W.heap.size W A0 n0) : Calls Tryz.prog 14 #[.slice A0 n0 c0] w (fun e w' => ∃ v, e = .returned v ∧ DwC w v w') := by
  have HF := Lib.hid (fun W hb => from_any A0 n0 c0 W (hC W hb)); have HZ : Hid (Blk (w.alloc (.cells #[.slice none 0 0, .slice none 0 0, .int .i64 0] 26)) w.heap.size 26 #[.slice none 0 0, .slice none 0 0, .int .i64 0]) := Blk.new _ _ _; clear hC
  go_enter Tryz.func14, Tryz.ntmps14
  go_upto_region 3 with (first | (go_at_call 21; (with_reducible refine Calls.mono (HF.out _ (al_ _ _)) ?_); rintro ee w1 ⟨g, rfl, hs, hb⟩; have hBg := hs.1; (simp only [World.size_alloc] at hBg); have hgl := hs.lt; have SR := Lib.hid hs; have hB : Below w.heap.size w w1 := bel_step (al_ _ _) hb; replace HZ := Lib.hid (HZ.out.below hb (by simp)); clear hs hb) | (go_at_call 20; (with_reducible refine Calls.mono (l13Draw_any _ g _ SR.out) ?_); rintro ee w2 ⟨S, n, c, ss, D, m, d, ds, ch, rfl, ho, hop, hsl, hdl, hs, hg⟩; replace SR := Lib.hid hs; have OS := Lib.hid ho; have OD := Lib.hid hop; replace hB := belowG hB hg (by omega) hB.size; replace HZ := Lib.hid (blk_nearC HZ.out hg (by omega)); have hz2 := hg.size; clear hs ho hop hg; (try clear z0 z1 z2 y0 y1 y2); obtain ⟨⟨z0, z1, z2⟩, y0, y1, y2⟩ := r3_cells HZ.out; have hzl := HZ.out.lt))
  have h1 := Lib.hid OS.out.rd.1
  have h2 := Lib.hid OD.out.rd.1
  obtain ⟨fb, hfb⟩ : ∃ fb, w2.heap.size = fb := ⟨_, rfl⟩
  have OS3 := Lib.hid (OS.out.alloc (.cells #[.slice S n c, .slice D m d, .int .i64 ch] 26))
  have OD3 := Lib.hid (OD.out.alloc (.cells #[.slice S n c, .slice D m d, .int .i64 ch] 26))
  have S3 := Lib.hid (SR.out.alloc (.cells #[.slice S n c, .slice D m d, .int .i64 ch] 26))
  have Z3 := Lib.hid (HZ.out.alloc (.cells #[.slice S n c, .slice D m d, .int .i64 ch] 26))
  have B3 := Lib.hid (Blk.new w2 26 #[.slice S n c, .slice D m d, .int .i64 ch])
  have hB3 := hB.alloc hB.size (.cells #[.slice S n c, .slice D m d, .int .i64 ch] 26)
  have hz3 : (w2.alloc (.cells #[.slice S n c, .slice D m d, .int .i64 ch] 26)).heap.size = fb + 1 := by rw [World.size_alloc, hfb]
  rw [hfb] at B3 ⊢
  obtain ⟨W3, hW3⟩ : ∃ W3, w2.alloc (.cells #[.slice S n c, .slice D m d, .int .i64 ch] 26) = W3 := ⟨_, rfl⟩
  rw [hW3] at OS3 OD3 S3 Z3 B3 hB3 hz3 ⊢
  clear hW3 OS OD SR HZ hB z0 z1 z2 y0 y1 y2 hzl
  obtain ⟨⟨z0, z1, z2⟩, y0, y1, y2⟩ := r3_cells Z3.out
  obtain ⟨⟨k0, k1, k2⟩, f0, f1, f2⟩ := r3_cells B3.out
  have tok : True := trivial
  go_wp2_with (go_at_call 26; clear tok; (with_reducible refine Calls.mono (next_any _ g _ _ S3.out) ?_); rintro ee w5 ⟨r, rfl, hr, hs, hg⟩; replace S3 := Lib.hid hs; replace OS3 := Lib.hid (OS3.out.far hg hgl); replace OD3 := Lib.hid (OD3.out.far hg hgl); replace Z3 := Lib.hid (blk_nearC Z3.out hg (by omega)); replace B3 := Lib.hid (blk_far B3.out hg (by omega)); replace hB3 := belowG hB3 hg (by omega) hB3.size; have hz5 := hg.size; clear hs hg z0 z1 z2 y0 y1 y2 k0 k1 k2 f0 f1 f2; obtain ⟨⟨z0, z1, z2⟩, y0, y1, y2⟩ := r3_cells Z3.out; obtain ⟨⟨k0, k1, k2⟩, f0, f1, f2⟩ := r3_cells B3.out; have hzl := Z3.out.lt; have hfl := B3.out.lt)
  · obtain ⟨h5, hh5⟩ : ∃ h, w5.heap.size = h := ⟨_, rfl⟩
    have P1 : Hid (OwI (w5.alloc (.cells #[.int .i64 3, .int .i64 1, .int .i64 4] 2)) h5 (.slice (some ⟨h5, 0, none⟩) 3 3) [3, 1, 4]) := Lib.hid (hh5 ▸ World.ownsRow_lit (base := w5.heap.size) (e := 2) (size := 1) w5 #[.int .i64 3, .int .i64 1, .int .i64 4] 3 (Nat.le_refl _) (by unfold maxLen; omega) rfl)
    replace S3 := Lib.hid (S3.out.alloc (.cells #[.int .i64 3, .int .i64 1, .int .i64 4] 2))
    replace Z3 := Lib.hid (Z3.out.alloc (.cells #[.int .i64 3, .int .i64 1, .int .i64 4] 2))
    replace B3 := Lib.hid (B3.out.alloc (.cells #[.int .i64 3, .int .i64 1, .int .i64 4] 2))
    replace hB3 := hB3.alloc hB3.size (.cells #[.int .i64 3, .int .i64 1, .int .i64 4] 2)
    have e1 : (w5.alloc (.cells #[.int .i64 3, .int .i64 1, .int .i64 4] 2)).heap.size = h5 + 1 := by rw [World.size_alloc, hh5]
    rw [hh5]
    generalize w5.alloc (.cells #[.int .i64 3, .int .i64 1, .int .i64 4] 2) = V1 at *
    have P2 : Hid (OwI (V1.alloc (.cells #[.int .i64 0, .int .i64 1] 2)) h5 (.slice (some ⟨h5 + 1, 0, none⟩) 2 2) [0, 1]) := Lib.hid (e1 ▸ World.ownsRow_lit (base := h5) (e := 2) (size := 1) V1 #[.int .i64 0, .int .i64 1] 2 (by omega) (by unfold maxLen; omega) rfl)
    replace P1 := Lib.hid (P1.out.alloc (.cells #[.int .i64 0, .int .i64 1] 2))
    replace S3 := Lib.hid (S3.out.alloc (.cells #[.int .i64 0, .int .i64 1] 2))
    replace Z3 := Lib.hid (Z3.out.alloc (.cells #[.int .i64 0, .int .i64 1] 2))
    replace B3 := Lib.hid (B3.out.alloc (.cells #[.int .i64 0, .int .i64 1] 2))
    replace hB3 := hB3.alloc hB3.size (.cells #[.int .i64 0, .int .i64 1] 2)
    have e2 : (V1.alloc (.cells #[.int .i64 0, .int .i64 1] 2)).heap.size = h5 + 1 + 1 := by rw [World.size_alloc, e1]
    generalize V1.alloc (.cells #[.int .i64 0, .int .i64 1] 2) = V2 at *
    have P3 : Hid (OwI (V2.alloc (.cells #[.int .i64 0, .int .i64 2] 2)) h5 (.slice (some ⟨h5 + 1 + 1, 0, none⟩) 2 2) [0, 2]) := Lib.hid (e2 ▸ World.ownsRow_lit (base := h5) (e := 2) (size := 1) V2 #[.int .i64 0, .int .i64 2] 2 (by omega) (by unfold maxLen; omega) rfl)
    replace P1 := Lib.hid (P1.out.alloc (.cells #[.int .i64 0, .int .i64 2] 2))
    replace P2 := Lib.hid (P2.out.alloc (.cells #[.int .i64 0, .int .i64 2] 2))
    replace S3 := Lib.hid (S3.out.alloc (.cells #[.int .i64 0, .int .i64 2] 2))
    replace Z3 := Lib.hid (Z3.out.alloc (.cells #[.int .i64 0, .int .i64 2] 2))
    replace B3 := Lib.hid (B3.out.alloc (.cells #[.int .i64 0, .int .i64 2] 2))
    replace hB3 := hB3.alloc hB3.size (.cells #[.int .i64 0, .int .i64 2] 2)
    have e3 : (V2.alloc (.cells #[.int .i64 0, .int .i64 2] 2)).heap.size = h5 + 1 + 1 + 1 := by rw [World.size_alloc, e2]
    generalize V2.alloc (.cells #[.int .i64 0, .int .i64 2] 2) = V3 at *
    have P4 : Hid (OwI (V3.alloc (.cells #[.int .i64 1, .int .i64 2] 2)) h5 (.slice (some ⟨h5 + 1 + 1 + 1, 0, none⟩) 2 2) [1, 2]) := Lib.hid (e3 ▸ World.ownsRow_lit (base := h5) (e := 2) (size := 1) V3 #[.int .i64 1, .int .i64 2] 2 (by omega) (by unfold maxLen; omega) rfl)
    replace P1 := Lib.hid (P1.out.alloc (.cells #[.int .i64 1, .int .i64 2] 2))
    replace P2 := Lib.hid (P2.out.alloc (.cells #[.int .i64 1, .int .i64 2] 2))
    replace P3 := Lib.hid (P3.out.alloc (.cells #[.int .i64 1, .int .i64 2] 2))
    replace S3 := Lib.hid (S3.out.alloc (.cells #[.int .i64 1, .int .i64 2] 2))
    replace Z3 := Lib.hid (Z3.out.alloc (.cells #[.int .i64 1, .int .i64 2] 2))
    replace B3 := Lib.hid (B3.out.alloc (.cells #[.int .i64 1, .int .i64 2] 2))
    replace hB3 := hB3.alloc hB3.size (.cells #[.int .i64 1, .int .i64 2] 2)
    have e4 : (V3.alloc (.cells #[.int .i64 1, .int .i64 2] 2)).heap.size = h5 + 1 + 1 + 1 + 1 := by rw [World.size_alloc, e3]
    generalize V3.alloc (.cells #[.int .i64 1, .int .i64 2] 2) = V4 at *
    have P5 : Hid (OwI (V4.alloc (.cells #[.int .i64 1] 2)) h5 (.slice (some ⟨h5 + 1 + 1 + 1 + 1, 0, none⟩) 1 1) [1]) := Lib.hid (e4 ▸ World.ownsRow_lit (base := h5) (e := 2) (size := 1) V4 #[.int .i64 1] 1 (by omega) (by unfold maxLen; omega) rfl)
    replace P1 := Lib.hid (P1.out.alloc (.cells #[.int .i64 1] 2))
    replace P2 := Lib.hid (P2.out.alloc (.cells #[.int .i64 1] 2))
    replace P3 := Lib.hid (P3.out.alloc (.cells #[.int .i64 1] 2))
    replace P4 := Lib.hid (P4.out.alloc (.cells #[.int .i64 1] 2))
    replace S3 := Lib.hid (S3.out.alloc (.cells #[.int .i64 1] 2))
    replace Z3 := Lib.hid (Z3.out.alloc (.cells #[.int .i64 1] 2))
    replace B3 := Lib.hid (B3.out.alloc (.cells #[.int .i64 1] 2))
    replace hB3 := hB3.alloc hB3.size (.cells #[.int .i64 1] 2)
    have e5 : (V4.alloc (.cells #[.int .i64 1] 2)).heap.size = h5 + 1 + 1 + 1 + 1 + 1 := by rw [World.size_alloc, e4]
    generalize V4.alloc (.cells #[.int .i64 1] 2) = V5 at *
    have Q6 : Hid (Blk (V5.alloc (.cells #[.slice (some ⟨h5 + 1, 0, none⟩) 2 2, .slice (some ⟨h5 + 1 + 1, 0, none⟩) 2 2, .slice (some ⟨h5 + 1 + 1 + 1, 0, none⟩) 2 2, .slice (some ⟨h5 + 1 + 1 + 1 + 1, 0, none⟩) 1 1] 24)) (h5 + 1 + 1 + 1 + 1 + 1) 24 #[.slice (some ⟨h5 + 1, 0, none⟩) 2 2, .slice (some ⟨h5 + 1 + 1, 0, none⟩) 2 2, .slice (some ⟨h5 + 1 + 1 + 1, 0, none⟩) 2 2, .slice (some ⟨h5 + 1 + 1 + 1 + 1, 0, none⟩) 1 1]) := Lib.hid (e5 ▸ Blk.new V5 _ _)
    generalize hcs : #[Value.slice (some ⟨h5 + 1, 0, none⟩) 2 2, .slice (some ⟨h5 + 1 + 1, 0, none⟩) 2 2, .slice (some ⟨h5 + 1 + 1 + 1, 0, none⟩) 2 2, .slice (some ⟨h5 + 1 + 1 + 1 + 1, 0, none⟩) 1 1] = cs6 at *
    replace P1 := Lib.hid (P1.out.alloc (.cells cs6 24))
    replace P2 := Lib.hid (P2.out.alloc (.cells cs6 24))
    replace P3 := Lib.hid (P3.out.alloc (.cells cs6 24))
    replace P4 := Lib.hid (P4.out.alloc (.cells cs6 24))
    replace P5 := Lib.hid (P5.out.alloc (.cells cs6 24))
    replace S3 := Lib.hid (S3.out.alloc (.cells cs6 24))
    replace Z3 := Lib.hid (Z3.out.alloc (.cells cs6 24))
    replace B3 := Lib.hid (B3.out.alloc (.cells cs6 24))
    replace hB3 := hB3.alloc hB3.size (.cells cs6 24)
    have e6 : (V5.alloc (.cells cs6 24)).heap.size = h5 + 1 + 1 + 1 + 1 + 1 + 1 := by rw [World.size_alloc, e5]
    generalize V5.alloc (.cells cs6 24) = V6 at *
    clear z0 z1 z2 y0 y1 y2 k0 k1 k2 f0 f1 f2
    (with_reducible refine Calls.mono (next_any _ g _ _ S3.out) ?_)
    rintro ee w7 ⟨r4, rfl, hr4, hs, hg⟩
    obtain ⟨q, hq, rfl⟩ : ∃ q : Nat, q < 4 ∧ r4 = (q : Int) := rng_nat (by omega) hr4
    have hg5 : g < h5 := by omega
    replace P1 := Lib.hid (P1.out.far hg hg5)
    replace P2 := Lib.hid (P2.out.far hg hg5)
    replace P3 := Lib.hid (P3.out.far hg hg5)
    replace P4 := Lib.hid (P4.out.far hg hg5)
    replace P5 := Lib.hid (P5.out.far hg hg5)
    replace Q6 := Lib.hid (blk_far Q6.out hg (by omega))
    replace Z3 := Lib.hid (blk_nearC Z3.out hg (by omega))
    replace B3 := Lib.hid (blk_far B3.out hg (by omega))
    replace hB3 := belowG hB3 hg (by omega) hB3.size
    have hz7 := hg.size
    obtain ⟨X, xn, xs, hx, hxo, hxn⟩ : ∃ X xn xs, w7.cell? ⟨h5 + 1 + 1 + 1 + 1 + 1, q, none⟩ = some (.slice (some X) xn xn) ∧ OwI w7 h5 (.slice (some X) xn xn) xs ∧ xn ≤ 2 := by
      have hc := Q6.out.cell q
      rw [hc, ← hcs]
      obtain rfl | rfl | rfl | rfl : q = 0 ∨ q = 1 ∨ q = 2 ∨ q = 3 := by omega
      · exact ⟨_, _, _, rfl, P2.out, by omega⟩
      · exact ⟨_, _, _, rfl, P3.out, by omega⟩
      · exact ⟨_, _, _, rfl, P4.out, by omega⟩
      · exact ⟨_, _, _, rfl, P5.out, by omega⟩
    have OX := Lib.hid hxo
    clear hxo hs hg hr4 P2 P3 P4 P5 S3 Q6 hcs OS3 OD3 hr
    obtain ⟨⟨z0, z1, z2⟩, y0, y1, y2⟩ := r3_cells Z3.out
    obtain ⟨⟨k0, k1, k2⟩, f0, f1, f2⟩ := r3_cells B3.out
    have hzl := Z3.out.lt
    have hfl := B3.out.lt
    dsimp only
    go_wp2
    have hb : w.heap.size < h5 := by omega
    have hb2 : fb < h5 := by omega
    (try simp only [Exit.inBlock, Exit.then])
    refine bodyPost_ret (v := .agg #[.slice (some ⟨h5, 0, none⟩) 3 3, .slice (some X) xn xn, .int .i64 0]) (by simp [results, Tryz.results14, go_sem, z0, z1, z2, hzl]; done) rfl ?_
    have OS2 := off3 hb (.slice (some ⟨h5, 0, none⟩) 3 3) (.slice (some X) xn xn) (.int .i64 0) (off3 hb2 (.slice (some ⟨h5, 0, none⟩) 3 3) (.slice (some X) xn xn) (.int .i64 0) P1.out)
    have OD2 := off3 hb (.slice (some ⟨h5, 0, none⟩) 3 3) (.slice (some X) xn xn) (.int .i64 0) (off3 hb2 (.slice (some ⟨h5, 0, none⟩) 3 3) (.slice (some X) xn xn) (.int .i64 0) OX.out)
    exact ⟨_, rfl, _, _, _, _, _, _, _, _, _, rfl, ⟨OS2.rd.2, OS2.none_cap⟩, ⟨OD2.rd.2, OD2.none_cap⟩, ⟨by omega, by omega⟩, by go_grown⟩
  · have h11 := h1.out
    have h22 := h2.out
    have hb : w.heap.size < w1.heap.size := by omega
    (try simp only [Exit.inBlock, Exit.then])
    refine bodyPost_ret (v := .agg #[.slice S n c, .slice D m d, .int .i64 ch]) (by simp [results, Tryz.results14, go_sem, z0, z1, z2, hzl]; done) rfl ?_
    have OS2 := off3 hb (.slice S n c) (.slice D m d) (.int .i64 ch) OS3.out
    have OD2 := off3 hb (.slice S n c) (.slice D m d) (.int .i64 ch) OD3.out
    exact ⟨_, rfl, S, n, c, ss, D, m, d, ds, ch, rfl, ⟨OS2.rd.2, OS2.none_cap⟩, ⟨OD2.rd.2, OD2.none_cap⟩, ⟨by omega, by omega⟩, by go_grown⟩
end Go.Proofs.YtaikfclgmkfooaaGreatDoor
