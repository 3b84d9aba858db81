/-
  Draws of chapter 13: the walks of DrawRunClass and DrawPayIncome.
-/
import Derived.Test.YtmhbkabdiciakaaZ1
set_option linter.unusedSimpArgs false
set_option linter.unusedVariables false
namespace Go.Proofs.Ytmhbkabdiciakaa
open Go.RowKit
set_option maxHeartbeats 1000000 in
set_option maxRecDepth 100000 in
theorem drawPay_any (A0 : Option Addr) (n0 c0 : Nat) (w : World) (hC : ∀ W, Below w.heap.size w W → Code' W.heap.size W A0 n0) : Calls Try.prog 10 #[.slice A0 n0 c0] w (fun e w' => ∃ S n c ss D m d ds ch x, e = .returned (.tuple #[.agg #[.slice S n c, .slice D m d, .int .i64 ch], .int .i64 x]) ∧ (RdI w' w'.heap.size S n ss ∧ (S = none → c = 0)) ∧ (RdI w' w'.heap.size D m ds ∧ (D = none → d = 0)) ∧ (n ≤ 61 ∧ m ≤ 10) ∧ Below w.heap.size w w') := by
  have HF := Lib.hid (fun W hb => from_any A0 n0 c0 W (hC W hb)); have HZ : Hid (Blk (w.alloc (.cells #[.slice none 0 0, .slice none 0 0, .int .i64 0] 26)) w.heap.size 26 #[.slice none 0 0, .slice none 0 0, .int .i64 0]) := Blk.new _ _ _; clear hC
  go_enter Try.func10, Try.ntmps10
  go_wp2_with (first | (go_at_call 33; (with_reducible refine Calls.mono (HF.out _ (al_ _ _)) ?_); rintro ee w1 ⟨g, rfl, hs, hb⟩; have hBg := hs.1; (simp only [World.size_alloc] at hBg); have hgl := hs.lt; have SR := Lib.hid hs; have hB : Below w.heap.size w w1 := bel_step (al_ _ _) hb; replace HZ := Lib.hid (HZ.out.below hb (by simp)); clear hs hb) | (go_at_call 34; (with_reducible refine Calls.mono (l13Draw_any _ g _ SR.out) ?_); rintro ee w2 ⟨S, n, c, ss, D, m, d, ds, ch, rfl, ho, hop, hsl, hdl, hs, hg⟩; replace SR := Lib.hid hs; have OS := Lib.hid ho; have OD := Lib.hid hop; replace hB := belowG hB hg (by omega) hB.size; replace HZ := Lib.hid (blk_near HZ.out hg (by omega)); have hz2 := hg.size; clear hs ho hop hg; (try clear z0 z1 z2 y0 y1 y2); obtain ⟨⟨z0, z1, z2⟩, y0, y1, y2⟩ := r3_cells HZ.out; have hzl := HZ.out.lt) | (go_at_call 37; (with_reducible refine Calls.mono (l13DrawIncome_any _ g _ SR.out) ?_); rintro ee w3 ⟨x, rfl, hs, hg⟩; replace SR := Lib.hid hs; replace OS := Lib.hid (OS.out.far hg hgl); replace OD := Lib.hid (OD.out.far hg hgl); replace hB := belowG hB hg (by omega) hB.size; replace HZ := Lib.hid (blk_near HZ.out hg (by omega)); have hz3 := hg.size; clear hs hg; (try clear z0 z1 z2 y0 y1 y2); obtain ⟨⟨z0, z1, z2⟩, y0, y1, y2⟩ := r3_cells HZ.out; have hzl := HZ.out.lt))
  have h1 := OS.out.rd.1
  have h2 := OD.out.rd.1
  have hb : w.heap.size < w1.heap.size := by omega
  (try simp only [Exit.inBlock, Exit.then])
  refine bodyPost_ret (v := .tuple #[.agg #[.slice S n c, .slice D m d, .int .i64 ch], .int .i64 x]) (by simp [results, Try.results10, go_sem, *]) rfl ?_
  have OS2 := ((OS.out.store (p := ⟨w.heap.size, 0, none⟩) hb (.slice S n c)).store (p := ⟨w.heap.size, 1, none⟩) hb (.slice D m d)).store (p := ⟨w.heap.size, 2, none⟩) hb (.int .i64 ch)
  have OD2 := ((OD.out.store (p := ⟨w.heap.size, 0, none⟩) hb (.slice S n c)).store (p := ⟨w.heap.size, 1, none⟩) hb (.slice D m d)).store (p := ⟨w.heap.size, 2, none⟩) hb (.int .i64 ch)
  exact ⟨S, n, c, ss, D, m, d, ds, ch, x, rfl, ⟨OS2.rd.2, OS2.none_cap⟩, ⟨OD2.rd.2, OD2.none_cap⟩, ⟨by omega, by omega⟩, by go_grown⟩
theorem OwE.later {w w' : World} {base : Nat} {v : Value} {es : List (Option Addr × Nat × Nat)} (h : OwE w base v es) (hb : Below w.heap.size w w') : OwE w' base v es := by
  refine ⟨h.1, ?_⟩
  rcases h.2 with h1 | ⟨g, cap, cur, hv, hg, hh, h2⟩
  · exact .inl h1
  · refine .inr ⟨g, cap, cur, hv, hg, ?_, h2⟩
    rw [hb.block g ?_]
    · exact hh
    · rcases Nat.lt_or_ge g w.heap.size with h3 | h3
      · exact h3
      · rw [Array.getElem?_eq_none h3] at hh; cases hh
theorem RW.fin {B g b1 cb : Nat} {w W : World} {S : Option Addr} {n c : Nat} {ss : List Int} {D : Option Addr} {m d : Nat} {ds : List Int} {ch : Int} {I : Option Addr} {ni ic : Nat} {is : List Int} {X : Option Addr} {nx xc : Nat} {xl : List Int} {E : Option Addr} {ne ec : Nat} {es : List (Option Addr × Nat × Nat)} {dd : List (List Int)} (h : RW B g b1 cb w W S n c ss D m d ds ch I ni ic is X nx xc xl E ne ec es dd) {W' : World} (u0 u1 u2 : Value) (hW : ((W.setCell ⟨w.heap.size, 0, none⟩ u0).setCell ⟨w.heap.size, 1, none⟩ u1).setCell ⟨w.heap.size, 2, none⟩ u2 = W') : (RdI W' W'.heap.size S n ss ∧ (S = none → c = 0)) ∧ (RdI W' W'.heap.size D m ds ∧ (D = none → d = 0)) ∧ RdI W' W'.heap.size I ni is ∧ RdLL W' W'.heap.size E ne es dd ∧ Below w.heap.size w W' := by
  have hl := h.lv
  have st : ∀ (V : World) (i : Nat) (u : Value), (OwI V b1 (.slice S n c) ss ∧ OwI V b1 (.slice D m d) ds ∧ OwI V (cb + 1) (.slice I ni ic) is ∧ OwE V (cb + 1) (.slice E ne ec) es ∧ (∀ (j : Nat) e l, es[j]? = some e → dd[j]? = some l → OwI V (cb + 1) (slv e) l) ∧ Below w.heap.size w V) → (OwI (V.setCell ⟨w.heap.size, i, none⟩ u) b1 (.slice S n c) ss ∧ OwI (V.setCell ⟨w.heap.size, i, none⟩ u) b1 (.slice D m d) ds ∧ OwI (V.setCell ⟨w.heap.size, i, none⟩ u) (cb + 1) (.slice I ni ic) is ∧ OwE (V.setCell ⟨w.heap.size, i, none⟩ u) (cb + 1) (.slice E ne ec) es ∧ (∀ (j : Nat) e l, es[j]? = some e → dd[j]? = some l → OwI (V.setCell ⟨w.heap.size, i, none⟩ u) (cb + 1) (slv e) l) ∧ Below w.heap.size w (V.setCell ⟨w.heap.size, i, none⟩ u)) := by
    rintro V i u ⟨h1, h2, h3, h4, h5, h6⟩
    exact ⟨h1.store (by show w.heap.size < _; omega) u, h2.store (by show w.heap.size < _; omega) u, h3.store (by show w.heap.size < _; omega) u, h4.kept (grownBy_one V ⟨w.heap.size, i, none⟩ u) (fun q e e2 => by have := (h4.row e).1; simp only [Option.some.injEq] at e2; omega), fun j e l he hl => (h5 j e l he hl).store (by show w.heap.size < _; omega) u, h6.setCell (p := ⟨w.heap.size, i, none⟩) (Nat.le_refl _) u⟩
  obtain ⟨h1, h2, h3, h4, h5, h6⟩ := st _ 2 u2 (st _ 1 u1 (st W 0 u0 ⟨h.oS, h.oD, h.oI, h.oE, h.hJ, h.bel⟩))
  subst hW
  obtain ⟨e1, e2⟩ := h4.rd
  refine ⟨⟨h1.rd.2, h1.none_cap⟩, ⟨h2.rd.2, h2.none_cap⟩, h3.rd.2, ⟨e2, by rw [e1]; exact h.ldd, fun i e l he hl => ?_⟩, h6⟩
  have e3 := h5 i e l he hl
  unfold slv at e3
  exact ⟨e3.rd.1 ▸ e3.rd.2, e3.none_cap⟩
set_option maxHeartbeats 4000000 in
set_option maxRecDepth 100000 in
theorem drawRun_any (A0 : Option Addr) (n0 c0 : Nat) (w : World) (hC : ∀ W, Below w.heap.size w W → Code' W.heap.size W A0 n0) : Calls Try.prog 7 #[.slice A0 n0 c0] w (fun e w' => ∃ S n c ss D m d ds ch I ni ic is E ne ec es dd, e = .returned (.tuple #[.agg #[.slice S n c, .slice D m d, .int .i64 ch], .slice I ni ic, .slice E ne ec]) ∧ (RdI w' w'.heap.size S n ss ∧ (S = none → c = 0)) ∧ (RdI w' w'.heap.size D m ds ∧ (D = none → d = 0)) ∧ RdI w' w'.heap.size I ni is ∧ RdLL w' w'.heap.size E ne es dd ∧ (n ≤ 61 ∧ m ≤ 10 ∧ ni ≤ 10 ∧ ne ≤ 10 ∧ ∀ l ∈ dd, l.length ≤ 3) ∧ Below w.heap.size w w') := by
  have HF := Lib.hid (fun W hb => from_any A0 n0 c0 W (hC W hb)); have HZ : Hid (Blk (w.alloc (.cells #[.slice none 0 0, .slice none 0 0, .int .i64 0] 26)) w.heap.size 26 #[.slice none 0 0, .slice none 0 0, .int .i64 0]) := Blk.new _ _ _; clear hC
  go_enter Try.func7, Try.ntmps7
  go_upto_region 3 with (first | (go_at_call 33; (with_reducible refine Calls.mono (HF.out _ (al_ _ _)) ?_); rintro ee w1 ⟨g, rfl, hs, hb⟩; have hBg := hs.1; (simp only [World.size_alloc] at hBg); have hgl := hs.lt; have SR := Lib.hid hs; have hB : Below w.heap.size w w1 := bel_step (al_ _ _) hb; replace HZ := Lib.hid (HZ.out.below hb (by simp)); clear hs hb) | (go_at_call 34; (with_reducible refine Calls.mono (l13Draw_any _ g _ SR.out) ?_); rintro ee w2 ⟨S, n, c, ss, D, m, d, ds, ch, rfl, ho, hop, hsl, hdl, hs, hg⟩; replace SR := Lib.hid hs; have OS := Lib.hid ho; have OD := Lib.hid hop; replace hB := belowG hB hg (by omega) hB.size; replace HZ := Lib.hid (blk_near HZ.out hg (by omega)); have hz2 := hg.size; clear hs ho hop hg; (try clear z0 z1 z2 y0 y1 y2); obtain ⟨⟨z0, z1, z2⟩, y0, y1, y2⟩ := r3_cells HZ.out; have hzl := HZ.out.lt))
  have hm61 : m ≤ 10 := by have := OD.out.rd.1; omega
  have hn61 : n ≤ 61 := by have := OS.out.rd.1; omega
  have OS3 := Lib.hid (((OS.out.alloc (.cells #[.slice S n c, .slice D m d, .int .i64 ch] 26)).alloc (.cells #[] 2)).alloc (.cells #[] 24))
  have OD3 := Lib.hid (((OD.out.alloc (.cells #[.slice S n c, .slice D m d, .int .i64 ch] 26)).alloc (.cells #[] 2)).alloc (.cells #[] 24))
  have S3 := Lib.hid (((SR.out.alloc (.cells #[.slice S n c, .slice D m d, .int .i64 ch] 26)).alloc (.cells #[] 2)).alloc (.cells #[] 24))
  have Z3 := Lib.hid (((HZ.out.alloc (.cells #[.slice S n c, .slice D m d, .int .i64 ch] 26)).alloc (.cells #[] 2)).alloc (.cells #[] 24))
  have B3 := Lib.hid (((Blk.new w2 26 #[.slice S n c, .slice D m d, .int .i64 ch]).alloc (.cells #[] 2)).alloc (.cells #[] 24))
  have I3 := Lib.hid ((ownEmpty (w2.alloc (.cells #[.slice S n c, .slice D m d, .int .i64 ch] 26)) (w2.heap.size + 1) (by simp)).alloc (.cells #[] 24))
  have E3 := Lib.hid (ownEmptyE ((w2.alloc (.cells #[.slice S n c, .slice D m d, .int .i64 ch] 26)).alloc (.cells #[] 2)) (w2.heap.size + 1) (by simp))
  have hB3 := ((hB.alloc hB.size (.cells #[.slice S n c, .slice D m d, .int .i64 ch] 26)).alloc (by have := hB.size; simp; omega) (.cells #[] 2)).alloc (by have := hB.size; simp; omega) (.cells #[] 24)
  have rowSD := Lib.hid (fun q e => own_rowI OS.out q e)
  have rowD := Lib.hid (fun q e => own_rowI OD.out q e)
  have k1 : (((w2.alloc (.cells #[.slice S n c, .slice D m d, .int .i64 ch] 26)).alloc (.cells #[] 2)).alloc (.cells #[] 24)).cell? ⟨w2.heap.size, 1, none⟩ = some (.slice D m d) := (r3_cells B3.out).1.2.1
  go_upto_region 4 with (go_at_call 35; (with_reducible refine Calls.mono (sOwn_any D m d ds _ OD3.out.rd.2 (OwI.none_cap OD3.out) (by omega)) ?_); rintro ee w4 ⟨X, nx, xc, rfl, ho, hb⟩; have HX := Lib.hid ho; have HB4 := Lib.hid hb; clear ho hb)
  have hb4 := HB4.out
  obtain ⟨cb, hcb⟩ : ∃ cb, w2.heap.size = cb := ⟨_, rfl⟩
  have hz4 := hb4.size
  simp only [World.size_alloc] at hz4
  have rD0 := rowD.out
  have rS0 := rowSD.out
  have H : Hid (RW (w.alloc (.cells #[.slice none 0 0, .slice none 0 0, .int .i64 0] 26)).heap.size g w1.heap.size cb w w4 S n c ss D m d ds ch (some ⟨cb + 1, 0, none⟩) 0 0 [] X nx xc ds (some ⟨cb + 1 + 1, 0, none⟩) 0 0 [] []) := by
    have I4 := I3.out.later hb4
    have E4 := E3.out.later hb4
    simp only [World.size_alloc, hcb] at I4 E4
    have rX := own_rowI HX.out
    simp only [World.size_alloc] at rX
    refine Lib.hid ⟨S3.out.below hb4 (by simp; omega), bel_step hB3 hb4, blk_later Z3.out hb4, hcb ▸ blk_later B3.out hb4, OS3.out.later hb4, OD3.out.later hb4, I4, HX.out.mono (by simp; omega), E4, (fun j e l he => by simp at he), rfl, ?_, ?_, (fun j e he => by simp at he), ⟨by omega, hgl, by omega⟩⟩
    · rintro q (e | e)
      · have := rS0 q e; omega
      · have := rD0 q e; omega
    · intro q e e2
      have := rX q e2
      simp only [Value.ownBlock, Option.some.injEq] at e
      omega
  clear HX HB4 hb4 S3 Z3 B3 I3 E3 OS3 OD3 OS OD rD0 rS0 rowSD rowD hB3 hB HZ SR k1 z0 z1 z2 y0 y1 y2 hzl hz4 hz2
  rw [hcb]
  have hlv := H.out.lv
  (try clear k0 k1 k2 f0 f1 f2); obtain ⟨⟨k0, k1, k2⟩, f0, f1, f2⟩ := r3_cells H.out.box; have hlb := H.out.box.lt; (try clear z0 z1 z2 y0 y1 y2); obtain ⟨⟨z0, z1, z2⟩, y0, y1, y2⟩ := r3_cells H.out.res; have hzl := H.out.res.lt
  go_wp2_with (go_at_call 36; (with_reducible refine Calls.mono (next_any _ g _ _ H.out.src) ?_); rintro ee wz ⟨r, rfl, hr, hs, hg⟩; replace H := Lib.hid (H.out.step hs hg); have hr1 := hr.2 (by omega); clear hs hg hr; (try clear k0 k1 k2 f0 f1 f2); obtain ⟨⟨k0, k1, k2⟩, f0, f1, f2⟩ := r3_cells H.out.box; have hlb := H.out.box.lt; (try clear z0 z1 z2 y0 y1 y2); obtain ⟨⟨z0, z1, z2⟩, y0, y1, y2⟩ := r3_cells H.out.res; have hzl := H.out.res.lt)
  go_loopw [7, 8, 9, 10, 11] (fun v7 v8 v9 nn _ wr => ∃ (N : Int) (I : Option Addr) (ni ic : Nat) (is : List Int) (X : Option Addr) (nx xc : Nat) (xl : List Int) (E : Option Addr) (ne ec : Nat) (es : List (Option Addr × Nat × Nat)) (dd : List (List Int)), v7 = .slice I ni ic ∧ v8 = .slice E ne ec ∧ v9 = .slice X nx xc ∧ nn = .int .i64 N ∧ 0 ≤ N ∧ N ≤ 6 ∧ (is.length : Int) + N ≤ 6 ∧ (es.length : Int) + N ≤ 6 ∧ (xl.length : Int) + 3 * N ≤ 28 ∧ Hid (∀ l ∈ dd, l.length ≤ 3) ∧ Hid (RW (w.alloc (.cells #[.slice none 0 0, .slice none 0 0, .int .i64 0] 26)).heap.size g w1.heap.size cb w wr S n c ss D m d ds ch I ni ic is X nx xc xl E ne ec es dd)) (fun _ _ _ nn _ _ => (intOf nn).toNat)
  case atStart => exact ⟨r, _, _, _, _, _, _, _, _, _, _, _, _, _, rfl, rfl, rfl, rfl, by omega, by omega, by simp; omega, by simp; omega, by omega, Lib.hid (by simp), H⟩
  case round =>
    clear H k0 k1 k2 f0 f1 f2 z0 z1 z2 y0 y1 y2 hlb hzl hr1
    obtain ⟨N, I, ni, ic, is, X, nx, xc, xl, E, ne, ec, es, dd, rfl, rfl, rfl, rfl, hN0, hN6, hil, hel, hxl, hdd, H⟩ := hrel
    (try clear k0 k1 k2 f0 f1 f2); obtain ⟨⟨k0, k1, k2⟩, f0, f1, f2⟩ := r3_cells H.out.box; have hlb := H.out.box.lt; (try clear z0 z1 z2 y0 y1 y2); obtain ⟨⟨z0, z1, z2⟩, y0, y1, y2⟩ := r3_cells H.out.res; have hzl := H.out.res.lt
    by_cases hN : 0 < N
    · go_wp2_with (first | (go_at_call 37; (with_reducible refine Calls.mono (l13DrawIncome_any _ g _ H.out.src) ?_); rintro ee wz ⟨x, rfl, hs, hg⟩; replace H := Lib.hid (H.out.step hs hg); clear hs hg; (try clear k0 k1 k2 f0 f1 f2); obtain ⟨⟨k0, k1, k2⟩, f0, f1, f2⟩ := r3_cells H.out.box; have hlb := H.out.box.lt; (try clear z0 z1 z2 y0 y1 y2); obtain ⟨⟨z0, z1, z2⟩, y0, y1, y2⟩ := r3_cells H.out.res; have hzl := H.out.res.lt) | (at_builtin; refine wpl_app_intL rfl _ _ rfl (cb + 1) is _ (by rfl) (H.out.alloc _).oI _ _ 1 (by rfl) ((Blk.new _ _ _).cell 0) (by omega) (by simp; omega) ?_; intro A3 m3 c3 w3 ho3 hg3 hq3; replace H := Lib.hid ((H.out.alloc _).appI ho3 hg3 hq3); clear ho3 hg3 hq3; (try clear k0 k1 k2 f0 f1 f2); obtain ⟨⟨k0, k1, k2⟩, f0, f1, f2⟩ := r3_cells H.out.box; have hlb := H.out.box.lt; (try clear z0 z1 z2 y0 y1 y2); obtain ⟨⟨z0, z1, z2⟩, y0, y1, y2⟩ := r3_cells H.out.res; have hzl := H.out.res.lt) | (go_at_call 38; (with_reducible refine Calls.mono (l13DrawDeaths_any _ g _ H.out.src S n c D m d ch X nx xc (cb + 1) xl H.out.oX (by omega) (by omega) (by omega) (by omega)) ?_); rintro ee w6 ⟨L, ln, lc, ys, rfl, hoL, hyl, hs, hg⟩; have rL := own_rowI hoL; have hln : ln ≤ 3 := (by have := hoL.rd.1; omega); have rI := own_rowI H.out.oI; have rX := own_rowI H.out.oX; have OL : Hid (OwI w6 (cb + 1) (slv (L, ln, lc)) ys) := Lib.hid (hoL.mono (by omega)); have aL : Hid (∀ q, (slv (L, ln, lc)).ownBlock = some q → (Value.slice A3 m3 c3).ownBlock ≠ some q ∧ (Value.slice X nx xc).ownBlock ≠ some q) := Lib.hid (fun q e => ⟨fun e2 => (by have h1 := rL q e; have h2 := rI q e2; omega), fun e2 => (by have h1 := rL q e; have h2 := rX q e2; omega)⟩); replace H := Lib.hid (H.out.step hs hg); clear hs hg hoL rL rI rX; (try clear k0 k1 k2 f0 f1 f2); obtain ⟨⟨k0, k1, k2⟩, f0, f1, f2⟩ := r3_cells H.out.box; have hlb := H.out.box.lt; (try clear z0 z1 z2 y0 y1 y2); obtain ⟨⟨z0, z1, z2⟩, y0, y1, y2⟩ := r3_cells H.out.res; have hzl := H.out.res.lt) | (at_builtin; refine wpl_app_sl rfl _ _ rfl (cb + 1) es _ (by rfl) (H.out.alloc _).oE _ (L, ln, lc) 1 (by rfl) ((Blk.new _ _ _).cell 0) (by omega) (by simp; omega) ?_; intro A4 m4 c4 w7 ho4 hg4 hq4; obtain ⟨h8, hL8⟩ := (H.out.alloc _).appE (OL.out.alloc _) aL.out ho4 hg4; replace H := Lib.hid h8; replace OL := Lib.hid hL8; clear ho4 hg4 hq4 h8 hL8; (try clear k0 k1 k2 f0 f1 f2); obtain ⟨⟨k0, k1, k2⟩, f0, f1, f2⟩ := r3_cells H.out.box; have hlb := H.out.box.lt; (try clear z0 z1 z2 y0 y1 y2); obtain ⟨⟨z0, z1, z2⟩, y0, y1, y2⟩ := r3_cells H.out.res; have hzl := H.out.res.lt) | (at_builtin; refine wpl_app_intsL rfl _ _ rfl (cb + 1) xl _ (by rfl) H.out.oX _ L ln lc ys (by rfl) OL.out.rd.2 (OwI.none_cap OL.out) (by omega) (by omega) ?_; intro A5 m5 c5 w8 ho5 hg5 hq5; replace H := Lib.hid (H.out.appX ho5 hg5 hq5); clear ho5 hg5 hq5; (try clear k0 k1 k2 f0 f1 f2); obtain ⟨⟨k0, k1, k2⟩, f0, f1, f2⟩ := r3_cells H.out.box; have hlb := H.out.box.lt; (try clear z0 z1 z2 y0 y1 y2); obtain ⟨⟨z0, z1, z2⟩, y0, y1, y2⟩ := r3_cells H.out.res; have hzl := H.out.res.lt))
      go_roundw
      case rel => exact ⟨N - 1, _, _, _, _, _, _, _, _, _, _, _, _, _, rfl, rfl, rfl, by go_num, by omega, by omega, by simp; omega, by simp; omega, by simp; omega, Lib.hid (fun l hl => by rcases List.mem_append.1 hl with h1 | h1; exact hdd.out l h1; (rw [List.mem_singleton.1 h1]; exact hyl)), H⟩
      case measure => simp [intOf]; omega
    · go_wp2_with (first | (go_at_call 36; (with_reducible refine Calls.mono (next_any _ g _ _ H.out.src) ?_); rintro ee wz ⟨q, rfl, hr, hs, hg⟩; replace H := Lib.hid (H.out.step hs hg); have hr1 := hr.2 (by omega); clear hs hg hr; (try clear k0 k1 k2 f0 f1 f2); obtain ⟨⟨k0, k1, k2⟩, f0, f1, f2⟩ := r3_cells H.out.box; have hlb := H.out.box.lt; (try clear z0 z1 z2 y0 y1 y2); obtain ⟨⟨z0, z1, z2⟩, y0, y1, y2⟩ := r3_cells H.out.res; have hzl := H.out.res.lt) | (at_builtin; refine wpl_app_intL rfl _ _ rfl (cb + 1) is _ (by rfl) (H.out.alloc _).oI _ _ 1 (by rfl) ((Blk.new _ _ _).cell 0) (by omega) (by simp; omega) ?_; intro A3 m3 c3 w3 ho3 hg3 hq3; replace H := Lib.hid ((H.out.alloc _).appI ho3 hg3 hq3); clear ho3 hg3 hq3; (try clear k0 k1 k2 f0 f1 f2); obtain ⟨⟨k0, k1, k2⟩, f0, f1, f2⟩ := r3_cells H.out.box; have hlb := H.out.box.lt; (try clear z0 z1 z2 y0 y1 y2); obtain ⟨⟨z0, z1, z2⟩, y0, y1, y2⟩ := r3_cells H.out.res; have hzl := H.out.res.lt))
      · (try simp only [Exit.inBlock, Exit.then])
        refine bodyPost_ret (v := .tuple #[.agg #[.slice S n c, .slice D m d, .int .i64 ch], .slice A3 m3 c3, .slice E ne ec]) (by simp [results, Try.results7, go_sem, *]) rfl ?_
        obtain ⟨h1, h2, h3, h4, h5⟩ := H.out.fin (.slice S n c) (.slice D m d) (.int .i64 ch) rfl
        exact ⟨S, n, c, ss, D, m, d, ds, ch, _, _, _, _, _, _, _, _, _, rfl, h1, h2, h3, h4, ⟨hn61, hm61, by have h6 := H.out.oI.rd.1; simp at h6; omega, by have h6 := H.out.oE.rd.1; omega, hdd.out⟩, h5⟩
      · (try simp only [Exit.inBlock, Exit.then])
        refine bodyPost_ret (v := .tuple #[.agg #[.slice S n c, .slice D m d, .int .i64 ch], .slice I ni ic, .slice E ne ec]) (by simp [results, Try.results7, go_sem, *]) rfl ?_
        obtain ⟨h1, h2, h3, h4, h5⟩ := H.out.fin (.slice S n c) (.slice D m d) (.int .i64 ch) rfl
        exact ⟨S, n, c, ss, D, m, d, ds, ch, _, _, _, _, _, _, _, _, _, rfl, h1, h2, h3, h4, ⟨hn61, hm61, by have h6 := H.out.oI.rd.1; omega, by have h6 := H.out.oE.rd.1; omega, hdd.out⟩, h5⟩
end Go.Proofs.Ytmhbkabdiciakaa
