/-
  Copies of classes that a law makes, and how a class is opened.
-/
import Derived.Test.YtmhbkabdiciakaaF1
import Derived.Test.YtmhbkabdiciakaaF
set_option linter.unusedSimpArgs false
set_option linter.unusedVariables false
namespace Go.Proofs.Ytmhbkabdiciakaa
open Go.ChangeShapes Go.WideShapes Go.ChangeAt Go.RowKit Go.Deep
set_option maxHeartbeats 2000000 in
set_option maxRecDepth 100000 in
theorem toC_any (S : Option Addr) (n c : Nat) (ss : List Int) (D : Option Addr) (m d : Nat) (ds : List Int) (ch : Int) (B : Nat) (w : World) (hS : RdI w B S n ss) (hD : RdI w B D m ds) (hBw : B ≤ w.heap.size) (hn : n ≤ 1048576) (hm : m ≤ 1048576) : Calls Try.prog 20 #[.agg #[.slice S n c, .slice D m d, .int .i64 ch]] w fun ee w' => ∃ S' c' D' d', ee = .returned (.agg #[.slice S' n c', .slice D' m d', .int .i64 ch]) ∧ OwC w' w.heap.size (.slice S' n c') (.slice D' m d') ss ds ∧ Below w.heap.size w w' := by
  have H1 := Lib.hid (fun W (hb : Below w.heap.size w W) => toInts_own S n c B ss W (hS.below (hb.mono hBw)) (Nat.le_trans hBw hb.size) hn)
  have H2 := Lib.hid (fun W (hb : Below w.heap.size w W) => toInts_own D m d B ds W (hD.below (hb.mono hBw)) (Nat.le_trans hBw hb.size) hm)
  obtain ⟨W0, hW0⟩ : ∃ W0 : World, W0 = ((w.alloc (.cells #[.slice S n c, .slice D m d, .int .i64 ch] 41)).alloc (.cells #[.slice none 0 0, .slice none 0 0, .int .i64 0] 26)).alloc (.cells #[.slice none 0 0, .slice none 0 0, .int .i64 0] 26) := ⟨_, rfl⟩
  have BB : Hid (Blk W0 w.heap.size 41 #[.slice S n c, .slice D m d, .int .i64 ch]) := Lib.hid (hW0 ▸ ((Blk.new w 41 #[.slice S n c, .slice D m d, .int .i64 ch]).alloc _).alloc _)
  have BR : Hid (Blk W0 (w.heap.size + 1) 26 #[.slice none 0 0, .slice none 0 0, .int .i64 0]) := Lib.hid (by have h1 := (Blk.new (w.alloc (.cells #[.slice S n c, .slice D m d, .int .i64 ch] 41)) 26 #[.slice none 0 0, .slice none 0 0, .int .i64 0]).alloc (.cells #[.slice none 0 0, .slice none 0 0, .int .i64 0] 26); rw [World.size_alloc] at h1; rw [hW0]; exact h1)
  have BX : Hid (Blk W0 (w.heap.size + 1 + 1) 26 #[.slice none 0 0, .slice none 0 0, .int .i64 0]) := Lib.hid (by have h1 := Blk.new ((w.alloc (.cells #[.slice S n c, .slice D m d, .int .i64 ch] 41)).alloc (.cells #[.slice none 0 0, .slice none 0 0, .int .i64 0] 26)) 26 #[.slice none 0 0, .slice none 0 0, .int .i64 0]; rw [World.size_alloc, World.size_alloc] at h1; rw [hW0]; exact h1)
  have hB : Below w.heap.size w W0 := hW0 ▸ ((al_ _ _).alloc (by simp) _).alloc (by simp; omega) _
  have hs0 : W0.heap.size = w.heap.size + 3 := by rw [hW0]; simp
  replace hs0 := Lib.hid hs0
  clear hS hD
  go_enter Try.func20, Try.ntmps20
  go_upto_region 2 with fail
  rw [← hW0]
  clear hW0
  obtain ⟨c0, c1, c2⟩ := c3_cells BB.out
  have hlB := BB.out.lt
  go_wp2_with (go_at_call 21; (with_reducible refine Calls.mono (H1.out _ hB) ?_); rintro ee w6 ⟨S', c', rfl, hnc, hcm, ho, hb⟩; have OS : Hid (OwI w6 (w.heap.size + 3) (.slice S' n c') ss) := Lib.hid (ho.mono (by have := hs0.out; omega)); have hz6 : w.heap.size + 3 ≤ w6.heap.size := (by have h1 := hs0.out; have h2 := hb.size; omega); replace hB := bel_step hB hb; replace BB := Lib.hid (blk_later BB.out hb); replace BR := Lib.hid (blk_later BR.out hb); replace BX := Lib.hid (blk_later BX.out hb); clear c0 c1 c2 ho hb; obtain ⟨c0, c1, c2⟩ := c3_cells BB.out; obtain ⟨⟨x0, x1, x2⟩, y0, y1, y2⟩ := r3_cells BX.out; have hlB := BB.out.lt; have hlX := BX.out.lt)
  have rS := Lib.hid (own_rowI OS.out)
  obtain ⟨w7, hw7⟩ : ∃ w7, w6.setCell ⟨w.heap.size + 1 + 1, 0, none⟩ (.slice S' n c') = w7 := ⟨_, rfl⟩
  rw [hw7]
  have hz7 : w7.heap.size = w6.heap.size := by rw [← hw7]; simp [World.setCell]
  replace hB : Below w.heap.size w w7 := hw7 ▸ hB.setCell (by show w.heap.size ≤ w.heap.size + 1 + 1; omega) _
  replace BB : Hid (Blk w7 w.heap.size 41 #[.slice S n c, .slice D m d, .int .i64 ch]) := hw7 ▸ BB.out.far (by show w.heap.size ≠ w.heap.size + 1 + 1; omega) _
  replace BR : Hid (Blk w7 (w.heap.size + 1) 26 #[.slice none 0 0, .slice none 0 0, .int .i64 0]) := hw7 ▸ BR.out.far (by show w.heap.size + 1 ≠ w.heap.size + 1 + 1; omega) _
  replace BX : Hid (Blk w7 (w.heap.size + 1 + 1) 26 #[.slice S' n c', .slice none 0 0, .int .i64 0]) := hw7 ▸ BX.out.set_ 0 _
  replace OS : Hid (OwI w7 (w.heap.size + 3) (.slice S' n c') ss) := hw7 ▸ OS.out.store (by show w.heap.size + 1 + 1 < w.heap.size + 3; omega) _
  clear hw7 c0 c1 c2 x0 x1 x2 y0 y1 y2
  (with_reducible refine Calls.mono (H2.out _ hB) ?_)
  rintro ee w8 ⟨D', d', rfl, hnd, hdm, ho, hb⟩
  have OC : Hid (OwC w8 (w.heap.size + 3) (.slice S' n c') (.slice D' m d') ss ds) := Lib.hid ⟨w7.heap.size, ⟨by omega, hb.size⟩, OS.out.later hb, (fun q e => by have := (rS.out q e).2; omega), ho⟩
  replace hB := bel_step hB hb
  replace BB := Lib.hid (blk_later BB.out hb)
  replace BR := Lib.hid (blk_later BR.out hb)
  replace BX := Lib.hid (blk_later BX.out hb)
  obtain ⟨c0, c1, c2⟩ := c3_cells BB.out
  obtain ⟨⟨z0, z1, z2⟩, v0, v1, v2⟩ := r3_cells BX.out
  obtain ⟨⟨x0, x1, x2⟩, y0, y1, y2⟩ := r3_cells BR.out
  have hlB := BB.out.lt
  have hlX := BX.out.lt
  have hlR := BR.out.lt
  clear ho hb OS hz7 hz6 hlB
  dsimp only
  go_wp2
  (try simp only [Exit.inBlock, Exit.then])
  refine bodyPost_ret (v := .agg #[.slice S' n c', .slice D' m d', .int .i64 ch]) (by simp [results, Try.results20, go_sem, x0, x1, x2, hlR, hlX]; done) rfl ?_
  refine ⟨S', c', D', d', rfl, ?_, by go_grown⟩
  refine OwC.mono (base := w.heap.size + 3) ?_ (by omega)
  repeat (first | with_reducible exact OC.out | with_reducible refine OwC.store ?_ (by first | (simp; done) | (simp; omega) | omega) _)
set_option maxRecDepth 100000 in
/-- a class that came in -/
theorem open_class {H : Type} {enc : TypeId × Value → H} {w : World} {r : Reach} {b0 : Nat} {v : Value} {dd : DataW H} {p : List MemPlace} (hv : Value.okWide Try.prog w r b0 41 v) (h : DataW.Trod enc Try.prog w 0 (fun _ => true) true 41 v dd p) :
    ∃ S n c ss D m d ds ch, v = .agg #[.slice S n c, .slice D m d, .int .i64 ch] ∧ RdI w w.heap.size S n ss ∧ RdI w w.heap.size D m ds ∧ n ≤ c ∧ c ≤ maxLen ∧ m ≤ d ∧ d ≤ maxLen := by
  obtain ⟨l, fuel, rfl, hl, ht⟩ := open_agg Try.underlying41 (by kernel_rfl) hv h
  have hF := el_fields Try.underlying41 (by kernel_rfl) hl ht
  obtain ⟨n0, c0, y0, hc0, h0⟩ := hF 0 _ rfl
  obtain ⟨n1, c1, y1, hc1, h1⟩ := hF 1 _ rfl
  obtain ⟨n2, c2, y2, hc2, h2⟩ := hF 2 _ rfl
  obtain ⟨S, n, c, ss, hcs, hn, hc, hR, _⟩ := open_rd (en := enI) (sz := 1) (good := I64) Try.underlying24 (by kernel_rfl) (by omega) (el_int Try.underlying2) h0
  obtain ⟨D, m, d, ds, hds, hm, hd, hR2, _⟩ := open_rd (en := enI) (sz := 1) (good := I64) Try.underlying24 (by kernel_rfl) (by omega) (el_int Try.underlying2) h1
  obtain ⟨ch, hch, _, _⟩ := DataW.trod_int Try.underlying2 h2
  match l, hl with
  | [a0, a1, a2], _ =>
    simp only [List.getElem?_cons_zero, List.getElem?_cons_succ, Option.some.injEq] at hc0 hc1 hc2
    subst hc0 hc1 hc2
    simp only [List.cons.injEq, and_true] at hcs hds hch
    subst hcs hds hch
    exact ⟨_, _, _, ss, _, _, _, ds, _, rfl, hR, hR2, hn, hc, hm, hd⟩
set_option maxRecDepth 100000 in
/-- numbers that came in -/
theorem open_ints {H : Type} {enc : TypeId × Value → H} {w : World} {r : Reach} {b0 : Nat} {v : Value} {dd : DataW H} {p : List MemPlace} (hv : Value.okWide Try.prog w r b0 24 v) (h : DataW.Trod enc Try.prog w 0 (fun _ => true) true 24 v dd p) :
    ∃ A n c xs, v = .slice A n c ∧ RdI w w.heap.size A n xs ∧ n ≤ c ∧ c ≤ maxLen := by
  obtain ⟨a, len, cap, rfl⟩ := okWide_slice Try.underlying24 hv
  obtain ⟨fuel, hf⟩ := h
  obtain ⟨A, n, c, xs, hcs, hn, hc, hR, _⟩ := open_rd (en := enI) (sz := 1) (good := I64) Try.underlying24 (by kernel_rfl) (by omega) (el_int Try.underlying2) hf
  simp only [Value.cells, Array.toList] at hcs
  injection hcs with hcs _
  injection hcs with h1 h2 h3
  subst h1 h2 h3
  exact ⟨_, _, _, xs, rfl, hR, hn, hc⟩
end Go.Proofs.Ytmhbkabdiciakaa
