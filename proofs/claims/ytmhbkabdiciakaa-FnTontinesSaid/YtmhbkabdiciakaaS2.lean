/-
  Contracts of chapter 13: PayIncome on both sides, LivingShares, sum, likeClasses9; plain facts for the tontines' law.
-/
import Derived.Test.YtmhbkabdiciakaaK1
import Derived.Test.YtmhbkabdiciakaaU1
import Derived.Test.Ytmhbkabdiciakaa01
import Derived.Test.YtmhbkabdiciakaaM0
import Derived.Test.YtmhbkabdiciakaaC2
set_option linter.unusedSimpArgs false
set_option linter.unusedVariables false
namespace Go.Proofs.Ytmhbkabdiciakaa
open Go.RowKit
/-- the code of PayIncome -/
def piC (ss ds : List Int) (ch inc : Int) : Int := if okC ss ds ch = true then (if inR 0 100000000 inc = true then payK ss ds (ch + inc) else 2) else 1
theorem piC_1 {ss ds : List Int} {ch inc : Int} (h : okC ss ds ch = false) : Hid (piC ss ds ch inc = 1) := by show _ = _; unfold piC; rw [h]; rfl
theorem piC_2 {ss ds : List Int} {ch inc : Int} (h : okC ss ds ch = true) (h2 : inR 0 100000000 inc = false) : Hid (piC ss ds ch inc = 2) := by show _ = _; unfold piC; rw [if_pos h, h2]; rfl
theorem piC_3 {ss ds : List Int} {ch inc : Int} (h : okC ss ds ch = true) (h2 : inR 0 100000000 inc = true) : Hid (piC ss ds ch inc = payK ss ds (ch + inc)) := by show _ = _; unfold piC; rw [if_pos h, if_pos h2]
theorem payP_no {w w' : World} {k : Int} {ss ds ps : List Int} {cv : Int} (hk : k ≠ 0) (hb : Below w.heap.size w w') : payP w w' (.returned (.tuple #[.agg #[.slice none 0 0, .slice none 0 0, .int .i64 0], .slice none 0 0, .int .i64 k])) k ss ds cv ps := by
  refine ⟨none, 0, 0, none, 0, 0, none, 0, 0, ?_, ?_, ?_, hb⟩
  · rw [show kI k cv = 0 from if_neg hk]
  · rw [show kL k ss = [] from if_neg hk, show kL k ds = [] from if_neg hk]
    exact OwC.nil hb.size
  · rw [show kL k ps = [] from if_neg hk]
    exact World.ownsRow_nil _ _ _ _
set_option maxHeartbeats 4000000 in
set_option maxRecDepth 100000 in
theorem sPI_any (S : Option Addr) (n c : Nat) (ss : List Int) (D : Option Addr) (m d : Nat) (ds : List Int) (ch inc : Int) (w : World) (hS : RdI w w.heap.size S n ss) (hD : RdI w w.heap.size D m ds) (hcS : S = none → c = 0) (hcD : D = none → d = 0) (hn : n ≤ 1048576) (hm : m ≤ 1048576) : Calls Try.prog 12 #[.agg #[.slice S n c, .slice D m d, .int .i64 ch], .int .i64 inc] w fun ee w' => payP w w' ee (piC ss ds ch inc) ss ds (paC ss ds (ch + inc)) (paL ss ds (ch + inc)) := by
  have H1 := fun W (hB : Below w.heap.size w W) => sIsC_any S n c ss D m d ds ch W ((hS.below hB).more hB.size) ((hD.below hB).more hB.size) (by omega) (by omega)
  have H2 := fun (W : World) => sIn_any inc 0 100000000 W
  have BB := Lib.hid ((Blk.new w 26 #[.slice S n c, .slice D m d, .int .i64 ch]).alloc (.cells #[.slice none 0 0, .slice none 0 0, .int .i64 0] 26))
  have BR := Lib.hid (Blk.new (w.alloc (.cells #[.slice S n c, .slice D m d, .int .i64 ch] 26)) 26 #[.slice none 0 0, .slice none 0 0, .int .i64 0])
  rw [World.size_alloc] at BR
  have hB : Below w.heap.size w ((w.alloc (.cells #[.slice S n c, .slice D m d, .int .i64 ch] 26)).alloc (.cells #[.slice none 0 0, .slice none 0 0, .int .i64 0] 26)) := (al_ _ _).alloc (by simp) _
  (try clear c0 c1 c2); obtain ⟨c0, c1, c2⟩ := c3_cells BB.out; have hlB := BB.out.lt
  (try clear x0 x1 x2 y0 y1 y2); obtain ⟨⟨x0, x1, x2⟩, y0, y1, y2⟩ := r3_cells BR.out; have hlR := BR.out.lt
  cases hok : okC ss ds ch with
  | false =>
    have hQ := piC_1 (inc := inc) hok
    rw [hok] at H1
    replace H1 := Lib.hid H1
    clear hS hD hok H2
    go_enter Try.func12, Try.ntmps12
    go_wp2_with (go_at_call 47; (with_reducible refine Calls.mono (H1.out _ hB) ?_); rintro ee wz ⟨rfl, hb⟩; replace hB := bel_step hB hb; replace BB := Lib.hid (blk_later BB.out hb); replace BR := Lib.hid (blk_later BR.out hb); clear hb; (try clear c0 c1 c2); obtain ⟨c0, c1, c2⟩ := c3_cells BB.out; have hlB := BB.out.lt; (try clear x0 x1 x2 y0 y1 y2); obtain ⟨⟨x0, x1, x2⟩, y0, y1, y2⟩ := r3_cells BR.out; have hlR := BR.out.lt)
    (try simp only [Exit.inBlock, Exit.then]); refine bodyPost_ret (v := .tuple #[.agg #[.slice none 0 0, .slice none 0 0, .int .i64 0], .slice none 0 0, .int .i64 1]) (by simp [results, Try.results12, go_sem, x0, x1, x2, hlR]; done) rfl ?_
    rw [hQ.out]
    exact payP_no (by decide) (by go_grown)
  | true =>
    rw [hok] at H1
    replace H1 := Lib.hid H1
    cases hi : inR 0 100000000 inc with
    | false =>
      have hQ := piC_2 hok hi
      rw [hi] at H2
      replace H2 := Lib.hid H2
      clear hS hD hok hi
      go_enter Try.func12, Try.ntmps12
      go_wp2_with (first | (go_at_call 47; (with_reducible refine Calls.mono (H1.out _ hB) ?_); rintro ee wz ⟨rfl, hb⟩; replace hB := bel_step hB hb; replace BB := Lib.hid (blk_later BB.out hb); replace BR := Lib.hid (blk_later BR.out hb); clear hb; (try clear c0 c1 c2); obtain ⟨c0, c1, c2⟩ := c3_cells BB.out; have hlB := BB.out.lt; (try clear x0 x1 x2 y0 y1 y2); obtain ⟨⟨x0, x1, x2⟩, y0, y1, y2⟩ := r3_cells BR.out; have hlR := BR.out.lt) | (go_at_call 52; (with_reducible refine Calls.mono (H2.out _) ?_); rintro ee wq ⟨rfl, rfl⟩))
      (try simp only [Exit.inBlock, Exit.then]); refine bodyPost_ret (v := .tuple #[.agg #[.slice none 0 0, .slice none 0 0, .int .i64 0], .slice none 0 0, .int .i64 2]) (by simp [results, Try.results12, go_sem, x0, x1, x2, hlR]; done) rfl ?_
      rw [hQ.out]
      exact payP_no (by decide) (by go_grown)
    | true =>
      have hQ := piC_3 hok hi
      rw [hi] at H2
      replace H2 := Lib.hid H2
      have hir := inR_iff.1 hi
      have H3 := Lib.hid (fun W (hB : Below w.heap.size w W) => sPay_any S n c ss D m d ds ch inc W ((hS.below hB).more hB.size) ((hD.below hB).more hB.size) hcS hcD hok hir)
      clear hS hD hok hi hir
      go_enter Try.func12, Try.ntmps12
      go_wp2_with (first | (go_at_call 47; (with_reducible refine Calls.mono (H1.out _ hB) ?_); rintro ee wz ⟨rfl, hb⟩; replace hB := bel_step hB hb; replace BB := Lib.hid (blk_later BB.out hb); replace BR := Lib.hid (blk_later BR.out hb); clear hb; (try clear c0 c1 c2); obtain ⟨c0, c1, c2⟩ := c3_cells BB.out; have hlB := BB.out.lt; (try clear x0 x1 x2 y0 y1 y2); obtain ⟨⟨x0, x1, x2⟩, y0, y1, y2⟩ := r3_cells BR.out; have hlR := BR.out.lt) | (go_at_call 52; (with_reducible refine Calls.mono (H2.out _) ?_); rintro ee wq ⟨rfl, rfl⟩) | (go_at_call 51; (with_reducible refine Calls.mono (H3.out _ hB) ?_); rintro ee wy ⟨S', n', c', D', m', d', P, p, pc, rfl, ho, hop, hb⟩; have hz0 := hlR; have OC := Lib.hid (ho.mono (show w.heap.size + 2 ≤ _ from hz0)); have OP := Lib.hid (hop.mono (show w.heap.size + 2 ≤ _ from hz0)); replace hB := bel_step hB hb; replace BB := Lib.hid (blk_later BB.out hb); replace BR := Lib.hid (blk_later BR.out hb); clear hb ho hop; (try clear c0 c1 c2); obtain ⟨c0, c1, c2⟩ := c3_cells BB.out; have hlB := BB.out.lt; (try clear x0 x1 x2 y0 y1 y2); obtain ⟨⟨x0, x1, x2⟩, y0, y1, y2⟩ := r3_cells BR.out; have hlR := BR.out.lt))
      (try simp only [Exit.inBlock, Exit.then]); refine bodyPost_ret (v := .tuple #[.agg #[.slice S' n' c', .slice D' m' d', .int .i64 (kI (payK ss ds (ch + inc)) (paC ss ds (ch + inc)))], .slice P p pc, .int .i64 (payK ss ds (ch + inc))]) (by simp [results, Try.results12, go_sem, x0, x1, x2, hlR]; done) rfl ?_
      rw [hQ.out]
      refine ⟨S', n', c', D', m', d', P, p, pc, rfl, OwC.mono (base := w.heap.size + 2) ?_ (by omega), OwI.mono (base := w.heap.size + 2) ?_ (by omega), by go_grown⟩
      · repeat (first | with_reducible refine OwC.alloc ?_ _ | with_reducible refine OwC.store ?_ (by first | (simp; done) | (simp; omega) | omega) _ | with_reducible exact OC.out)
      · repeat (first | with_reducible refine OwI.alloc ?_ _ | with_reducible refine OwI.store ?_ (by first | (simp; done) | (simp; omega) | omega) _ | with_reducible exact OP.out)
set_option maxHeartbeats 4000000 in
set_option maxRecDepth 100000 in
theorem iPI_any (S : Option Addr) (n c : Nat) (ss : List Int) (D : Option Addr) (m d : Nat) (ds : List Int) (ch inc : Int) (w : World) (hS : RdI w w.heap.size S n ss) (hD : RdI w w.heap.size D m ds) (hcS : S = none → c = 0) (hcD : D = none → d = 0) (hn : n ≤ 1048576) (hm : m ≤ 1048576) : Calls Try.prog 11 #[.agg #[.slice S n c, .slice D m d, .int .i64 ch], .int .i64 inc] w fun ee w' => payP w w' ee (piC ss ds ch inc) ss ds (paC ss ds (ch + inc)) (paL ss ds (ch + inc)) := by
  have H1 := fun W (hB : Below w.heap.size w W) => iIsC_any S n c ss D m d ds ch W ((hS.below hB).more hB.size) ((hD.below hB).more hB.size) (by omega) (by omega)
  have H2 := fun (W : World) => isIncome_any inc W
  have BB := Lib.hid ((Blk.new w 26 #[.slice S n c, .slice D m d, .int .i64 ch]).alloc (.cells #[.slice none 0 0, .slice none 0 0, .int .i64 0] 26))
  have BR := Lib.hid (Blk.new (w.alloc (.cells #[.slice S n c, .slice D m d, .int .i64 ch] 26)) 26 #[.slice none 0 0, .slice none 0 0, .int .i64 0])
  rw [World.size_alloc] at BR
  have hB : Below w.heap.size w ((w.alloc (.cells #[.slice S n c, .slice D m d, .int .i64 ch] 26)).alloc (.cells #[.slice none 0 0, .slice none 0 0, .int .i64 0] 26)) := (al_ _ _).alloc (by simp) _
  (try clear c0 c1 c2); obtain ⟨c0, c1, c2⟩ := c3_cells BB.out; have hlB := BB.out.lt
  (try clear x0 x1 x2 y0 y1 y2); obtain ⟨⟨x0, x1, x2⟩, y0, y1, y2⟩ := r3_cells BR.out; have hlR := BR.out.lt
  cases hok : okC ss ds ch with
  | false =>
    have hQ := piC_1 (inc := inc) hok
    rw [hok] at H1
    replace H1 := Lib.hid H1
    clear hS hD hok H2
    go_enter Try.func11, Try.ntmps11
    go_wp2_with (go_at_call 16; (with_reducible refine Calls.mono (H1.out _ hB) ?_); rintro ee wz ⟨rfl, hb⟩; replace hB := bel_step hB hb; replace BB := Lib.hid (blk_later BB.out hb); replace BR := Lib.hid (blk_later BR.out hb); clear hb; (try clear c0 c1 c2); obtain ⟨c0, c1, c2⟩ := c3_cells BB.out; have hlB := BB.out.lt; (try clear x0 x1 x2 y0 y1 y2); obtain ⟨⟨x0, x1, x2⟩, y0, y1, y2⟩ := r3_cells BR.out; have hlR := BR.out.lt)
    (try simp only [Exit.inBlock, Exit.then]); refine bodyPost_ret (v := .tuple #[.agg #[.slice none 0 0, .slice none 0 0, .int .i64 0], .slice none 0 0, .int .i64 1]) (by simp [results, Try.results11, go_sem, x0, x1, x2, hlR]; done) rfl ?_
    rw [hQ.out]
    exact payP_no (by decide) (by go_grown)
  | true =>
    rw [hok] at H1
    replace H1 := Lib.hid H1
    cases hi : inR 0 100000000 inc with
    | false =>
      have hQ := piC_2 hok hi
      rw [hi] at H2
      replace H2 := Lib.hid H2
      clear hS hD hok hi
      go_enter Try.func11, Try.ntmps11
      go_wp2_with (first | (go_at_call 16; (with_reducible refine Calls.mono (H1.out _ hB) ?_); rintro ee wz ⟨rfl, hb⟩; replace hB := bel_step hB hb; replace BB := Lib.hid (blk_later BB.out hb); replace BR := Lib.hid (blk_later BR.out hb); clear hb; (try clear c0 c1 c2); obtain ⟨c0, c1, c2⟩ := c3_cells BB.out; have hlB := BB.out.lt; (try clear x0 x1 x2 y0 y1 y2); obtain ⟨⟨x0, x1, x2⟩, y0, y1, y2⟩ := r3_cells BR.out; have hlR := BR.out.lt) | (go_at_call 41; (with_reducible refine Calls.mono (H2.out _) ?_); rintro ee wq ⟨rfl, rfl⟩))
      (try simp only [Exit.inBlock, Exit.then]); refine bodyPost_ret (v := .tuple #[.agg #[.slice none 0 0, .slice none 0 0, .int .i64 0], .slice none 0 0, .int .i64 2]) (by simp [results, Try.results11, go_sem, x0, x1, x2, hlR]; done) rfl ?_
      rw [hQ.out]
      exact payP_no (by decide) (by go_grown)
    | true =>
      have hQ := piC_3 hok hi
      rw [hi] at H2
      replace H2 := Lib.hid H2
      have hir := inR_iff.1 hi
      have H3 := fun W (hB : Below w.heap.size w W) => iPay_any S n c ss D m d ds ch inc W ((hS.below hB).more hB.size) ((hD.below hB).more hB.size) hcS hcD hok hir
      unfold ipyP at H3
      clear hS hD hok hi hir
      by_cases hle : paC ss ds (ch + inc) ≤ 1000000000000
      · have hK : payK ss ds (ch + inc) = 0 := if_pos hle
        rw [hK] at hQ
        rw [decide_eq_true hle] at H3
        replace H3 := Lib.hid H3
        clear hK hle
        go_enter Try.func11, Try.ntmps11
        go_wp2_with (first | (go_at_call 16; (with_reducible refine Calls.mono (H1.out _ hB) ?_); rintro ee wz ⟨rfl, hb⟩; replace hB := bel_step hB hb; replace BB := Lib.hid (blk_later BB.out hb); replace BR := Lib.hid (blk_later BR.out hb); clear hb; (try clear c0 c1 c2); obtain ⟨c0, c1, c2⟩ := c3_cells BB.out; have hlB := BB.out.lt; (try clear x0 x1 x2 y0 y1 y2); obtain ⟨⟨x0, x1, x2⟩, y0, y1, y2⟩ := r3_cells BR.out; have hlR := BR.out.lt) | (go_at_call 41; (with_reducible refine Calls.mono (H2.out _) ?_); rintro ee wq ⟨rfl, rfl⟩) | (go_at_call 46; (with_reducible refine Calls.mono (H3.out _ hB) ?_); rintro ee wy ⟨S', n', c', D', m', d', P, p, pc, rfl, ho, hop, hb⟩; have hz0 := hlR; have OC := Lib.hid (ho.mono (show w.heap.size + 2 ≤ _ from hz0)); have OP := Lib.hid (hop.mono (show w.heap.size + 2 ≤ _ from hz0)); replace hB := bel_step hB hb; replace BB := Lib.hid (blk_later BB.out hb); replace BR := Lib.hid (blk_later BR.out hb); clear hb ho hop; (try clear c0 c1 c2); obtain ⟨c0, c1, c2⟩ := c3_cells BB.out; have hlB := BB.out.lt; (try clear x0 x1 x2 y0 y1 y2); obtain ⟨⟨x0, x1, x2⟩, y0, y1, y2⟩ := r3_cells BR.out; have hlR := BR.out.lt))
        (try simp only [Exit.inBlock, Exit.then]); refine bodyPost_ret (v := .tuple #[.agg #[.slice S' n' c', .slice D' m' d', .int .i64 (paC ss ds (ch + inc))], .slice P p pc, .int .i64 0]) (by simp [results, Try.results11, go_sem, x0, x1, x2, hlR]; done) rfl ?_
        rw [hQ.out]
        refine ⟨S', n', c', D', m', d', P, p, pc, rfl, OwC.mono (base := w.heap.size + 2) ?_ (by omega), OwI.mono (base := w.heap.size + 2) ?_ (by omega), by go_grown⟩
        · rw [kL_0, kL_0]
          repeat (first | with_reducible refine OwC.alloc ?_ _ | with_reducible refine OwC.store ?_ (by first | (simp; done) | (simp; omega) | omega) _ | with_reducible exact OC.out)
        · rw [kL_0]
          repeat (first | with_reducible refine OwI.alloc ?_ _ | with_reducible refine OwI.store ?_ (by first | (simp; done) | (simp; omega) | omega) _ | with_reducible exact OP.out)
      · have hK : payK ss ds (ch + inc) = 3 := if_neg hle
        rw [hK] at hQ
        rw [decide_eq_false hle] at H3
        replace H3 := Lib.hid H3
        clear hK hle
        go_enter Try.func11, Try.ntmps11
        go_wp2_with (first | (go_at_call 16; (with_reducible refine Calls.mono (H1.out _ hB) ?_); rintro ee wz ⟨rfl, hb⟩; replace hB := bel_step hB hb; replace BB := Lib.hid (blk_later BB.out hb); replace BR := Lib.hid (blk_later BR.out hb); clear hb; (try clear c0 c1 c2); obtain ⟨c0, c1, c2⟩ := c3_cells BB.out; have hlB := BB.out.lt; (try clear x0 x1 x2 y0 y1 y2); obtain ⟨⟨x0, x1, x2⟩, y0, y1, y2⟩ := r3_cells BR.out; have hlR := BR.out.lt) | (go_at_call 41; (with_reducible refine Calls.mono (H2.out _) ?_); rintro ee wq ⟨rfl, rfl⟩) | (go_at_call 46; (with_reducible refine Calls.mono (H3.out _ hB) ?_); rintro ee wy ⟨S', n', c', D', m', d', P, p, pc, rfl, ho, hop, hb⟩; replace hB := bel_step hB hb; replace BB := Lib.hid (blk_later BB.out hb); replace BR := Lib.hid (blk_later BR.out hb); clear hb ho hop; (try clear c0 c1 c2); obtain ⟨c0, c1, c2⟩ := c3_cells BB.out; have hlB := BB.out.lt; (try clear x0 x1 x2 y0 y1 y2); obtain ⟨⟨x0, x1, x2⟩, y0, y1, y2⟩ := r3_cells BR.out; have hlR := BR.out.lt))
        (try simp only [Exit.inBlock, Exit.then]); refine bodyPost_ret (v := .tuple #[.agg #[.slice none 0 0, .slice none 0 0, .int .i64 0], .slice none 0 0, .int .i64 3]) (by simp [results, Try.results11, go_sem, x0, x1, x2, hlR]; done) rfl ?_
        rw [hQ.out]
        exact payP_no (by decide) (by go_grown)
set_option maxHeartbeats 1000000 in
theorem livS_any (S : Option Addr) (n c : Nat) (ss : List Int) (D : Option Addr) (m d : Nat) (ds : List Int) (ch : Int) (w : World) (hS : RdI w w.heap.size S n ss) (hD : RdI w w.heap.size D m ds) (hn : n ≤ 1000) (hm : m ≤ 3000000) (hok : okC ss ds ch = true) : Calls Try.prog 15 #[.agg #[.slice S n c, .slice D m d, .int .i64 ch]] w fun ee w' => ee = .returned (.tuple #[.int .i64 (lvS ss ds n), .int .i64 0]) ∧ Below w.heap.size w w' := by
  have hall := (okC_iff.1 hok).2.1
  have H1 := fun W (hB : Below w.heap.size w W) => iIsC_any S n c ss D m d ds ch W ((hS.below hB).more hB.size) ((hD.below hB).more hB.size) (by omega) (by omega)
  rw [hok] at H1
  replace H1 := Lib.hid H1
  have H2 := Lib.hid (fun W (hB : Below w.heap.size w W) => iLiv_any S n c ss D m d ds ch W ((hS.below hB).more hB.size) ((hD.below hB).more hB.size) hn hm hall)
  have BB := Lib.hid (Blk.new w 26 #[.slice S n c, .slice D m d, .int .i64 ch])
  have hB : Below w.heap.size w (w.alloc (.cells #[.slice S n c, .slice D m d, .int .i64 ch] 26)) := al_ _ _
  clear hS hD hok hall
  (try clear c0 c1 c2); obtain ⟨c0, c1, c2⟩ := c3_cells BB.out; have hlB := BB.out.lt
  go_enter Try.func15, Try.ntmps15
  go_wp2_with (first | (go_at_call 16; (with_reducible refine Calls.mono (H1.out _ hB) ?_); rintro ee wz ⟨rfl, hb⟩; replace hB := bel_step hB hb; replace BB := Lib.hid (blk_later BB.out hb); clear hb; (try clear c0 c1 c2); obtain ⟨c0, c1, c2⟩ := c3_cells BB.out; have hlB := BB.out.lt) | (go_at_call 53; (with_reducible refine Calls.mono (H2.out _ hB) ?_); rintro ee wz ⟨rfl, hb⟩; replace hB := bel_step hB hb; clear hb))
  go_returns
  exact ⟨rfl, hB⟩
theorem suF_nn {f : Nat → Int} : ∀ {n : Nat}, (∀ i, i < n → 0 ≤ f i) → 0 ≤ suF f n
  | 0, _ => Int.le_refl _
  | n + 1, h => by
    have h1 := suF_nn (n := n) (fun i hi => h i (by omega))
    have h2 := h n (by omega)
    show 0 ≤ suF f n + f n
    omega
theorem suF_le {f : Nat → Int} {n : Nat} (h : ∀ i, i < n → 0 ≤ f i) : ∀ {k : Nat}, k ≤ n → suF f k ≤ suF f n := by
  intro k hk
  obtain ⟨j, rfl⟩ : ∃ j, n = k + j := ⟨n - k, by omega⟩
  clear hk
  induction j with
  | zero => exact Int.le_refl _
  | succ j ih =>
    have h1 := ih (fun i hi => h i (by omega))
    have h2 := h (k + j) (by omega)
    show _ ≤ suF f (k + j) + f (k + j)
    omega
set_option maxHeartbeats 1000000 in
theorem sum_any (A : Option Addr) (n c : Nat) (xs : List Int) (w : World) (h : RdI w w.heap.size A n xs) (hn : n ≤ 1048576) (h0 : ∀ x ∈ xs, 0 ≤ x) (hs : suL xs ≤ 9000000000000000000) : Calls Try.prog 17 #[.slice A n c] w fun e w' => e = .returned (.int .i64 (suL xs)) ∧ w = w' := by
  have hl := h.len
  have hp : Hid (∀ k, k ≤ n → 0 ≤ suF (gz xs) k ∧ suF (gz xs) k ≤ 9000000000000000000) := Lib.hid (fun k hk => by
    have h1 : ∀ i, i < n → 0 ≤ gz xs i := fun i hi => h0 _ (gz_mem (by omega))
    have h2 := suF_le h1 hk
    rw [suL_gz, hl] at hs
    exact ⟨suF_nn (fun i hi => h1 i (by omega)), by omega⟩)
  have he : Hid (suL xs = suF (gz xs) n) := Lib.hid (by rw [suL_gz, hl])
  have H := Lib.hid h
  clear h h0 hs hl
  go_enter Try.func17, Try.ntmps17
  go_wp2
  go_loopw [3, 4] (fun x i wr => ∃ k : Nat, k ≤ n ∧ i = .int .i64 k ∧ x = .int .i64 (suF (gz xs) k) ∧ wr = w) (fun _ i _ => n - (intOf i).toNat)
  case atStart => exact ⟨0, Nat.zero_le _, rfl, rfl, rfl⟩
  case round =>
    obtain ⟨k, hk, rfl, rfl, rfl⟩ := hrel
    by_cases hlt : k < n
    · obtain ⟨ad, rfl, hb, hc⟩ := RdI.atZ H.out hlt
      have h1 := hp.out (k + 1) (by omega)
      have h2 : Hid (suF (gz xs) (k + 1) = suF (gz xs) k + gz xs k) := Lib.hid rfl
      rw [h2.out] at h1
      have q5 := IntWalk.i64_in (suF (gz xs) k + gz xs k) (by omega)
      clear h1
      go_wp2
      go_roundw
      case rel => exact ⟨k + 1, by omega, by go_num, by rw [h2.out], by first | rfl | trivial⟩
      case measure => simp [intOf]; omega
    · obtain rfl : k = n := by omega
      go_wp2
      go_ret
      exact ⟨by rw [he.out]; rfl, rfl⟩
set_option maxHeartbeats 1000000 in
theorem likeC_same (S S' : Option Addr) (n c c' : Nat) (ss : List Int) (D D' : Option Addr) (m d d' : Nat) (ds : List Int) (ch : Int) (w : World) (h1 : RdI w w.heap.size S n ss) (h2 : RdI w w.heap.size S' n ss) (h3 : RdI w w.heap.size D m ds) (h4 : RdI w w.heap.size D' m ds) (hn : n ≤ maxLen) (hm : m ≤ maxLen) : Calls Try.prog 13 #[.agg #[.slice S n c, .slice D m d, .int .i64 ch], .agg #[.slice S' n c', .slice D' m d', .int .i64 ch]] w fun ee w' => ee = .returned (.bool true) ∧ Below w.heap.size w w' := by
  have H1 := Lib.hid (fun W (hB : Below w.heap.size w W) => likeInts_same S S' n c c' _ _ ss W ((h1.below hB).more hB.size) ((h2.below hB).more hB.size) hn)
  have H2 := Lib.hid (fun W (hB : Below w.heap.size w W) => likeInts_same D D' m d d' _ _ ds W ((h3.below hB).more hB.size) ((h4.below hB).more hB.size) hm)
  have BA := Lib.hid ((Blk.new w 26 #[.slice S n c, .slice D m d, .int .i64 ch]).alloc (.cells #[.slice S' n c', .slice D' m d', .int .i64 ch] 26))
  have BB := Lib.hid (Blk.new (w.alloc (.cells #[.slice S n c, .slice D m d, .int .i64 ch] 26)) 26 #[.slice S' n c', .slice D' m d', .int .i64 ch])
  rw [World.size_alloc] at BB
  have hB : Below w.heap.size w ((w.alloc (.cells #[.slice S n c, .slice D m d, .int .i64 ch] 26)).alloc (.cells #[.slice S' n c', .slice D' m d', .int .i64 ch] 26)) := (al_ _ _).alloc (by simp) _
  clear h1 h2 h3 h4 hn hm
  (try clear c0 c1 c2); obtain ⟨c0, c1, c2⟩ := c3_cells BB.out; have hlB := BB.out.lt
  (try clear a0 a1 a2); obtain ⟨a0, a1, a2⟩ := c3_cells BA.out; have hlA := BA.out.lt
  go_enter Try.func13, Try.ntmps13
  go_wp2_with (first | (go_at_call 14; (with_reducible refine Calls.mono (H1.out _ hB) ?_); rintro ee wz ⟨rfl, hb⟩; replace hB := bel_step hB hb; replace BA := Lib.hid (blk_later BA.out hb); replace BB := Lib.hid (blk_later BB.out hb); clear hb; (try clear c0 c1 c2); obtain ⟨c0, c1, c2⟩ := c3_cells BB.out; have hlB := BB.out.lt; (try clear a0 a1 a2); obtain ⟨a0, a1, a2⟩ := c3_cells BA.out; have hlA := BA.out.lt) | (go_at_call 14; (with_reducible refine Calls.mono (H2.out _ hB) ?_); rintro ee wz ⟨rfl, hb⟩; replace hB := bel_step hB hb; replace BA := Lib.hid (blk_later BA.out hb); replace BB := Lib.hid (blk_later BB.out hb); clear hb; (try clear c0 c1 c2); obtain ⟨c0, c1, c2⟩ := c3_cells BB.out; have hlB := BB.out.lt; (try clear a0 a1 a2); obtain ⟨a0, a1, a2⟩ := c3_cells BA.out; have hlA := BA.out.lt))
  go_returns
  exact ⟨rfl, hB⟩
end Go.Proofs.Ytmhbkabdiciakaa
