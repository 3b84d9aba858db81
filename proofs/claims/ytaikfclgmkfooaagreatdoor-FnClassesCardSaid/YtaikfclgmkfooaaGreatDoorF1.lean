/-
  Contracts of chapter 13: BuryMembers, and what the law asks of classes: their size, copies, likeness, marks.
-/
import Derived.Test.YtaikfclgmkfooaaGreatDoorE1
import Derived.Test.YtaikfclgmkfooaaGreatDoorS
set_option linter.unusedSimpArgs false
set_option linter.unusedVariables false
namespace Go.Proofs.YtaikfclgmkfooaaGreatDoor
open Go.RowKit
/-- the code of BuryMembers -/
def bmC (ss ds ms : List Int) (ch : Int) : Int := if okC ss ds ch = true then buC ss ds ms else 1
theorem buC_in {ss ds ms : List Int} (h : ms.length ≤ 120 ∧ ms.all (inR 0 ((ss.length : Int) - 1)) = true) : buC ss ds ms = bR ds ms := by unfold buC bR; rw [if_pos h]
set_option maxHeartbeats 1000000 in
set_option maxRecDepth 100000 in
theorem iBM_any (S : Option Addr) (n c : Nat) (ss : List Int) (D : Option Addr) (m d : Nat) (ds : List Int) (ch : Int) (M : Option Addr) (l e : Nat) (ms : List Int) (w : World) (hS : RdI w w.heap.size S n ss) (hD : RdI w w.heap.size D m ds) (hM : RdI w w.heap.size M l ms) (hcS : S = none → c = 0) (hcD : D = none → d = 0) (hcM : M = none → e = 0) (hn : n ≤ 1048576) (hm : m ≤ 1048576) (hl : l ≤ 1048576) : Calls Tryz.prog 12 #[.agg #[.slice S n c, .slice D m d, .int .i64 ch], .slice M l e] w fun ee w' => buP w w' ee (bmC ss ds ms ch) ss (srt (ds ++ ms)) ch := by
  have H1 := fun W (hB : Below w.heap.size w W) => iIsC_any S n c ss D m d ds ch W ((hS.below hB).more hB.size) ((hD.below hB).more hB.size) (by omega) (by omega)
  have BB := Lib.hid ((Blk.new w 26 #[.slice S n c, .slice D m d, .int .i64 ch]).alloc (.cells #[.slice none 0 0, .slice none 0 0, .int .i64 0] 26))
  have BR := Lib.hid (Blk.new (w.alloc (.cells #[.slice S n c, .slice D m d, .int .i64 ch] 26)) 26 #[.slice none 0 0, .slice none 0 0, .int .i64 0])
  rw [World.size_alloc] at BR
  have hB : Below w.heap.size w ((w.alloc (.cells #[.slice S n c, .slice D m d, .int .i64 ch] 26)).alloc (.cells #[.slice none 0 0, .slice none 0 0, .int .i64 0] 26)) := (al_ _ _).alloc (by simp) _
  cases h1 : okC ss ds ch with
  | false =>
    have hQ : Hid (bmC ss ds ms ch = 1) := Lib.hid (by unfold bmC; rw [h1]; rfl)
    rw [h1] at H1
    replace H1 := Lib.hid H1
    clear hS hD hM h1
    go_enter Tryz.func12, Tryz.ntmps12
    go_wp2_with (go_at_call 18; (with_reducible refine Calls.mono (H1.out _ hB) ?_); rintro ee wz ⟨rfl, hb⟩; replace hB := bel_step hB hb; replace BB := Lib.hid (blk_later BB.out hb); replace BR := Lib.hid (blk_later BR.out hb); (try clear c0 c1 c2); obtain ⟨c0, c1, c2⟩ := c3_cells BB.out; have hlB := BB.out.lt; (try clear x0 x1 x2 y0 y1 y2); obtain ⟨⟨x0, x1, x2⟩, y0, y1, y2⟩ := r3_cells BR.out; have hlR := BR.out.lt; clear hb)
    (try simp only [Exit.inBlock, Exit.then]); refine bodyPost_ret (v := .tuple #[.agg #[.slice none 0 0, .slice none 0 0, .int .i64 0], .int .i64 1]) (by simp [results, Tryz.results12, go_sem, x0, x1, x2, hlR]; done) rfl ?_
    rw [hQ.out]
    exact buP_no (by decide) (by go_grown)
  | true =>
    have hQ : Hid (bmC ss ds ms ch = buC ss ds ms) := Lib.hid (by unfold bmC; rw [h1]; rfl)
    have HU := Lib.hid (fun W (hB : Below w.heap.size w W) => iBury_any S n c ss D m d ds ch M l e ms W ((hS.below hB).more hB.size) ((hD.below hB).more hB.size) ((hM.below hB).more hB.size) hcS hcD hcM (by omega) h1)
    rw [h1] at H1
    replace H1 := Lib.hid H1
    clear hS hD hM h1
    generalize buC ss ds ms = k at *
    generalize srt (ds ++ ms) = L at *
    go_enter Tryz.func12, Tryz.ntmps12
    go_wp2_with (first | (go_at_call 18; (with_reducible refine Calls.mono (H1.out _ hB) ?_); rintro ee wz ⟨rfl, hb⟩; replace hB := bel_step hB hb; replace BB := Lib.hid (blk_later BB.out hb); replace BR := Lib.hid (blk_later BR.out hb); (try clear c0 c1 c2); obtain ⟨c0, c1, c2⟩ := c3_cells BB.out; have hlB := BB.out.lt; (try clear x0 x1 x2 y0 y1 y2); obtain ⟨⟨x0, x1, x2⟩, y0, y1, y2⟩ := r3_cells BR.out; have hlR := BR.out.lt; clear hb) | (go_at_call 33; (with_reducible refine Calls.mono (HU.out _ hB) ?_); rintro ee w8 ⟨S', n', c', D', m', d', rfl, OC, hb⟩; replace OC := Lib.hid (OC.mono (show w.heap.size + 2 ≤ _ from hlR)); replace hB := bel_step hB hb; replace BB := Lib.hid (blk_later BB.out hb); replace BR := Lib.hid (blk_later BR.out hb); (try clear c0 c1 c2); obtain ⟨c0, c1, c2⟩ := c3_cells BB.out; have hlB := BB.out.lt; (try clear x0 x1 x2 y0 y1 y2); obtain ⟨⟨x0, x1, x2⟩, y0, y1, y2⟩ := r3_cells BR.out; have hlR := BR.out.lt; clear hb))
    (try simp only [Exit.inBlock, Exit.then]); refine bodyPost_ret (v := .tuple #[.agg #[.slice S' n' c', .slice D' m' d', .int .i64 (kI k ch)], .int .i64 k]) (by simp [results, Tryz.results12, go_sem, x0, x1, x2, hlR]; done) rfl ?_
    rw [hQ.out]
    exact ⟨S', n', c', D', m', d', rfl, (((OC.out.store (by show w.heap.size + 1 < _; omega) _).store (by show w.heap.size + 1 < _; omega) _).store (by show w.heap.size + 1 < _; omega) _).mono (by omega), by go_grown⟩
set_option maxHeartbeats 1000000 in
set_option maxRecDepth 100000 in
theorem sBM_any (S : Option Addr) (n c : Nat) (ss : List Int) (D : Option Addr) (m d : Nat) (ds : List Int) (ch : Int) (M : Option Addr) (l e : Nat) (ms : List Int) (w : World) (hS : RdI w w.heap.size S n ss) (hD : RdI w w.heap.size D m ds) (hM : RdI w w.heap.size M l ms) (hcS : S = none → c = 0) (hcD : D = none → d = 0) (hcM : M = none → e = 0) (hn : n ≤ 1048576) (hm : m ≤ 1048576) (hl : l ≤ 1048576) : Calls Tryz.prog 13 #[.agg #[.slice S n c, .slice D m d, .int .i64 ch], .slice M l e] w fun ee w' => buP w w' ee (bmC ss ds ms ch) ss (srt (ds ++ ms)) ch := by
  have H1 := fun W (hB : Below w.heap.size w W) => sIsC_any S n c ss D m d ds ch W ((hS.below hB).more hB.size) ((hD.below hB).more hB.size) (by omega) (by omega)
  have H2 := fun W (hB : Below w.heap.size w W) => within_any M l e ms 120 0 ((n : Int) - 1) W ((hM.below hB).more hB.size) (by unfold maxLen; omega)
  have q1 := IntWalk.i64_in ((n : Int) - 1) (by omega)
  have BB := Lib.hid ((Blk.new w 26 #[.slice S n c, .slice D m d, .int .i64 ch]).alloc (.cells #[.slice none 0 0, .slice none 0 0, .int .i64 0] 26))
  have BR := Lib.hid (Blk.new (w.alloc (.cells #[.slice S n c, .slice D m d, .int .i64 ch] 26)) 26 #[.slice none 0 0, .slice none 0 0, .int .i64 0])
  rw [World.size_alloc] at BR
  have hB : Below w.heap.size w ((w.alloc (.cells #[.slice S n c, .slice D m d, .int .i64 ch] 26)).alloc (.cells #[.slice none 0 0, .slice none 0 0, .int .i64 0] 26)) := (al_ _ _).alloc (by simp) _
  cases h1 : okC ss ds ch with
  | false =>
    have hQ : Hid (bmC ss ds ms ch = 1) := Lib.hid (by unfold bmC; rw [h1]; rfl)
    rw [h1] at H1
    replace H1 := Lib.hid H1
    clear hS hD hM h1 H2
    go_enter Tryz.func13, Tryz.ntmps13
    go_wp2_with (go_at_call 23; (with_reducible refine Calls.mono (H1.out _ hB) ?_); rintro ee wz ⟨rfl, hb⟩; replace hB := bel_step hB hb; replace BB := Lib.hid (blk_later BB.out hb); replace BR := Lib.hid (blk_later BR.out hb); (try clear c0 c1 c2); obtain ⟨c0, c1, c2⟩ := c3_cells BB.out; have hlB := BB.out.lt; (try clear x0 x1 x2 y0 y1 y2); obtain ⟨⟨x0, x1, x2⟩, y0, y1, y2⟩ := r3_cells BR.out; have hlR := BR.out.lt; clear hb)
    (try simp only [Exit.inBlock, Exit.then]); refine bodyPost_ret (v := .tuple #[.agg #[.slice none 0 0, .slice none 0 0, .int .i64 0], .int .i64 1]) (by simp [results, Tryz.results13, go_sem, x0, x1, x2, hlR]; done) rfl ?_
    rw [hQ.out]
    exact buP_no (by decide) (by go_grown)
  | true =>
    rw [h1] at H1
    replace H1 := Lib.hid H1
    have hlm := hM.len
    have hln := hS.len
    cases h2 : (ms.all (inR 0 ((n : Int) - 1)) && decide ((l : Int) ≤ 120)) with
    | false =>
      have hQ : Hid (bmC ss ds ms ch = 2) := Lib.hid (by
        unfold bmC
        rw [if_pos h1]
        refine buC_2 (fun h => ?_)
        rw [hln] at h
        rw [h.2, Bool.true_and, decide_eq_false_iff_not] at h2
        omega)
      rw [h2] at H2
      replace H2 := Lib.hid H2
      clear hS hD hM h1 h2 hlm hln
      go_enter Tryz.func13, Tryz.ntmps13
      go_wp2_with (first | (go_at_call 23; (with_reducible refine Calls.mono (H1.out _ hB) ?_); rintro ee wz ⟨rfl, hb⟩; replace hB := bel_step hB hb; replace BB := Lib.hid (blk_later BB.out hb); replace BR := Lib.hid (blk_later BR.out hb); (try clear c0 c1 c2); obtain ⟨c0, c1, c2⟩ := c3_cells BB.out; have hlB := BB.out.lt; (try clear x0 x1 x2 y0 y1 y2); obtain ⟨⟨x0, x1, x2⟩, y0, y1, y2⟩ := r3_cells BR.out; have hlR := BR.out.lt; clear hb) | (go_at_call 34; (with_reducible refine Calls.mono (H2.out _ hB) ?_); rintro ee wz ⟨rfl, rfl⟩))
      (try simp only [Exit.inBlock, Exit.then]); refine bodyPost_ret (v := .tuple #[.agg #[.slice none 0 0, .slice none 0 0, .int .i64 0], .int .i64 2]) (by simp [results, Tryz.results13, go_sem, x0, x1, x2, hlR]; done) rfl ?_
      rw [hQ.out]
      exact buP_no (by decide) (by go_grown)
    | true =>
      rw [h2] at H2
      replace H2 := Lib.hid H2
      rw [Bool.and_eq_true, decide_eq_true_eq] at h2
      have hQ : Hid (bmC ss ds ms ch = bR ds ms) := Lib.hid (by unfold bmC; rw [if_pos h1]; exact buC_in ⟨by omega, by rw [hln]; exact h2.1⟩)
      have HU := Lib.hid (fun W (hB : Below w.heap.size w W) => sBury_any S n c ss D m d ds ch M l e ms W ((hS.below hB).more hB.size) ((hD.below hB).more hB.size) ((hM.below hB).more hB.size) hcS hcD hcM (by omega) h1 (by omega))
      clear hS hD hM h1 h2 hlm hln
      generalize bR ds ms = k at *
      generalize srt (ds ++ ms) = L at *
      go_enter Tryz.func13, Tryz.ntmps13
      go_wp2_with (first | (go_at_call 23; (with_reducible refine Calls.mono (H1.out _ hB) ?_); rintro ee wz ⟨rfl, hb⟩; replace hB := bel_step hB hb; replace BB := Lib.hid (blk_later BB.out hb); replace BR := Lib.hid (blk_later BR.out hb); (try clear c0 c1 c2); obtain ⟨c0, c1, c2⟩ := c3_cells BB.out; have hlB := BB.out.lt; (try clear x0 x1 x2 y0 y1 y2); obtain ⟨⟨x0, x1, x2⟩, y0, y1, y2⟩ := r3_cells BR.out; have hlR := BR.out.lt; clear hb) | (go_at_call 34; (with_reducible refine Calls.mono (H2.out _ hB) ?_); rintro ee wz ⟨rfl, rfl⟩) | (go_at_call 35; (with_reducible refine Calls.mono (HU.out _ hB) ?_); rintro ee w8 ⟨S', n', c', D', m', d', rfl, OC, hb⟩; replace OC := Lib.hid (OC.mono (show w.heap.size + 2 ≤ _ from hlR)); replace hB := bel_step hB hb; replace BB := Lib.hid (blk_later BB.out hb); replace BR := Lib.hid (blk_later BR.out hb); (try clear c0 c1 c2); obtain ⟨c0, c1, c2⟩ := c3_cells BB.out; have hlB := BB.out.lt; (try clear x0 x1 x2 y0 y1 y2); obtain ⟨⟨x0, x1, x2⟩, y0, y1, y2⟩ := r3_cells BR.out; have hlR := BR.out.lt; clear hb))
      (try simp only [Exit.inBlock, Exit.then]); refine bodyPost_ret (v := .tuple #[.agg #[.slice S' n' c', .slice D' m' d', .int .i64 (kI k ch)], .int .i64 k]) (by simp [results, Tryz.results13, go_sem, x0, x1, x2, hlR]; done) rfl ?_
      rw [hQ.out]
      exact ⟨S', n', c', D', m', d', rfl, (((OC.out.store (by show w.heap.size + 1 < _; omega) _).store (by show w.heap.size + 1 < _; omega) _).store (by show w.heap.size + 1 < _; omega) _).mono (by omega), by go_grown⟩
end Go.Proofs.YtaikfclgmkfooaaGreatDoor
