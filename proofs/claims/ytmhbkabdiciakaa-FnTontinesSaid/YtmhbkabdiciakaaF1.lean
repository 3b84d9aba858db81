/-
  Contracts of chapter 13: BuryMembers, and what the law asks of classes: their size, copies, likeness, marks.
-/
import Derived.Test.YtmhbkabdiciakaaE1
import Derived.Test.YtmhbkabdiciakaaS
set_option linter.unusedSimpArgs false
set_option linter.unusedVariables false
namespace Go.Proofs.Ytmhbkabdiciakaa
open Go.RowKit
/-- the code of BuryMembers -/
def bmC (ss ds ms : List Int) (ch : Int) : Int := if okC ss ds ch = true then buC ss ds ms else 1
theorem buC_in {ss ds ms : List Int} (h : ms.length ≤ 120 ∧ ms.all (inR 0 ((ss.length : Int) - 1)) = true) : buC ss ds ms = bR ds ms := by unfold buC bR; rw [if_pos h]
set_option maxHeartbeats 1000000 in
set_option maxRecDepth 100000 in
theorem iBM_any (S : Option Addr) (n c : Nat) (ss : List Int) (D : Option Addr) (m d : Nat) (ds : List Int) (ch : Int) (M : Option Addr) (l e : Nat) (ms : List Int) (w : World) (hS : RdI w w.heap.size S n ss) (hD : RdI w w.heap.size D m ds) (hM : RdI w w.heap.size M l ms) (hcS : S = none → c = 0) (hcD : D = none → d = 0) (hcM : M = none → e = 0) (hn : n ≤ 1048576) (hm : m ≤ 1048576) (hl : l ≤ 1048576) : Calls Try.prog 22 #[.agg #[.slice S n c, .slice D m d, .int .i64 ch], .slice M l e] w fun ee w' => buP w w' ee (bmC ss ds ms ch) ss (srt (ds ++ ms)) ch := by
  have H1 := fun W (hB : Below w.heap.size w W) => iIsC_any S n c ss D m d ds ch W ((hS.below hB).more hB.size) ((hD.below hB).more hB.size) (by omega) (by omega)
  have BB := Lib.hid ((Blk.new w 26 #[.slice S n c, .slice D m d, .int .i64 ch]).alloc (.cells #[.slice none 0 0, .slice none 0 0, .int .i64 0] 26))
  have BR := Lib.hid (Blk.new (w.alloc (.cells #[.slice S n c, .slice D m d, .int .i64 ch] 26)) 26 #[.slice none 0 0, .slice none 0 0, .int .i64 0])
  rw [World.size_alloc] at BR
  have hB : Below w.heap.size w ((w.alloc (.cells #[.slice S n c, .slice D m d, .int .i64 ch] 26)).alloc (.cells #[.slice none 0 0, .slice none 0 0, .int .i64 0] 26)) := (al_ _ _).alloc (by simp) _
  cases h1 : okC ss ds ch with
  | false =>
    have hQ : Hid (bmC ss ds ms ch = 1) := Lib.hid (by unfold bmC; rw [h1]; rfl)
    rw [h1] at H1
    replace H1 := Lib.hid H1
    clear hS hD hM h1
    go_enter Try.func22, Try.ntmps22
    go_wp2_with (go_at_call 16; (with_reducible refine Calls.mono (H1.out _ hB) ?_); rintro ee wz ⟨rfl, hb⟩; replace hB := bel_step hB hb; replace BB := Lib.hid (blk_later BB.out hb); replace BR := Lib.hid (blk_later BR.out hb); (try clear c0 c1 c2); obtain ⟨c0, c1, c2⟩ := c3_cells BB.out; have hlB := BB.out.lt; (try clear x0 x1 x2 y0 y1 y2); obtain ⟨⟨x0, x1, x2⟩, y0, y1, y2⟩ := r3_cells BR.out; have hlR := BR.out.lt; clear hb)
    (try simp only [Exit.inBlock, Exit.then]); refine bodyPost_ret (v := .tuple #[.agg #[.slice none 0 0, .slice none 0 0, .int .i64 0], .int .i64 1]) (by simp [results, Try.results22, go_sem, x0, x1, x2, hlR]; done) rfl ?_
    rw [hQ.out]
    exact buP_no (by decide) (by go_grown)
  | true =>
    have hQ : Hid (bmC ss ds ms ch = buC ss ds ms) := Lib.hid (by unfold bmC; rw [h1]; rfl)
    have HU := Lib.hid (fun W (hB : Below w.heap.size w W) => iBury_any S n c ss D m d ds ch M l e ms W ((hS.below hB).more hB.size) ((hD.below hB).more hB.size) ((hM.below hB).more hB.size) hcS hcD hcM (by omega) h1)
    rw [h1] at H1
    replace H1 := Lib.hid H1
    clear hS hD hM h1
    generalize buC ss ds ms = k at *
    generalize srt (ds ++ ms) = L at *
    go_enter Try.func22, Try.ntmps22
    go_wp2_with (first | (go_at_call 16; (with_reducible refine Calls.mono (H1.out _ hB) ?_); rintro ee wz ⟨rfl, hb⟩; replace hB := bel_step hB hb; replace BB := Lib.hid (blk_later BB.out hb); replace BR := Lib.hid (blk_later BR.out hb); (try clear c0 c1 c2); obtain ⟨c0, c1, c2⟩ := c3_cells BB.out; have hlB := BB.out.lt; (try clear x0 x1 x2 y0 y1 y2); obtain ⟨⟨x0, x1, x2⟩, y0, y1, y2⟩ := r3_cells BR.out; have hlR := BR.out.lt; clear hb) | (go_at_call 45; (with_reducible refine Calls.mono (HU.out _ hB) ?_); rintro ee w8 ⟨S', n', c', D', m', d', rfl, OC, hb⟩; replace OC := Lib.hid (OC.mono (show w.heap.size + 2 ≤ _ from hlR)); replace hB := bel_step hB hb; replace BB := Lib.hid (blk_later BB.out hb); replace BR := Lib.hid (blk_later BR.out hb); (try clear c0 c1 c2); obtain ⟨c0, c1, c2⟩ := c3_cells BB.out; have hlB := BB.out.lt; (try clear x0 x1 x2 y0 y1 y2); obtain ⟨⟨x0, x1, x2⟩, y0, y1, y2⟩ := r3_cells BR.out; have hlR := BR.out.lt; clear hb))
    (try simp only [Exit.inBlock, Exit.then]); refine bodyPost_ret (v := .tuple #[.agg #[.slice S' n' c', .slice D' m' d', .int .i64 (kI k ch)], .int .i64 k]) (by simp [results, Try.results22, go_sem, x0, x1, x2, hlR]; done) rfl ?_
    rw [hQ.out]
    exact ⟨S', n', c', D', m', d', rfl, (((OC.out.store (by show w.heap.size + 1 < _; omega) _).store (by show w.heap.size + 1 < _; omega) _).store (by show w.heap.size + 1 < _; omega) _).mono (by omega), by go_grown⟩
set_option maxHeartbeats 1000000 in
set_option maxRecDepth 100000 in
theorem sBM_any (S : Option Addr) (n c : Nat) (ss : List Int) (D : Option Addr) (m d : Nat) (ds : List Int) (ch : Int) (M : Option Addr) (l e : Nat) (ms : List Int) (w : World) (hS : RdI w w.heap.size S n ss) (hD : RdI w w.heap.size D m ds) (hM : RdI w w.heap.size M l ms) (hcS : S = none → c = 0) (hcD : D = none → d = 0) (hcM : M = none → e = 0) (hn : n ≤ 1048576) (hm : m ≤ 1048576) (hl : l ≤ 1048576) : Calls Try.prog 19 #[.agg #[.slice S n c, .slice D m d, .int .i64 ch], .slice M l e] w fun ee w' => buP w w' ee (bmC ss ds ms ch) ss (srt (ds ++ ms)) ch := by
  have H1 := fun W (hB : Below w.heap.size w W) => sIsC_any S n c ss D m d ds ch W ((hS.below hB).more hB.size) ((hD.below hB).more hB.size) (by omega) (by omega)
  have H2 := fun W (hB : Below w.heap.size w W) => within_any M l e ms 120 0 ((n : Int) - 1) W ((hM.below hB).more hB.size) (by unfold maxLen; omega)
  have q1 := IntWalk.i64_in ((n : Int) - 1) (by omega)
  have BB := Lib.hid ((Blk.new w 26 #[.slice S n c, .slice D m d, .int .i64 ch]).alloc (.cells #[.slice none 0 0, .slice none 0 0, .int .i64 0] 26))
  have BR := Lib.hid (Blk.new (w.alloc (.cells #[.slice S n c, .slice D m d, .int .i64 ch] 26)) 26 #[.slice none 0 0, .slice none 0 0, .int .i64 0])
  rw [World.size_alloc] at BR
  have hB : Below w.heap.size w ((w.alloc (.cells #[.slice S n c, .slice D m d, .int .i64 ch] 26)).alloc (.cells #[.slice none 0 0, .slice none 0 0, .int .i64 0] 26)) := (al_ _ _).alloc (by simp) _
  cases h1 : okC ss ds ch with
  | false =>
    have hQ : Hid (bmC ss ds ms ch = 1) := Lib.hid (by unfold bmC; rw [h1]; rfl)
    rw [h1] at H1
    replace H1 := Lib.hid H1
    clear hS hD hM h1 H2
    go_enter Try.func19, Try.ntmps19
    go_wp2_with (go_at_call 47; (with_reducible refine Calls.mono (H1.out _ hB) ?_); rintro ee wz ⟨rfl, hb⟩; replace hB := bel_step hB hb; replace BB := Lib.hid (blk_later BB.out hb); replace BR := Lib.hid (blk_later BR.out hb); (try clear c0 c1 c2); obtain ⟨c0, c1, c2⟩ := c3_cells BB.out; have hlB := BB.out.lt; (try clear x0 x1 x2 y0 y1 y2); obtain ⟨⟨x0, x1, x2⟩, y0, y1, y2⟩ := r3_cells BR.out; have hlR := BR.out.lt; clear hb)
    (try simp only [Exit.inBlock, Exit.then]); refine bodyPost_ret (v := .tuple #[.agg #[.slice none 0 0, .slice none 0 0, .int .i64 0], .int .i64 1]) (by simp [results, Try.results19, go_sem, x0, x1, x2, hlR]; done) rfl ?_
    rw [hQ.out]
    exact buP_no (by decide) (by go_grown)
  | true =>
    rw [h1] at H1
    replace H1 := Lib.hid H1
    have hlm := hM.len
    have hln := hS.len
    cases h2 : (ms.all (inR 0 ((n : Int) - 1)) && decide ((l : Int) ≤ 120)) with
    | false =>
      have hQ : Hid (bmC ss ds ms ch = 2) := Lib.hid (by
        unfold bmC
        rw [if_pos h1]
        refine buC_2 (fun h => ?_)
        rw [hln] at h
        rw [h.2, Bool.true_and, decide_eq_false_iff_not] at h2
        omega)
      rw [h2] at H2
      replace H2 := Lib.hid H2
      clear hS hD hM h1 h2 hlm hln
      go_enter Try.func19, Try.ntmps19
      go_wp2_with (first | (go_at_call 47; (with_reducible refine Calls.mono (H1.out _ hB) ?_); rintro ee wz ⟨rfl, hb⟩; replace hB := bel_step hB hb; replace BB := Lib.hid (blk_later BB.out hb); replace BR := Lib.hid (blk_later BR.out hb); (try clear c0 c1 c2); obtain ⟨c0, c1, c2⟩ := c3_cells BB.out; have hlB := BB.out.lt; (try clear x0 x1 x2 y0 y1 y2); obtain ⟨⟨x0, x1, x2⟩, y0, y1, y2⟩ := r3_cells BR.out; have hlR := BR.out.lt; clear hb) | (go_at_call 48; (with_reducible refine Calls.mono (H2.out _ hB) ?_); rintro ee wz ⟨rfl, rfl⟩))
      (try simp only [Exit.inBlock, Exit.then]); refine bodyPost_ret (v := .tuple #[.agg #[.slice none 0 0, .slice none 0 0, .int .i64 0], .int .i64 2]) (by simp [results, Try.results19, go_sem, x0, x1, x2, hlR]; done) rfl ?_
      rw [hQ.out]
      exact buP_no (by decide) (by go_grown)
    | true =>
      rw [h2] at H2
      replace H2 := Lib.hid H2
      rw [Bool.and_eq_true, decide_eq_true_eq] at h2
      have hQ : Hid (bmC ss ds ms ch = bR ds ms) := Lib.hid (by unfold bmC; rw [if_pos h1]; exact buC_in ⟨by omega, by rw [hln]; exact h2.1⟩)
      have HU := Lib.hid (fun W (hB : Below w.heap.size w W) => sBury_any S n c ss D m d ds ch M l e ms W ((hS.below hB).more hB.size) ((hD.below hB).more hB.size) ((hM.below hB).more hB.size) hcS hcD hcM (by omega) h1 (by omega))
      clear hS hD hM h1 h2 hlm hln
      generalize bR ds ms = k at *
      generalize srt (ds ++ ms) = L at *
      go_enter Try.func19, Try.ntmps19
      go_wp2_with (first | (go_at_call 47; (with_reducible refine Calls.mono (H1.out _ hB) ?_); rintro ee wz ⟨rfl, hb⟩; replace hB := bel_step hB hb; replace BB := Lib.hid (blk_later BB.out hb); replace BR := Lib.hid (blk_later BR.out hb); (try clear c0 c1 c2); obtain ⟨c0, c1, c2⟩ := c3_cells BB.out; have hlB := BB.out.lt; (try clear x0 x1 x2 y0 y1 y2); obtain ⟨⟨x0, x1, x2⟩, y0, y1, y2⟩ := r3_cells BR.out; have hlR := BR.out.lt; clear hb) | (go_at_call 48; (with_reducible refine Calls.mono (H2.out _ hB) ?_); rintro ee wz ⟨rfl, rfl⟩) | (go_at_call 50; (with_reducible refine Calls.mono (HU.out _ hB) ?_); rintro ee w8 ⟨S', n', c', D', m', d', rfl, OC, hb⟩; replace OC := Lib.hid (OC.mono (show w.heap.size + 2 ≤ _ from hlR)); replace hB := bel_step hB hb; replace BB := Lib.hid (blk_later BB.out hb); replace BR := Lib.hid (blk_later BR.out hb); (try clear c0 c1 c2); obtain ⟨c0, c1, c2⟩ := c3_cells BB.out; have hlB := BB.out.lt; (try clear x0 x1 x2 y0 y1 y2); obtain ⟨⟨x0, x1, x2⟩, y0, y1, y2⟩ := r3_cells BR.out; have hlR := BR.out.lt; clear hb))
      (try simp only [Exit.inBlock, Exit.then]); refine bodyPost_ret (v := .tuple #[.agg #[.slice S' n' c', .slice D' m' d', .int .i64 (kI k ch)], .int .i64 k]) (by simp [results, Try.results19, go_sem, x0, x1, x2, hlR]; done) rfl ?_
      rw [hQ.out]
      exact ⟨S', n', c', D', m', d', rfl, (((OC.out.store (by show w.heap.size + 1 < _; omega) _).store (by show w.heap.size + 1 < _; omega) _).store (by show w.heap.size + 1 < _; omega) _).mono (by omega), by go_grown⟩
set_option maxHeartbeats 400000 in
theorem szC_ok (S : Option Addr) (n c : Nat) (D : Option Addr) (m d : Nat) (ch : Int) (w : World) (h : n + m ≤ 1048576) : Calls Try.prog 18 #[.agg #[.slice S n c, .slice D m d, .int .i64 ch], .int .i64 1048576] w fun ee w' => ee = .returned (.int .i64 (1048576 - (n : Int) - (m : Int))) ∧ Below w.heap.size w w' := by
  have H1 := Lib.hid (fun W => szI_ok S n c 1048576 W (by omega) (by omega))
  have H2 := Lib.hid (fun W => szI_ok D m d (1048576 - (n : Int)) W (by omega) (by omega))
  go_enter Try.func18, Try.ntmps18
  go_wp2_with (first | (go_at_call 55; (with_reducible refine Calls.mono (H1.out _) ?_); rintro ee wz ⟨rfl, rfl⟩) | (go_at_call 55; (with_reducible refine Calls.mono (H2.out _) ?_); rintro ee wz ⟨rfl, rfl⟩))
  go_returns
  exact ⟨rfl, by go_grown⟩
set_option maxHeartbeats 400000 in
theorem szC_big (S : Option Addr) (n c : Nat) (D : Option Addr) (m d : Nat) (ch : Int) (w : World) (h : 1048576 < n + m) (hn : n ≤ maxLen) (hm : m ≤ maxLen) : Calls Try.prog 18 #[.agg #[.slice S n c, .slice D m d, .int .i64 ch], .int .i64 1048576] w fun ee w' => ee = .returned (.int .i64 (-1)) ∧ Below w.heap.size w w' := by
  by_cases h1 : n ≤ 1048576
  · have H1 := Lib.hid (fun W => szI_ok S n c 1048576 W (by omega) (by omega))
    have H2 := Lib.hid (fun W => szI_over D m d (1048576 - (n : Int)) W (by omega) (by omega) hm)
    clear hn hm
    go_enter Try.func18, Try.ntmps18
    go_wp2_with (first | (go_at_call 55; (with_reducible refine Calls.mono (H1.out _) ?_); rintro ee wz ⟨rfl, rfl⟩) | (go_at_call 55; (with_reducible refine Calls.mono (H2.out _) ?_); rintro ee wz ⟨rfl, rfl⟩))
    go_returns
    exact ⟨rfl, by go_grown⟩
  · have H1 := Lib.hid (fun W => szI_big S n c W (by omega) hn)
    clear hn hm
    go_enter Try.func18, Try.ntmps18
    go_wp2_with (go_at_call 55; (with_reducible refine Calls.mono (H1.out _) ?_); rintro ee wz ⟨rfl, rfl⟩)
    go_returns
    exact ⟨rfl, by go_grown⟩
set_option maxHeartbeats 400000 in
theorem eqC_same (S S' : Option Addr) (n c c' : Nat) (ss : List Int) (D D' : Option Addr) (m d d' : Nat) (ds : List Int) (ch : Int) (B1 B2 B3 B4 : Nat) (w : World) (h1 : RdI w B1 S n ss) (h2 : RdI w B2 S' n ss) (h3 : RdI w B3 D m ds) (h4 : RdI w B4 D' m ds) (hB1 : B1 ≤ w.heap.size) (hB2 : B2 ≤ w.heap.size) (hB3 : B3 ≤ w.heap.size) (hB4 : B4 ≤ w.heap.size) (hn : n ≤ maxLen) (hm : m ≤ maxLen) : Calls Try.prog 23 #[.agg #[.slice S n c, .slice D m d, .int .i64 ch], .agg #[.slice S' n c', .slice D' m d', .int .i64 ch]] w fun ee w' => ee = .returned (.bool true) ∧ Below w.heap.size w w' := by
  have H1 := Lib.hid (fun W (hb : Below w.heap.size w W) => eqInts_same S S' n c c' B1 B2 ss W (h1.below (hb.mono hB1)) (h2.below (hb.mono hB2)) hn)
  have H2 := Lib.hid (fun W (hb : Below w.heap.size w W) => eqInts_same D D' m d d' B3 B4 ds W (h3.below (hb.mono hB3)) (h4.below (hb.mono hB4)) hm)
  have B5 := Lib.hid ((Blk.new w 26 #[.slice S n c, .slice D m d, .int .i64 ch]).alloc (.cells #[.slice S' n c', .slice D' m d', .int .i64 ch] 26))
  have B6 := Lib.hid (Blk.new (w.alloc (.cells #[.slice S n c, .slice D m d, .int .i64 ch] 26)) 26 #[.slice S' n c', .slice D' m d', .int .i64 ch])
  rw [World.size_alloc] at B6
  have hB : Below w.heap.size w ((w.alloc (.cells #[.slice S n c, .slice D m d, .int .i64 ch] 26)).alloc (.cells #[.slice S' n c', .slice D' m d', .int .i64 ch] 26)) := (al_ _ _).alloc (by simp) _
  clear h1 h2 h3 h4 hn hm
  go_enter Try.func23, Try.ntmps23
  go_wp2_with (first | (go_at_call 24; (with_reducible refine Calls.mono (H1.out _ hB) ?_); rintro ee wz ⟨rfl, hb⟩; replace hB := bel_step hB hb; replace B5 := Lib.hid (blk_later B5.out hb); replace B6 := Lib.hid (blk_later B6.out hb); (try clear c0 c1 c2); obtain ⟨c0, c1, c2⟩ := c3_cells B5.out; have hlB := B5.out.lt; (try clear x0 x1 x2); obtain ⟨x0, x1, x2⟩ := c3_cells B6.out; have hlR := B6.out.lt; clear hb) | (go_at_call 24; (with_reducible refine Calls.mono (H2.out _ hB) ?_); rintro ee wz ⟨rfl, hb⟩; replace hB := bel_step hB hb; replace B5 := Lib.hid (blk_later B5.out hb); replace B6 := Lib.hid (blk_later B6.out hb); (try clear c0 c1 c2); obtain ⟨c0, c1, c2⟩ := c3_cells B5.out; have hlB := B5.out.lt; (try clear x0 x1 x2); obtain ⟨x0, x1, x2⟩ := c3_cells B6.out; have hlR := B6.out.lt; clear hb))
  go_returns
  exact ⟨rfl, hB⟩
theorem mark_at (base : Nat) (A : Option Addr) (n c : Nat) (zs : List Int) (z : Int) (w : World) (h : OwI w base (.slice A n c) zs) (hn : n ≤ 1000000000) (hz : 0 ≤ z ∧ z ≤ 1000000000) :
    Calls Try.prog 26 #[.slice A n c, .int .i64 z] w fun e w' => e = .returned (.int .i64 (z + n)) ∧ OwI w' base (.slice A n c) (marks z n) ∧ w.grownBy w' (Value.slice A n c).ownBlock := by
  obtain ⟨k0, rfl⟩ : ∃ k0 : Nat, z = (k0 : Int) := ⟨z.toNat, by omega⟩
  exact mark_any base A n c zs k0 w h hn (by omega)
theorem held_at (A : Option Addr) (n c B : Nat) (z : Int) (w : World) (h : RdI w B A n (marks z n)) (hn : n ≤ 1000000000) (hz : 0 ≤ z ∧ z ≤ 1000000000) :
    Calls Try.prog 32 #[.slice A n c, .int .i64 z] w fun e w' => e = .returned (.int .i64 (z + n)) ∧ w = w' := by
  obtain ⟨k0, rfl⟩ : ∃ k0 : Nat, z = (k0 : Int) := ⟨z.toNat, by omega⟩
  exact held_any A n c B k0 w h hn (by omega)
set_option maxHeartbeats 400000 in
theorem heldC_any (S : Option Addr) (n c : Nat) (D : Option Addr) (m d : Nat) (ch : Int) (B B' : Nat) (w : World) (hS : RdI w B S n (marks 1 n)) (hD : RdI w B' D m (marks (1 + n) m)) (hB : B ≤ w.heap.size) (hB' : B' ≤ w.heap.size) (hn : n ≤ 3000000) (hm : m ≤ 3000000) : Calls Try.prog 27 #[.agg #[.slice S n c, .slice D m d, .int .i64 ch], .int .i64 1] w fun ee w' => ee = .returned (.int .i64 (1 + (n : Int) + (m : Int))) ∧ Below w.heap.size w w' := by
  have H1 := Lib.hid (fun W (hb : Below w.heap.size w W) => held_at S n c B 1 W (hS.below (hb.mono hB)) (by omega) (by omega))
  have H2 := Lib.hid (fun W (hb : Below w.heap.size w W) => held_at D m d B' (1 + n) W (hD.below (hb.mono hB')) (by omega) (by omega))
  clear hS hD
  have hb := al_ w (.cells #[.slice S n c, .slice D m d, .int .i64 ch] 26)
  go_enter Try.func27, Try.ntmps27
  go_wp2_with (first | (go_at_call 32; (with_reducible refine Calls.mono (H1.out _ hb) ?_); rintro ee wz ⟨rfl, rfl⟩) | (go_at_call 32; (with_reducible refine Calls.mono (H2.out _ hb) ?_); rintro ee wz ⟨rfl, rfl⟩))
  go_returns
  exact ⟨rfl, by go_grown⟩
set_option maxHeartbeats 1000000 in
theorem markC_any (S : Option Addr) (n c : Nat) (ss : List Int) (D : Option Addr) (m d : Nat) (ds : List Int) (ch : Int) (base : Nat) (w : World) (h : OwC w base (.slice S n c) (.slice D m d) ss ds) (hn : n ≤ 3000000) (hm : m ≤ 3000000) : Calls Try.prog 25 #[.agg #[.slice S n c, .slice D m d, .int .i64 ch], .int .i64 1] w fun ee w' => ee = .returned (.int .i64 (1 + (n : Int) + (m : Int))) ∧ OwC w' base (.slice S n c) (.slice D m d) (marks 1 n) (marks (1 + n) m) ∧ ∃ w1, (w.alloc (.cells #[.slice S n c, .slice D m d, .int .i64 ch] 26)).grownBy w1 (Value.slice S n c).ownBlock ∧ w1.grownBy w' (Value.slice D m d).ownBlock := by
  obtain ⟨mid, ⟨h1, h2⟩, OS, hsm, OD⟩ := h
  have HO := Lib.hid (OS.alloc (.cells #[.slice S n c, .slice D m d, .int .i64 ch] 26))
  have HD := Lib.hid (OD.alloc (.cells #[.slice S n c, .slice D m d, .int .i64 ch] 26))
  have BB := Lib.hid (Blk.new w 26 #[.slice S n c, .slice D m d, .int .i64 ch])
  have rS := Lib.hid (own_rowI OS)
  have rD := Lib.hid (own_rowI OD)
  have HM := Lib.hid (fun W b A n c zs z h1 h2 h3 => mark_at b A n c zs z W h1 h2 h3)
  replace hsm := Lib.hid hsm
  clear OS OD
  go_enter Try.func25, Try.ntmps25
  go_wp2_with (go_at_call 26; (with_reducible refine Calls.mono (HM.out _ _ S n c ss 1 HO.out (by omega) (by omega)) ?_); rintro ee w1 ⟨rfl, ho, hg⟩; have OS := Lib.hid ho; replace HD := Lib.hid (HD.out.other hg (fun q e e2 => by have ha := hsm.out q e2; have hb := rD.out q e; omega)); replace BB := Lib.hid (BB.out.grown hg (fun e => by have := rS.out _ e.symm; omega)); obtain ⟨c0, c1, c2⟩ := c3_cells BB.out; have hlB := BB.out.lt; have hg1 := Lib.hid hg; clear ho hg)
  go_wp2_with (go_at_call 26; (with_reducible refine Calls.mono (HM.out _ _ D m d ds (1 + n) HD.out (by omega) (by omega)) ?_); rintro ee w2 ⟨rfl, ho, hg⟩; have OD := Lib.hid ho; replace OS := Lib.hid (OS.out.other hg (fun q e e2 => by have ha := hsm.out q e; have hb := rD.out q e2; omega)); have hg2 := Lib.hid hg; clear ho hg c0 c1 c2)
  have hz1 := hg1.out.size
  have hz2 := hg2.out.size
  simp only [World.size_alloc] at hz1
  go_returns
  exact ⟨rfl, ⟨mid, ⟨h1, by omega⟩, OS.out, hsm.out, OD.out⟩, w1, hg1.out, hg2.out⟩
end Go.Proofs.Ytmhbkabdiciakaa
