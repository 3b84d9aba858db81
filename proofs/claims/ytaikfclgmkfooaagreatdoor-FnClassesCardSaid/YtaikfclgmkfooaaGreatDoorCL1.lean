/-
  Contracts of chapter 13: LivingShares, likeClasses9; the class's text on both sides.
-/
import Derived.Test.YtaikfclgmkfooaaGreatDoor01
import Derived.Test.YtaikfclgmkfooaaGreatDoorC2
import Derived.Test.YtaikfclgmkfooaaGreatDoorDI3
import Derived.Test.YtaikfclgmkfooaaGreatDoorY1
set_option linter.unusedSimpArgs false
set_option linter.unusedVariables false
namespace Go.Proofs.YtaikfclgmkfooaaGreatDoor
open Go Go.RowKit
set_option maxHeartbeats 1000000 in
theorem livS_any (S : Option Addr) (n c : Nat) (ss : List Int) (D : Option Addr) (m d : Nat) (ds : List Int) (ch : Int) (w : World) (hS : RdI w w.heap.size S n ss) (hD : RdI w w.heap.size D m ds) (hn : n ≤ 1000) (hm : m ≤ 3000000) (hok : okC ss ds ch = true) : Calls Tryz.prog 19 #[.agg #[.slice S n c, .slice D m d, .int .i64 ch]] w fun ee w' => ee = .returned (.tuple #[.int .i64 (lvS ss ds n), .int .i64 0]) ∧ Below w.heap.size w w' := by
  have hall := (okC_iff.1 hok).2.1
  have H1 := fun W (hB : Below w.heap.size w W) => iIsC_any S n c ss D m d ds ch W ((hS.below hB).more hB.size) ((hD.below hB).more hB.size) (by omega) (by omega)
  rw [hok] at H1
  replace H1 := Lib.hid H1
  have H2 := Lib.hid (fun W (hB : Below w.heap.size w W) => iLiv_any S n c ss D m d ds ch W ((hS.below hB).more hB.size) ((hD.below hB).more hB.size) hn hm hall)
  have BB := Lib.hid (Blk.new w 26 #[.slice S n c, .slice D m d, .int .i64 ch])
  have hB : Below w.heap.size w (w.alloc (.cells #[.slice S n c, .slice D m d, .int .i64 ch] 26)) := al_ _ _
  clear hS hD hok hall
  (try clear c0 c1 c2); obtain ⟨c0, c1, c2⟩ := c3_cells BB.out; have hlB := BB.out.lt
  go_enter Tryz.func19, Tryz.ntmps19
  go_wp2_with (first | (go_at_call 18; (with_reducible refine Calls.mono (H1.out _ hB) ?_); rintro ee wz ⟨rfl, hb⟩; replace hB := bel_step hB hb; replace BB := Lib.hid (blk_later BB.out hb); clear hb; (try clear c0 c1 c2); obtain ⟨c0, c1, c2⟩ := c3_cells BB.out; have hlB := BB.out.lt) | (go_at_call 41; (with_reducible refine Calls.mono (H2.out _ hB) ?_); rintro ee wz ⟨rfl, hb⟩; replace hB := bel_step hB hb; clear hb))
  go_returns
  exact ⟨rfl, hB⟩
set_option maxHeartbeats 1000000 in
theorem likeC_same (S S' : Option Addr) (n c c' : Nat) (ss : List Int) (D D' : Option Addr) (m d d' : Nat) (ds : List Int) (ch : Int) (w : World) (h1 : RdI w w.heap.size S n ss) (h2 : RdI w w.heap.size S' n ss) (h3 : RdI w w.heap.size D m ds) (h4 : RdI w w.heap.size D' m ds) (hn : n ≤ maxLen) (hm : m ≤ maxLen) : Calls Tryz.prog 17 #[.agg #[.slice S n c, .slice D m d, .int .i64 ch], .agg #[.slice S' n c', .slice D' m d', .int .i64 ch]] w fun ee w' => ee = .returned (.bool true) ∧ Below w.heap.size w w' := by
  have H1 := Lib.hid (fun W (hB : Below w.heap.size w W) => likeInts_same S S' n c c' _ _ ss W ((h1.below hB).more hB.size) ((h2.below hB).more hB.size) hn)
  have H2 := Lib.hid (fun W (hB : Below w.heap.size w W) => likeInts_same D D' m d d' _ _ ds W ((h3.below hB).more hB.size) ((h4.below hB).more hB.size) hm)
  have BA := Lib.hid ((Blk.new w 26 #[.slice S n c, .slice D m d, .int .i64 ch]).alloc (.cells #[.slice S' n c', .slice D' m d', .int .i64 ch] 26))
  have BB := Lib.hid (Blk.new (w.alloc (.cells #[.slice S n c, .slice D m d, .int .i64 ch] 26)) 26 #[.slice S' n c', .slice D' m d', .int .i64 ch])
  rw [World.size_alloc] at BB
  have hB : Below w.heap.size w ((w.alloc (.cells #[.slice S n c, .slice D m d, .int .i64 ch] 26)).alloc (.cells #[.slice S' n c', .slice D' m d', .int .i64 ch] 26)) := (al_ _ _).alloc (by simp) _
  clear h1 h2 h3 h4 hn hm
  (try clear c0 c1 c2); obtain ⟨c0, c1, c2⟩ := c3_cells BB.out; have hlB := BB.out.lt
  (try clear a0 a1 a2); obtain ⟨a0, a1, a2⟩ := c3_cells BA.out; have hlA := BA.out.lt
  go_enter Tryz.func17, Tryz.ntmps17
  go_wp2_with (first | (go_at_call 37; (with_reducible refine Calls.mono (H1.out _ hB) ?_); rintro ee wz ⟨rfl, hb⟩; replace hB := bel_step hB hb; replace BA := Lib.hid (blk_later BA.out hb); replace BB := Lib.hid (blk_later BB.out hb); clear hb; (try clear c0 c1 c2); obtain ⟨c0, c1, c2⟩ := c3_cells BB.out; have hlB := BB.out.lt; (try clear a0 a1 a2); obtain ⟨a0, a1, a2⟩ := c3_cells BA.out; have hlA := BA.out.lt) | (go_at_call 37; (with_reducible refine Calls.mono (H2.out _ hB) ?_); rintro ee wz ⟨rfl, hb⟩; replace hB := bel_step hB hb; replace BA := Lib.hid (blk_later BA.out hb); replace BB := Lib.hid (blk_later BB.out hb); clear hb; (try clear c0 c1 c2); obtain ⟨c0, c1, c2⟩ := c3_cells BB.out; have hlB := BB.out.lt; (try clear a0 a1 a2); obtain ⟨a0, a1, a2⟩ := c3_cells BA.out; have hlA := BA.out.lt))
  go_returns
  exact ⟨rfl, hB⟩
end Go.Proofs.YtaikfclgmkfooaaGreatDoor

