/-
  Contracts of chapter 13: BuryMembers, and what the law asks of classes: their size, copies, likeness, marks.
-/
import Derived.Test.YtmhbkabdiciakaaDoorE1
import Derived.Test.YtmhbkabdiciakaaDoorS
set_option linter.unusedSimpArgs false
set_option linter.unusedVariables false
namespace Go.Proofs.YtmhbkabdiciakaaDoor
open Go.RowKit
/-- the code of BuryMembers -/
def bmC (ss ds ms : List Int) (ch : Int) : Int := if okC ss ds ch = true then buC ss ds ms else 1
theorem buC_in {ss ds ms : List Int} (h : ms.length ≤ 120 ∧ ms.all (inR 0 ((ss.length : Int) - 1)) = true) : buC ss ds ms = bR ds ms := by unfold buC bR; rw [if_pos h]
set_option maxHeartbeats 400000 in
theorem eqC_same (S S' : Option Addr) (n c c' : Nat) (ss : List Int) (D D' : Option Addr) (m d d' : Nat) (ds : List Int) (ch : Int) (B1 B2 B3 B4 : Nat) (w : World) (h1 : RdI w B1 S n ss) (h2 : RdI w B2 S' n ss) (h3 : RdI w B3 D m ds) (h4 : RdI w B4 D' m ds) (hB1 : B1 ≤ w.heap.size) (hB2 : B2 ≤ w.heap.size) (hB3 : B3 ≤ w.heap.size) (hB4 : B4 ≤ w.heap.size) (hn : n ≤ maxLen) (hm : m ≤ maxLen) : Calls Tryd.prog 6 #[.agg #[.slice S n c, .slice D m d, .int .i64 ch], .agg #[.slice S' n c', .slice D' m d', .int .i64 ch]] w fun ee w' => ee = .returned (.bool true) ∧ Below w.heap.size w w' := by
  have H1 := Lib.hid (fun W (hb : Below w.heap.size w W) => eqInts_same S S' n c c' B1 B2 ss W (h1.below (hb.mono hB1)) (h2.below (hb.mono hB2)) hn)
  have H2 := Lib.hid (fun W (hb : Below w.heap.size w W) => eqInts_same D D' m d d' B3 B4 ds W (h3.below (hb.mono hB3)) (h4.below (hb.mono hB4)) hm)
  have B5 := Lib.hid ((Blk.new w 24 #[.slice S n c, .slice D m d, .int .i64 ch]).alloc (.cells #[.slice S' n c', .slice D' m d', .int .i64 ch] 24))
  have B6 := Lib.hid (Blk.new (w.alloc (.cells #[.slice S n c, .slice D m d, .int .i64 ch] 24)) 24 #[.slice S' n c', .slice D' m d', .int .i64 ch])
  rw [World.size_alloc] at B6
  have hB : Below w.heap.size w ((w.alloc (.cells #[.slice S n c, .slice D m d, .int .i64 ch] 24)).alloc (.cells #[.slice S' n c', .slice D' m d', .int .i64 ch] 24)) := (al_ _ _).alloc (by simp) _
  clear h1 h2 h3 h4 hn hm
  go_enter Tryd.func6, Tryd.ntmps6
  go_wp2_with (first | (go_at_call 16; (with_reducible refine Calls.mono (H1.out _ hB) ?_); rintro ee wz ⟨rfl, hb⟩; replace hB := bel_step hB hb; replace B5 := Lib.hid (blk_later B5.out hb); replace B6 := Lib.hid (blk_later B6.out hb); (try clear c0 c1 c2); obtain ⟨c0, c1, c2⟩ := c3_cells B5.out; have hlB := B5.out.lt; (try clear x0 x1 x2); obtain ⟨x0, x1, x2⟩ := c3_cells B6.out; have hlR := B6.out.lt; clear hb) | (go_at_call 16; (with_reducible refine Calls.mono (H2.out _ hB) ?_); rintro ee wz ⟨rfl, hb⟩; replace hB := bel_step hB hb; replace B5 := Lib.hid (blk_later B5.out hb); replace B6 := Lib.hid (blk_later B6.out hb); (try clear c0 c1 c2); obtain ⟨c0, c1, c2⟩ := c3_cells B5.out; have hlB := B5.out.lt; (try clear x0 x1 x2); obtain ⟨x0, x1, x2⟩ := c3_cells B6.out; have hlR := B6.out.lt; clear hb))
  go_returns
  exact ⟨rfl, hB⟩
theorem mark_at (base : Nat) (A : Option Addr) (n c : Nat) (zs : List Int) (z : Int) (w : World) (h : OwI w base (.slice A n c) zs) (hn : n ≤ 1000000000) (hz : 0 ≤ z ∧ z ≤ 1000000000) :
    Calls Tryd.prog 17 #[.slice A n c, .int .i64 z] w fun e w' => e = .returned (.int .i64 (z + n)) ∧ OwI w' base (.slice A n c) (marks z n) ∧ w.grownBy w' (Value.slice A n c).ownBlock := by
  obtain ⟨k0, rfl⟩ : ∃ k0 : Nat, z = (k0 : Int) := ⟨z.toNat, by omega⟩
  exact mark_any base A n c zs k0 w h hn (by omega)
theorem held_at (A : Option Addr) (n c B : Nat) (z : Int) (w : World) (h : RdI w B A n (marks z n)) (hn : n ≤ 1000000000) (hz : 0 ≤ z ∧ z ≤ 1000000000) :
    Calls Tryd.prog 18 #[.slice A n c, .int .i64 z] w fun e w' => e = .returned (.int .i64 (z + n)) ∧ w = w' := by
  obtain ⟨k0, rfl⟩ : ∃ k0 : Nat, z = (k0 : Int) := ⟨z.toNat, by omega⟩
  exact held_any A n c B k0 w h hn (by omega)
set_option maxHeartbeats 400000 in
theorem heldC_any (S : Option Addr) (n c : Nat) (D : Option Addr) (m d : Nat) (ch : Int) (B B' : Nat) (w : World) (hS : RdI w B S n (marks 1 n)) (hD : RdI w B' D m (marks (1 + n) m)) (hB : B ≤ w.heap.size) (hB' : B' ≤ w.heap.size) (hn : n ≤ 3000000) (hm : m ≤ 3000000) : Calls Tryd.prog 8 #[.agg #[.slice S n c, .slice D m d, .int .i64 ch], .int .i64 1] w fun ee w' => ee = .returned (.int .i64 (1 + (n : Int) + (m : Int))) ∧ Below w.heap.size w w' := by
  have H1 := Lib.hid (fun W (hb : Below w.heap.size w W) => held_at S n c B 1 W (hS.below (hb.mono hB)) (by omega) (by omega))
  have H2 := Lib.hid (fun W (hb : Below w.heap.size w W) => held_at D m d B' (1 + n) W (hD.below (hb.mono hB')) (by omega) (by omega))
  clear hS hD
  have hb := al_ w (.cells #[.slice S n c, .slice D m d, .int .i64 ch] 24)
  go_enter Tryd.func8, Tryd.ntmps8
  go_wp2_with (first | (go_at_call 18; (with_reducible refine Calls.mono (H1.out _ hb) ?_); rintro ee wz ⟨rfl, rfl⟩) | (go_at_call 18; (with_reducible refine Calls.mono (H2.out _ hb) ?_); rintro ee wz ⟨rfl, rfl⟩))
  go_returns
  exact ⟨rfl, by go_grown⟩
set_option maxHeartbeats 1000000 in
theorem markC_any (S : Option Addr) (n c : Nat) (ss : List Int) (D : Option Addr) (m d : Nat) (ds : List Int) (ch : Int) (base : Nat) (w : World) (h : OwC w base (.slice S n c) (.slice D m d) ss ds) (hn : n ≤ 3000000) (hm : m ≤ 3000000) : Calls Tryd.prog 7 #[.agg #[.slice S n c, .slice D m d, .int .i64 ch], .int .i64 1] w fun ee w' => ee = .returned (.int .i64 (1 + (n : Int) + (m : Int))) ∧ OwC w' base (.slice S n c) (.slice D m d) (marks 1 n) (marks (1 + n) m) ∧ ∃ w1, (w.alloc (.cells #[.slice S n c, .slice D m d, .int .i64 ch] 24)).grownBy w1 (Value.slice S n c).ownBlock ∧ w1.grownBy w' (Value.slice D m d).ownBlock := by
  obtain ⟨mid, ⟨h1, h2⟩, OS, hsm, OD⟩ := h
  have HO := Lib.hid (OS.alloc (.cells #[.slice S n c, .slice D m d, .int .i64 ch] 24))
  have HD := Lib.hid (OD.alloc (.cells #[.slice S n c, .slice D m d, .int .i64 ch] 24))
  have BB := Lib.hid (Blk.new w 24 #[.slice S n c, .slice D m d, .int .i64 ch])
  have rS := Lib.hid (own_rowI OS)
  have rD := Lib.hid (own_rowI OD)
  have HM := Lib.hid (fun W b A n c zs z h1 h2 h3 => mark_at b A n c zs z W h1 h2 h3)
  replace hsm := Lib.hid hsm
  clear OS OD
  go_enter Tryd.func7, Tryd.ntmps7
  go_wp2_with (go_at_call 17; (with_reducible refine Calls.mono (HM.out _ _ S n c ss 1 HO.out (by omega) (by omega)) ?_); rintro ee w1 ⟨rfl, ho, hg⟩; have OS := Lib.hid ho; replace HD := Lib.hid (HD.out.other hg (fun q e e2 => by have ha := hsm.out q e2; have hb := rD.out q e; omega)); replace BB := Lib.hid (BB.out.grown hg (fun e => by have := rS.out _ e.symm; omega)); obtain ⟨c0, c1, c2⟩ := c3_cells BB.out; have hlB := BB.out.lt; have hg1 := Lib.hid hg; clear ho hg)
  go_wp2_with (go_at_call 17; (with_reducible refine Calls.mono (HM.out _ _ D m d ds (1 + n) HD.out (by omega) (by omega)) ?_); rintro ee w2 ⟨rfl, ho, hg⟩; have OD := Lib.hid ho; replace OS := Lib.hid (OS.out.other hg (fun q e e2 => by have ha := hsm.out q e; have hb := rD.out q e2; omega)); have hg2 := Lib.hid hg; clear ho hg c0 c1 c2)
  have hz1 := hg1.out.size
  have hz2 := hg2.out.size
  simp only [World.size_alloc] at hz1
  go_returns
  exact ⟨rfl, ⟨mid, ⟨h1, by omega⟩, OS.out, hsm.out, OD.out⟩, w1, hg1.out, hg2.out⟩
end Go.Proofs.YtmhbkabdiciakaaDoor
