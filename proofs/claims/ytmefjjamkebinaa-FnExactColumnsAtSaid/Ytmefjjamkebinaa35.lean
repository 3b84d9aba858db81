/-
  The walk of a statement of chapter 5, ColumnsAt: the law returns true and turns nothing that was there. No condition.
-/
import Derived.Test.Ytmefjjamkebinaa34
import Derived.Test.YtmefjjamkebinaaL3
import Derived.Test.YtmefjjamkebinaaOW
set_option linter.unusedSimpArgs false
set_option linter.unusedVariables false
namespace Go.Proofs.Ytmefjjamkebinaa
open Go.ChangeShapes Go.WideShapes Go.ChangeAt Go.RowKit Go.Deep
set_option maxHeartbeats 4000000 in
set_option maxRecDepth 100000 in
theorem fnExactColumnsAt_walk (f : Int) (A : Option Addr) (n c : Nat) (xs : List Int) (r age : Int) (w : World) (h : RdI w w.heap.size A n xs) (hc : n ≤ c) (hcm : c ≤ maxLen) : Calls Try.prog 5 #[.agg #[.int .i64 f, .slice A n c], .int .i64 r, .int .i64 age] w fun e' w' => e' = .returned (.bool true) ∧ Below w.heap.size w w' := by
  by_cases hn : n ≤ 1048576
  · have HZ := Lib.hid (fun W => szT_ok f A n c 1048576 W (by omega) (by omega))
    have HT := Lib.hid (fun W (hB : Below w.heap.size w W) => toT_any f A n c w.heap.size xs W (h.below hB) hB.size hn)
    have HE := Lib.hid (fun W A1 A2 c1 c2 h1 h2 => eqT_same f A1 A2 n c1 c2 W.heap.size W.heap.size xs W h1 h2 (Nat.le_refl _) (Nat.le_refl _) (Nat.le_trans hc hcm))
    have HS := fun W A' c' hR hc' hm' => sColumnsAt_any f A' n c' xs r age W hR hc' hm' hn
    have HI := fun W A' c' hR hc' hm' => iColumnsAt_any f A' n c' xs r age W hR hc' hm' hn
    obtain ⟨v1, v2, v3, v4, hv⟩ : ∃ v1 v2 v3 v4 : Int, colV f n xs r age = #[.int .i64 v1, .int .i64 v2, .int .i64 v3, .int .i64 v4] := ⟨_, _, _, _, rfl⟩
    rw [hv] at HS HI
    clear hv
    generalize colC f n xs r age = kc at *
    have HQ := Lib.hid (fun W => eqColumns_same v1 v2 v3 v4 W)
    replace HS := Lib.hid HS
    replace HI := Lib.hid HI
    have B1 := Lib.hid (Blk.new w 24 #[.int .i64 f, .slice A n c])
    have hB : Below w.heap.size w (w.alloc (.cells #[.int .i64 f, .slice A n c] 24)) := al_ _ _
    clear h hc hcm
    go_enter Try.func5, Try.ntmps5
    go_wp2_with (go_at_call 6; (with_reducible refine Calls.mono (HZ.out _) ?_); rintro ee wz ⟨rfl, hb⟩; replace hB := bel_step hB hb; replace B1 := Lib.hid (blk_later B1.out hb); (try clear p_0 p_1 hlp); obtain ⟨p_0, p_1, -⟩ := cT2 B1.out; have hlp := B1.out.lt; clear hb)
    have tok1 : True := trivial
    go_wp2_with (go_at_call 8; clear tok1; (with_reducible refine Calls.mono (HT.out _ hB) ?_); rintro ee w1 ⟨A1, c1, rfl, hn1, hm1, hR1, hb⟩; have R1 := Lib.hid hR1; clear hR1; replace hB := bel_step hB hb; replace B1 := Lib.hid (blk_later B1.out hb); (try clear p_0 p_1 hlp); obtain ⟨p_0, p_1, -⟩ := cT2 B1.out; have hlp := B1.out.lt; clear hb)
    go_wp2_with (go_at_call 21; (with_reducible refine Calls.mono (HS.out _ _ _ R1.out hn1 hm1) ?_); rintro ee w2 ⟨rfl, hb⟩; clear R1 hn1 hm1; replace hB := bel_step hB hb; replace B1 := Lib.hid (blk_later B1.out hb); (try clear p_0 p_1 hlp); obtain ⟨p_0, p_1, -⟩ := cT2 B1.out; have hlp := B1.out.lt; clear hb)
    obtain ⟨wx, hwx⟩ : ∃ wx, w2.alloc (.cells #[.int .i64 v1, .int .i64 v2, .int .i64 v3, .int .i64 v4] 43) = wx := ⟨_, rfl⟩
    have Bn : Hid (Blk wx w2.heap.size 43 #[.int .i64 v1, .int .i64 v2, .int .i64 v3, .int .i64 v4]) := Lib.hid (by rw [← hwx]; exact Blk.new _ _ _)
    have hb : Below w2.heap.size w2 wx := hwx ▸ al_ _ _
    replace hB := bel_step hB hb; replace B1 := Lib.hid (blk_later B1.out hb); (try clear p_0 p_1 hlp); obtain ⟨p_0, p_1, -⟩ := cT2 B1.out; have hlp := B1.out.lt
    have B2 := Lib.hid Bn.out
    rw [hwx]
    clear Bn hwx hb
    (try clear q_0 q_1 q_2 q_3 hlq); obtain ⟨⟨q_0, q_1, q_2, q_3⟩, -⟩ := c4_cells B2.out; have hlq := B2.out.lt
    have tok3 : True := trivial
    go_wp2_with (go_at_call 8; clear tok3; (with_reducible refine Calls.mono (HT.out _ hB) ?_); rintro ee w3 ⟨A3, c3, rfl, hn3, hm3, hR3, hb⟩; have R3 := Lib.hid hR3; clear hR3; replace hB := bel_step hB hb; replace B1 := Lib.hid (blk_later B1.out hb); (try clear p_0 p_1 hlp); obtain ⟨p_0, p_1, -⟩ := cT2 B1.out; have hlp := B1.out.lt; replace B2 := Lib.hid (blk_later B2.out hb); (try clear q_0 q_1 q_2 q_3 hlq); obtain ⟨⟨q_0, q_1, q_2, q_3⟩, -⟩ := c4_cells B2.out; have hlq := B2.out.lt; clear hb)
    go_wp2_with fail
    obtain ⟨wx, hwx⟩ : ∃ wx, w3.alloc (.cells #[.int .i64 f, .slice A3 n c3] 26) = wx := ⟨_, rfl⟩
    have Bn : Hid (Blk wx w3.heap.size 26 #[.int .i64 f, .slice A3 n c3]) := Lib.hid (by rw [← hwx]; exact Blk.new _ _ _)
    have hb : Below w3.heap.size w3 wx := hwx ▸ al_ _ _
    replace hB := bel_step hB hb; replace B1 := Lib.hid (blk_later B1.out hb); (try clear p_0 p_1 hlp); obtain ⟨p_0, p_1, -⟩ := cT2 B1.out; have hlp := B1.out.lt; replace B2 := Lib.hid (blk_later B2.out hb); (try clear q_0 q_1 q_2 q_3 hlq); obtain ⟨⟨q_0, q_1, q_2, q_3⟩, -⟩ := c4_cells B2.out; have hlq := B2.out.lt
    have B3 := Lib.hid Bn.out
    replace R3 := Lib.hid (R3.out.later hb)
    rw [hwx]
    clear Bn hwx hb
    (try clear r_0 r_1 hlr); obtain ⟨r_0, r_1, -⟩ := cT2 B3.out; have hlr := B3.out.lt
    go_wp2_with (go_at_call 22; (with_reducible refine Calls.mono (HI.out _ _ _ R3.out hn3 hm3) ?_); rintro ee w4 ⟨rfl, hb⟩; replace hB := bel_step hB hb; replace B1 := Lib.hid (blk_later B1.out hb); (try clear p_0 p_1 hlp); obtain ⟨p_0, p_1, -⟩ := cT2 B1.out; have hlp := B1.out.lt; replace B2 := Lib.hid (blk_later B2.out hb); (try clear q_0 q_1 q_2 q_3 hlq); obtain ⟨⟨q_0, q_1, q_2, q_3⟩, -⟩ := c4_cells B2.out; have hlq := B2.out.lt; replace B3 := Lib.hid (blk_later B3.out hb); replace R3 := Lib.hid (R3.out.later hb); (try clear r_0 r_1 hlr); obtain ⟨r_0, r_1, -⟩ := cT2 B3.out; have hlr := B3.out.lt; clear hb)
    obtain ⟨wx, hwx⟩ : ∃ wx, w4.alloc (.cells #[.int .i64 v1, .int .i64 v2, .int .i64 v3, .int .i64 v4] 43) = wx := ⟨_, rfl⟩
    have Bn : Hid (Blk wx w4.heap.size 43 #[.int .i64 v1, .int .i64 v2, .int .i64 v3, .int .i64 v4]) := Lib.hid (by rw [← hwx]; exact Blk.new _ _ _)
    have hb : Below w4.heap.size w4 wx := hwx ▸ al_ _ _
    replace hB := bel_step hB hb; replace B1 := Lib.hid (blk_later B1.out hb); (try clear p_0 p_1 hlp); obtain ⟨p_0, p_1, -⟩ := cT2 B1.out; have hlp := B1.out.lt; replace B2 := Lib.hid (blk_later B2.out hb); (try clear q_0 q_1 q_2 q_3 hlq); obtain ⟨⟨q_0, q_1, q_2, q_3⟩, -⟩ := c4_cells B2.out; have hlq := B2.out.lt; replace B3 := Lib.hid (blk_later B3.out hb); replace R3 := Lib.hid (R3.out.later hb); (try clear r_0 r_1 hlr); obtain ⟨r_0, r_1, -⟩ := cT2 B3.out; have hlr := B3.out.lt
    have B4 := Lib.hid Bn.out
    rw [hwx]
    clear Bn hwx hb
    (try clear s_0 s_1 s_2 s_3 hls); obtain ⟨⟨s_0, s_1, s_2, s_3⟩, -⟩ := c4_cells B4.out; have hls := B4.out.lt
    go_wp2_with (go_at_call 23; (with_reducible refine Calls.mono (HQ.out _) ?_); rintro ee wz ⟨rfl, hb⟩; replace hB := bel_step hB hb; replace B1 := Lib.hid (blk_later B1.out hb); (try clear p_0 p_1 hlp); obtain ⟨p_0, p_1, -⟩ := cT2 B1.out; have hlp := B1.out.lt; replace B2 := Lib.hid (blk_later B2.out hb); (try clear q_0 q_1 q_2 q_3 hlq); obtain ⟨⟨q_0, q_1, q_2, q_3⟩, -⟩ := c4_cells B2.out; have hlq := B2.out.lt; replace B3 := Lib.hid (blk_later B3.out hb); replace R3 := Lib.hid (R3.out.later hb); (try clear r_0 r_1 hlr); obtain ⟨r_0, r_1, -⟩ := cT2 B3.out; have hlr := B3.out.lt; replace B4 := Lib.hid (blk_later B4.out hb); (try clear s_0 s_1 s_2 s_3 hls); obtain ⟨⟨s_0, s_1, s_2, s_3⟩, -⟩ := c4_cells B4.out; have hls := B4.out.lt; clear hb)
    clear HI HS HQ HZ B1 B2 B3 B4
    go_region_held3 (fun W' => Below wz.heap.size wz W' ∧ ∀ b o, b < wz.heap.size → W'.cell? ⟨b, o, none⟩ = wz.cell? ⟨b, o, none⟩) (first | exact bS (Below.refl _ _).drew | exact bS hb5 | exact bS (bel_step hb5 hb6)) (first | (go_at_call 8; (with_reducible refine Calls.mono (HT.out _ hB.drew) ?_); rintro ee w5 ⟨A5, c5, rfl, hn5, hm5, hR5, hb5⟩; have Q5 := Lib.hid hR5; clear hR5; have hb5 := bel_step (w := wz) (Below.refl _ _).drew hb5) | (go_at_call 10; (with_reducible refine Calls.mono (HE.out _ _ _ _ _ (R3.out.later hb5) Q5.out) ?_); rintro ee w6 ⟨rfl, hb6⟩; have hB6 := bel_step hB (bel_step hb5 hb6)))
    go_wp2
    go_returns
    exact ⟨rfl, hB6⟩
  · have HZ := Lib.hid (fun W => szT_big f A n c W (by omega) (Nat.le_trans hc hcm))
    clear h
    go_enter Try.func5, Try.ntmps5
    go_wp2_with (go_at_call 6; (with_reducible refine (HZ.out _).mono ?_); rintro ee w0 ⟨rfl, hb0⟩; have hB0 := bel_step (w := w) (by go_grown) hb0)
    go_returns
    exact ⟨rfl, hB0⟩
end Go.Proofs.Ytmefjjamkebinaa
