/-
  The walk of FnExactReadClass: the law returns true and turns nothing that was there, where the library's variables hold what its own text lays.
-/
import Derived.Test.YtmhbkabdiciakaaDoorDI3
import Derived.Test.YtmhbkabdiciakaaDoorF1
set_option linter.unusedSimpArgs false
set_option linter.unusedVariables false
namespace Go.Proofs.YtmhbkabdiciakaaDoor
open Go Go.RowKit
set_option maxHeartbeats 1000000 in
theorem markD_any (S : Option Addr) (n c : Nat) (ss : List Int) (D : Option Addr) (m d : Nat) (ds : List Int) (ch : Int) (base : Nat) (w : World) (h : OwD w base (.slice S n c) (.slice D m d) ss ds) (hn : n ≤ 3000000) (hm : m ≤ 3000000) : Calls Tryd.prog 7 #[.agg #[.slice S n c, .slice D m d, .int .i64 ch], .int .i64 1] w fun ee w' => ee = .returned (.int .i64 (1 + (n : Int) + (m : Int))) ∧ OwD w' base (.slice S n c) (.slice D m d) (marks 1 n) (marks (1 + n) m) ∧ ∃ w1, (w.alloc (.cells #[.slice S n c, .slice D m d, .int .i64 ch] 24)).grownBy w1 (Value.slice S n c).ownBlock ∧ w1.grownBy w' (Value.slice D m d).ownBlock := by
  obtain ⟨OS, OD, hsm⟩ := h
  have HO := Lib.hid (OS.alloc (.cells #[.slice S n c, .slice D m d, .int .i64 ch] 24))
  have HD := Lib.hid (OD.alloc (.cells #[.slice S n c, .slice D m d, .int .i64 ch] 24))
  have BB := Lib.hid (Blk.new w 24 #[.slice S n c, .slice D m d, .int .i64 ch])
  have rS := Lib.hid (own_rowI OS)
  have rD := Lib.hid (own_rowI OD)
  have HM := Lib.hid (fun W b A n c zs z h1 h2 h3 => mark_at b A n c zs z W h1 h2 h3)
  replace hsm := Lib.hid hsm
  clear OS OD
  go_enter Tryd.func7, Tryd.ntmps7
  go_wp2_with (go_at_call 17; (with_reducible refine Calls.mono (HM.out _ _ S n c ss 1 HO.out (by omega) (by omega)) ?_); rintro ee w1 ⟨rfl, ho, hg⟩; have OS := Lib.hid ho; replace HD := Lib.hid (HD.out.other hg (fun q e e2 => hsm.out q q e2 e rfl)); replace BB := Lib.hid (BB.out.grown hg (fun e => by have := rS.out _ e.symm; omega)); obtain ⟨c0, c1, c2⟩ := c3_cells BB.out; have hlB := BB.out.lt; have hg1 := Lib.hid hg; clear ho hg)
  go_wp2_with (go_at_call 17; (with_reducible refine Calls.mono (HM.out _ _ D m d ds (1 + n) HD.out (by omega) (by omega)) ?_); rintro ee w2 ⟨rfl, ho, hg⟩; have OD := Lib.hid ho; replace OS := Lib.hid (OS.out.other hg (fun q e e2 => hsm.out q q e e2 rfl)); have hg2 := Lib.hid hg; clear ho hg c0 c1 c2)
  go_returns
  exact ⟨rfl, ⟨OS.out, OD.out, hsm.out⟩, w1, hg1.out, hg2.out⟩
theorem rdS_small (L : List UInt8) : (rcT (rdS L)).1.length ≤ 60 ∧ (rcT (rdS L)).2.1.length ≤ 60 := by
  cases h : rdS L with
  | none => exact ⟨Nat.zero_le _, Nat.zero_le _⟩
  | some c =>
    unfold rdS at h
    split at h
    · next n r hn =>
      split at h
      · next hok =>
        injection h with h
        subst h
        have h1 := okC_iff.1 hok
        have h2 := inc_len h1.2.2.2.2 h1.2.2.1
        exact ⟨h1.1.2, Nat.le_trans h2 h1.1.2⟩
      · cases h
    · cases h
set_option maxHeartbeats 8000000 in
set_option maxRecDepth 100000 in
theorem fnExactReadClass_walk (s : ByteArray) (w : World) (hs : s.size ≤ maxLen) (hL : Lb w) : Calls Tryd.prog 3 #[.string s] w fun e' w' => e' = .returned (.bool true) ∧ Below w.heap.size w w' := by
  by_cases hl : s.size ≤ 1048576
  · have HL := Lib.hid (fun W (hB : Below w.heap.size w W) => hL.later hB)
    have HS := fun W => sRead_any s W hl
    have HI := fun W hW => iRead_any s W hl hW
    rw [rd_same] at HI
    obtain ⟨hn1, hm1⟩ := rdS_small s.data.toList
    generalize rcT (rdS s.data.toList) = t at *
    obtain ⟨L1, L2, cv, kc⟩ := t
    dsimp only at hn1 hm1
    unfold RcP at HS HI
    dsimp only at HS HI
    replace HS := Lib.hid HS
    replace HI := Lib.hid HI
    have HQ := Lib.hid (fun W S S' n c c' D D' m d d' B1 B2 B3 B4 h1 h2 h3 h4 hB1 hB2 hB3 hB4 hn hm => eqC_same S S' n c c' L1 D D' m d d' L2 cv B1 B2 B3 B4 W h1 h2 h3 h4 hB1 hB2 hB3 hB4 hn hm)
    have hB : Below w.heap.size w w := Below.refl _ _
    clear hL
    go_enter Tryd.func3, Tryd.ntmps3
    go_wp2_with (go_at_call 4; (with_reducible refine Calls.mono (HS.out _) ?_); rintro ee w2 ⟨hb, S2, n2, c2, D2, m2, d2, rfl, ho⟩; have Q2 := Lib.hid ho; clear ho; (try replace BW := Lib.hid (blk_later BW.out hb)); (try replace BG := Lib.hid (blk_later BG.out hb)); (try replace BH := Lib.hid (blk_later BH.out hb)); (try replace O4 := Lib.hid (O4.out.later hb)); (try replace G4 := Lib.hid (G4.out.later hb)); (try replace O13 := Lib.hid (O13.out.later hb)); (try replace R2S := Lib.hid (R2S.out.below (hb.mono hz2))); (try replace R2D := Lib.hid (R2D.out.below (hb.mono hz2))); (try replace hz2 := Nat.le_trans hz2 hb.size); replace hB := bel_step hB hb; clear hb)
    obtain ⟨⟨rfl, rfl⟩, R2S, R2D⟩ := Q2.out.rdS
    clear Q2
    replace R2S := Lib.hid R2S
    replace R2D := Lib.hid R2D
    obtain ⟨h2, hh2⟩ : ∃ h, w2.heap.size = h := ⟨_, rfl⟩
    have hz2 : h2 ≤ w2.heap.size := by omega
    have hwh := hB.size
    rw [hh2] at R2S R2D hwh
    obtain ⟨wx, hwx⟩ : ∃ wx, w2.alloc (.cells #[.slice S2 L1.length c2, .slice D2 L2.length d2, .int .i64 cv] 24) = wx := ⟨_, rfl⟩; have Bn : Hid (Blk wx w2.heap.size 24 #[.slice S2 L1.length c2, .slice D2 L2.length d2, .int .i64 cv]) := Lib.hid (by rw [← hwx]; exact Blk.new _ _ _); have hb : Below w2.heap.size w2 wx := hwx ▸ al_ _ _; rw [hwx]
    (try replace BW := Lib.hid (blk_later BW.out hb)); (try replace BG := Lib.hid (blk_later BG.out hb)); (try replace BH := Lib.hid (blk_later BH.out hb)); (try replace O4 := Lib.hid (O4.out.later hb)); (try replace G4 := Lib.hid (G4.out.later hb)); (try replace O13 := Lib.hid (O13.out.later hb)); (try replace R2S := Lib.hid (R2S.out.below (hb.mono hz2))); (try replace R2D := Lib.hid (R2D.out.below (hb.mono hz2))); (try replace hz2 := Nat.le_trans hz2 hb.size); replace hB := bel_step hB hb
    rw [hh2] at Bn ⊢
    have BW := Lib.hid Bn.out
    have hw2 : h2 < wx.heap.size := BW.out.lt
    clear Bn hwx hb hh2
    (try clear q_0 q_1 q_2 hlq); obtain ⟨q_0, q_1, q_2⟩ := c3_cells BW.out; have hlq := BW.out.lt
    obtain ⟨h5, hh5⟩ : ∃ h, wx.heap.size = h := ⟨_, rfl⟩
    have tok3 : True := trivial
    go_wp2_with (go_at_call 5; clear tok3; (with_reducible refine Calls.mono (HI.out _ (HL.out _ hB)) ?_); rintro ee w5 ⟨hb, S4, n4, c4, D4, m4, d4, rfl, ho⟩; have row4 := Lib.hid ho.rows; have hz56 := hb.size; (try replace BW := Lib.hid (blk_later BW.out hb)); (try replace BG := Lib.hid (blk_later BG.out hb)); (try replace BH := Lib.hid (blk_later BH.out hb)); (try replace O4 := Lib.hid (O4.out.later hb)); (try replace G4 := Lib.hid (G4.out.later hb)); (try replace O13 := Lib.hid (O13.out.later hb)); (try replace R2S := Lib.hid (R2S.out.below (hb.mono hz2))); (try replace R2D := Lib.hid (R2D.out.below (hb.mono hz2))); (try replace hz2 := Nat.le_trans hz2 hb.size); replace hB := bel_step hB hb; clear hb; have O4 := Lib.hid ho; clear ho; (try clear q_0 q_1 q_2 hlq); obtain ⟨q_0, q_1, q_2⟩ := c3_cells BW.out; have hlq := BW.out.lt)
    rw [hh5] at O4 row4 hw2
    obtain ⟨⟨rfl, rfl⟩, -⟩ := O4.out.rdS
    obtain ⟨h6, hh6⟩ : ∃ h, w5.heap.size = h := ⟨_, rfl⟩
    have r4S : Hid (∀ q, (Value.slice S4 L1.length c4).ownBlock = some q → h5 ≤ q ∧ q < h6) := Lib.hid (fun q e => by have := row4.out.1 q e; omega)
    have r4D : Hid (∀ q, (Value.slice D4 L2.length d4).ownBlock = some q → h5 ≤ q ∧ q < h6) := Lib.hid (fun q e => by have := row4.out.2 q e; omega)
    have h56 : h5 ≤ h6 := by have := hB.size; have := BW.out.lt; have h7 : wx.heap.size ≤ w5.heap.size := hz56; omega
    clear row4 hh5 hz56
    obtain ⟨wx, hwx⟩ : ∃ wx, w5.alloc (.cells #[.slice S4 L1.length c4, .slice D4 L2.length d4, .int .i64 cv] 24) = wx := ⟨_, rfl⟩; have Bn : Hid (Blk wx w5.heap.size 24 #[.slice S4 L1.length c4, .slice D4 L2.length d4, .int .i64 cv]) := Lib.hid (by rw [← hwx]; exact Blk.new _ _ _); have hb : Below w5.heap.size w5 wx := hwx ▸ al_ _ _; rw [hwx]
    (try replace BW := Lib.hid (blk_later BW.out hb)); (try replace BG := Lib.hid (blk_later BG.out hb)); (try replace BH := Lib.hid (blk_later BH.out hb)); (try replace O4 := Lib.hid (O4.out.later hb)); (try replace G4 := Lib.hid (G4.out.later hb)); (try replace O13 := Lib.hid (O13.out.later hb)); (try replace R2S := Lib.hid (R2S.out.below (hb.mono hz2))); (try replace R2D := Lib.hid (R2D.out.below (hb.mono hz2))); (try replace hz2 := Nat.le_trans hz2 hb.size); replace hB := bel_step hB hb
    rw [hh6] at Bn ⊢
    have BG := Lib.hid Bn.out
    clear Bn hwx hb hh6
    (try clear q_0 q_1 q_2 hlq); obtain ⟨q_0, q_1, q_2⟩ := c3_cells BW.out; have hlq := BW.out.lt
    (try clear g_0 g_1 g_2 hlg); obtain ⟨g_0, g_1, g_2⟩ := c3_cells BG.out; have hlg := BG.out.lt
    have tok5 : True := trivial
    go_wp2_with (go_at_call 6; clear tok5; (with_reducible refine Calls.mono (HQ.out _ S4 S2 L1.length c4 c2 D4 D2 L2.length d4 d2 _ h2 _ h2 O4.out.rdS.2.1 R2S.out O4.out.rdS.2.2 R2D.out (Nat.le_refl _) hz2 (Nat.le_refl _) hz2 (by unfold maxLen; omega) (by unfold maxLen; omega)) ?_); rintro ee w6 ⟨rfl, hb⟩; (try replace BW := Lib.hid (blk_later BW.out hb)); (try replace BG := Lib.hid (blk_later BG.out hb)); (try replace BH := Lib.hid (blk_later BH.out hb)); (try replace O4 := Lib.hid (O4.out.later hb)); (try replace G4 := Lib.hid (G4.out.later hb)); (try replace O13 := Lib.hid (O13.out.later hb)); (try replace R2S := Lib.hid (R2S.out.below (hb.mono hz2))); (try replace R2D := Lib.hid (R2D.out.below (hb.mono hz2))); (try replace hz2 := Nat.le_trans hz2 hb.size); replace hB := bel_step hB hb; clear hb; (try clear q_0 q_1 q_2 hlq); obtain ⟨q_0, q_1, q_2⟩ := c3_cells BW.out; have hlq := BW.out.lt; (try clear g_0 g_1 g_2 hlg); obtain ⟨g_0, g_1, g_2⟩ := c3_cells BG.out; have hlg := BG.out.lt)
    have tok11 : True := trivial
    go_wp2_with (go_at_call 7; clear tok11; (with_reducible refine Calls.mono (markD_any S4 _ c4 L1 D4 _ d4 L2 cv _ w6 O4.out (by omega) (by omega)) ?_); rintro ee w14 ⟨rfl, ho, w13b, hg1, hg2⟩; clear O4; have hb := al_ w6 (.cells #[.slice S4 L1.length c4, .slice D4 L2.length d4, .int .i64 cv] 24); (try replace BW := Lib.hid (blk_later BW.out hb)); (try replace BG := Lib.hid (blk_later BG.out hb)); (try replace BH := Lib.hid (blk_later BH.out hb)); (try replace O4 := Lib.hid (O4.out.later hb)); (try replace G4 := Lib.hid (G4.out.later hb)); (try replace O13 := Lib.hid (O13.out.later hb)); (try replace R2S := Lib.hid (R2S.out.below (hb.mono hz2))); (try replace R2D := Lib.hid (R2D.out.below (hb.mono hz2))); (try replace hz2 := Nat.le_trans hz2 hb.size); replace hB := bel_step hB hb; clear hb; have hg := hg1; have rr := r4S.out; (try replace BW := Lib.hid (BW.out.grown hg (fun e => by have := rr _ e.symm; omega))); (try replace BG := Lib.hid (BG.out.grown hg (fun e => by have := rr _ e.symm; omega))); replace R2S := Lib.hid (R2S.out.grown hg hz2 (fun g e => by have := rr g e; omega)); replace R2D := Lib.hid (R2D.out.grown hg hz2 (fun g e => by have := rr g e; omega)); replace hB := hB.grown hg hB.size (fun g e => by have := rr g e; omega); replace hz2 := Nat.le_trans hz2 hg.size; clear hg hg1 rr; have hg := hg2; have rr := r4D.out; (try replace BW := Lib.hid (BW.out.grown hg (fun e => by have := rr _ e.symm; omega))); (try replace BG := Lib.hid (BG.out.grown hg (fun e => by have := rr _ e.symm; omega))); replace R2S := Lib.hid (R2S.out.grown hg hz2 (fun g e => by have := rr g e; omega)); replace R2D := Lib.hid (R2D.out.grown hg hz2 (fun g e => by have := rr g e; omega)); replace hB := hB.grown hg hB.size (fun g e => by have := rr g e; omega); replace hz2 := Nat.le_trans hz2 hg.size; clear hg hg2 rr; have G4 := Lib.hid ho; clear ho; (try clear q_0 q_1 q_2 hlq); obtain ⟨q_0, q_1, q_2⟩ := c3_cells BW.out; have hlq := BW.out.lt; (try clear g_0 g_1 g_2 hlg); obtain ⟨g_0, g_1, g_2⟩ := c3_cells BG.out; have hlg := BG.out.lt)
    have tok12 : True := trivial
    go_wp2_with (go_at_call 8; clear tok12; (with_reducible refine Calls.mono (heldC_any S4 _ c4 D4 _ d4 cv _ _ w14 G4.out.rdS.2.1 G4.out.rdS.2.2 (Nat.le_refl _) (Nat.le_refl _) (by omega) (by omega)) ?_); rintro ee w15 ⟨rfl, hb⟩; (try replace BW := Lib.hid (blk_later BW.out hb)); (try replace BG := Lib.hid (blk_later BG.out hb)); (try replace BH := Lib.hid (blk_later BH.out hb)); (try replace O4 := Lib.hid (O4.out.later hb)); (try replace G4 := Lib.hid (G4.out.later hb)); (try replace O13 := Lib.hid (O13.out.later hb)); (try replace R2S := Lib.hid (R2S.out.below (hb.mono hz2))); (try replace R2D := Lib.hid (R2D.out.below (hb.mono hz2))); (try replace hz2 := Nat.le_trans hz2 hb.size); replace hB := bel_step hB hb; clear hb; (try clear q_0 q_1 q_2 hlq); obtain ⟨q_0, q_1, q_2⟩ := c3_cells BW.out; have hlq := BW.out.lt; (try clear g_0 g_1 g_2 hlg); obtain ⟨g_0, g_1, g_2⟩ := c3_cells BG.out; have hlg := BG.out.lt)
    have tok13 : True := trivial
    go_wp2_with (go_at_call 5; clear tok13; (with_reducible refine Calls.mono (HI.out _ (HL.out _ hB)) ?_); rintro ee w18 ⟨hb, S13, n13, c13, D13, m13, d13, rfl, ho⟩; (try replace BW := Lib.hid (blk_later BW.out hb)); (try replace BG := Lib.hid (blk_later BG.out hb)); (try replace BH := Lib.hid (blk_later BH.out hb)); (try replace O4 := Lib.hid (O4.out.later hb)); (try replace G4 := Lib.hid (G4.out.later hb)); (try replace O13 := Lib.hid (O13.out.later hb)); (try replace R2S := Lib.hid (R2S.out.below (hb.mono hz2))); (try replace R2D := Lib.hid (R2D.out.below (hb.mono hz2))); (try replace hz2 := Nat.le_trans hz2 hb.size); replace hB := bel_step hB hb; clear hb; have O13 := Lib.hid ho; clear ho; (try clear q_0 q_1 q_2 hlq); obtain ⟨q_0, q_1, q_2⟩ := c3_cells BW.out; have hlq := BW.out.lt; (try clear g_0 g_1 g_2 hlg); obtain ⟨g_0, g_1, g_2⟩ := c3_cells BG.out; have hlg := BG.out.lt)
    obtain ⟨⟨rfl, rfl⟩, -⟩ := O13.out.rdS
    obtain ⟨wx, hwx⟩ : ∃ wx, w18.alloc (.cells #[.slice S13 L1.length c13, .slice D13 L2.length d13, .int .i64 cv] 24) = wx := ⟨_, rfl⟩; have Bn : Hid (Blk wx w18.heap.size 24 #[.slice S13 L1.length c13, .slice D13 L2.length d13, .int .i64 cv]) := Lib.hid (by rw [← hwx]; exact Blk.new _ _ _); have hb : Below w18.heap.size w18 wx := hwx ▸ al_ _ _; rw [hwx]
    (try replace BW := Lib.hid (blk_later BW.out hb)); (try replace BG := Lib.hid (blk_later BG.out hb)); (try replace BH := Lib.hid (blk_later BH.out hb)); (try replace O4 := Lib.hid (O4.out.later hb)); (try replace G4 := Lib.hid (G4.out.later hb)); (try replace O13 := Lib.hid (O13.out.later hb)); (try replace R2S := Lib.hid (R2S.out.below (hb.mono hz2))); (try replace R2D := Lib.hid (R2D.out.below (hb.mono hz2))); (try replace hz2 := Nat.le_trans hz2 hb.size); replace hB := bel_step hB hb
    have BH := Lib.hid Bn.out
    clear Bn hwx hb
    (try clear q_0 q_1 q_2 hlq); obtain ⟨q_0, q_1, q_2⟩ := c3_cells BW.out; have hlq := BW.out.lt
    (try clear g_0 g_1 g_2 hlg); obtain ⟨g_0, g_1, g_2⟩ := c3_cells BG.out; have hlg := BG.out.lt
    (try clear x_0 x_1 x_2 hlx); obtain ⟨x_0, x_1, x_2⟩ := c3_cells BH.out; have hlx := BH.out.lt
    have tok14 : True := trivial
    go_wp2_with (first | (go_at_call 6; clear tok14; (with_reducible refine Calls.mono (HQ.out _ S13 S2 L1.length c13 c2 D13 D2 L2.length d13 d2 _ h2 _ h2 O13.out.rdS.2.1 R2S.out O13.out.rdS.2.2 R2D.out (Nat.le_refl _) hz2 (Nat.le_refl _) hz2 (by unfold maxLen; omega) (by unfold maxLen; omega)) ?_); rintro ee w19 ⟨rfl, hb⟩; (try replace BW := Lib.hid (blk_later BW.out hb)); (try replace BG := Lib.hid (blk_later BG.out hb)); (try replace BH := Lib.hid (blk_later BH.out hb)); (try replace O4 := Lib.hid (O4.out.later hb)); (try replace G4 := Lib.hid (G4.out.later hb)); (try replace O13 := Lib.hid (O13.out.later hb)); (try replace R2S := Lib.hid (R2S.out.below (hb.mono hz2))); (try replace R2D := Lib.hid (R2D.out.below (hb.mono hz2))); (try replace hz2 := Nat.le_trans hz2 hb.size); replace hB := bel_step hB hb; clear hb; (try clear q_0 q_1 q_2 hlq); obtain ⟨q_0, q_1, q_2⟩ := c3_cells BW.out; have hlq := BW.out.lt; (try clear g_0 g_1 g_2 hlg); obtain ⟨g_0, g_1, g_2⟩ := c3_cells BG.out; have hlg := BG.out.lt; (try clear x_0 x_1 x_2 hlx); obtain ⟨x_0, x_1, x_2⟩ := c3_cells BH.out; have hlx := BH.out.lt) | (go_at_call 8; (with_reducible refine Calls.mono (heldC_any S4 _ c4 D4 _ d4 cv _ _ w19 G4.out.rdS.2.1 G4.out.rdS.2.2 (Nat.le_refl _) (Nat.le_refl _) (by omega) (by omega)) ?_); rintro ee w20 ⟨rfl, hb⟩; (try replace BW := Lib.hid (blk_later BW.out hb)); (try replace BG := Lib.hid (blk_later BG.out hb)); (try replace BH := Lib.hid (blk_later BH.out hb)); (try replace O4 := Lib.hid (O4.out.later hb)); (try replace G4 := Lib.hid (G4.out.later hb)); (try replace O13 := Lib.hid (O13.out.later hb)); (try replace R2S := Lib.hid (R2S.out.below (hb.mono hz2))); (try replace R2D := Lib.hid (R2D.out.below (hb.mono hz2))); (try replace hz2 := Nat.le_trans hz2 hb.size); replace hB := bel_step hB hb; clear hb; (try clear q_0 q_1 q_2 hlq); obtain ⟨q_0, q_1, q_2⟩ := c3_cells BW.out; have hlq := BW.out.lt; (try clear g_0 g_1 g_2 hlg); obtain ⟨g_0, g_1, g_2⟩ := c3_cells BG.out; have hlg := BG.out.lt; (try clear x_0 x_1 x_2 hlx); obtain ⟨x_0, x_1, x_2⟩ := c3_cells BH.out; have hlx := BH.out.lt))
    go_returns
    exact ⟨rfl, hB⟩
  · clear hL
    unfold maxLen at hs
    go_enter Tryd.func3, Tryd.ntmps3
    go_wp2
    go_returns
    exact ⟨rfl, by go_grown⟩
end Go.Proofs.YtmhbkabdiciakaaDoor
