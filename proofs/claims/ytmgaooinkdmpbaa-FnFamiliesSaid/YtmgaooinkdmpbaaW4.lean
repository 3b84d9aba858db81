/-
  The walk of a law of chapter 14, FnFamilies: the law returns true and turns nothing that was there. No condition.
-/
import Derived.Test.YtmgaooinkdmpbaaV4
import Derived.Test.Ytmgaooinkdmpbaa04
set_option linter.unusedSimpArgs false
set_option linter.unusedVariables false
namespace Go.Proofs.Ytmgaooinkdmpbaa
open Go.ChangeShapes Go.WideShapes Go.ChangeAt Go.RowKit Go.Deep
theorem own_cap {w : World} {base : Nat} {A : Option Addr} {n c : Nat} {zs : List Int} (h : OwI w base (.slice A n c) zs) : n ≤ c ∧ c ≤ maxLen := by
  rcases h.form with ⟨h1, h2⟩ | ⟨g, cap, h1, _, _, h3, h4⟩
  · injection h1 with h1 h2 h3; subst h2 h3; exact ⟨Nat.le_refl _, Nat.zero_le _⟩
  · injection h1 with h1 h2 h5; subst h2 h5; exact ⟨h3, h4⟩
set_option maxHeartbeats 8000000 in
set_option maxRecDepth 100000 in
theorem fnFamilies_walk (A0 : Option Addr) (n0 c0 : Nat) (bs : List Int) (w : World) (h : RdB w w.heap.size A0 n0 bs) (hby : ∀ b ∈ bs, 0 ≤ b ∧ b ≤ 255) (hmx : n0 ≤ maxLen) : Calls Try.prog 4 #[.slice A0 n0 c0] w fun e' w' => e' = .returned (.bool true) ∧ Below w.heap.size w w' := by
  have HBig := fun W => big_any A0 n0 c0 W hmx
  by_cases hn : n0 ≤ 4096
  · have HCW : Hid (∀ W, Below w.heap.size w W → Code' W.heap.size W A0 n0) := fun W hB => ⟨hn, bs, (h.below hB).more hB.size, hby⟩
    rw [decide_eq_false (show ¬ 4096 < n0 by omega)] at HBig
    clear h hby
    go_enter Try.func4, Try.ntmps4
    go_wp2_with (first | (go_at_call 13; (with_reducible refine (HBig _).mono ?_); rintro ee w0 ⟨rfl, rfl⟩) | (go_at_call 14; (with_reducible refine Calls.mono (drawPensionBetween_any A0 n0 c0 _ (fun W hb => HCW.out W hb)) ?_); rintro ee w1 ⟨d1, m1, wd1, lf1, A1, n1, c1, xs1, x, t, wi, o, rfl, ho, hx1, hB⟩; have O1 := Lib.hid ho; have R1 := Lib.hid ho.rd.2; have hn1 := Lib.hid ho.rd.1; have hc1 := own_cap ho; clear ho))
    obtain ⟨fb1, hfb1⟩ : ∃ fb, w1.heap.size = fb := ⟨_, rfl⟩
    obtain ⟨wz, hwz⟩ : ∃ wz, w1.alloc (.cells #[.int .i64 d1, .int .i64 m1, .int .i64 wd1, .int .i64 lf1, .slice A1 n1 c1] 26) = wz := ⟨_, rfl⟩
    have B1 : Hid (Blk wz fb1 26 #[.int .i64 d1, .int .i64 m1, .int .i64 wd1, .int .i64 lf1, .slice A1 n1 c1]) := Lib.hid (by rw [← hwz, ← hfb1]; exact Blk.new _ _ _)
    have hb : Below w1.heap.size w1 wz := hwz ▸ al_ _ _
    replace R1 := Lib.hid (R1.out.later hb)
    replace hB := bel_step hB hb
    rw [hwz, hfb1]
    clear hwz hb O1
    have hm1 : n1 ≤ 1048576 := by have := hn1.out; omega
    have H1 := fun W hR => iPbt_any d1 m1 wd1 lf1 A1 n1 c1 xs1 x t wi o W hR hc1.1 hc1.2 hm1
    have H2 := fun W hR => sPbt_any d1 m1 wd1 lf1 A1 n1 c1 xs1 x t wi o W hR hc1.1 hc1.2 hm1
    have H3 := fun W hR => iFam_any d1 m1 wd1 lf1 A1 n1 c1 xs1 W hR hc1.1 hc1.2 hm1
    have H4 := fun W hR => sFam_any d1 m1 wd1 lf1 A1 n1 c1 xs1 W hR hc1.1 hc1.2 hm1
    have HM := Lib.hid (fun mid W hR => iPbt_any d1 m1 wd1 lf1 A1 n1 c1 xs1 x mid wi o W hR hc1.1 hc1.2 hm1)
    have HN := Lib.hid (fun mid W hR => iPbt_any d1 m1 wd1 lf1 A1 n1 c1 xs1 mid t wi o W hR hc1.1 hc1.2 hm1)
    have hcase := pbt_pack d1 m1 wd1 lf1 n1 xs1 x t wi o hn1.out.symm
    generalize faC d1 m1 wd1 lf1 n1 xs1 (ptB x t wi o) = kb at *
    generalize ptV d1 m1 wd1 lf1 n1 xs1 x t wi o = nv at *
    generalize famT d1 m1 wd1 lf1 n1 xs1 = fam at *
    replace H1 := Lib.hid H1
    replace H2 := Lib.hid H2
    replace H3 := Lib.hid H3
    replace H4 := Lib.hid H4
    replace hcase := Lib.hid hcase
    (try clear f_0 f_1 f_2 f_3 f_4 hlf); obtain ⟨f_0, f_1, f_2, f_3, f_4, -⟩ := f5_cells B1.out; have hlf := B1.out.lt
    go_wp2_with (first | (go_at_call 15; (with_reducible refine Calls.mono (H1.out _ R1.out) ?_); rintro ee wz ⟨rfl, hb⟩; replace R1 := Lib.hid (R1.out.later hb); replace B1 := Lib.hid (blk_later B1.out hb); (try replace R2 := Lib.hid (R2.out.later hb)); (try replace B2 := Lib.hid (blk_later B2.out hb)); replace hB := bel_step hB hb; (try clear f_0 f_1 f_2 f_3 f_4 hlf); obtain ⟨f_0, f_1, f_2, f_3, f_4, -⟩ := f5_cells B1.out; have hlf := B1.out.lt; (try ((try clear g_0 g_1 g_2 g_3 g_4 hlg); obtain ⟨g_0, g_1, g_2, g_3, g_4, -⟩ := f5_cells B2.out; have hlg := B2.out.lt)); clear hb) | (go_at_call 16; (with_reducible refine Calls.mono (H2.out _ R1.out) ?_); rintro ee wz ⟨rfl, hb⟩; replace R1 := Lib.hid (R1.out.later hb); replace B1 := Lib.hid (blk_later B1.out hb); (try replace R2 := Lib.hid (R2.out.later hb)); (try replace B2 := Lib.hid (blk_later B2.out hb)); replace hB := bel_step hB hb; (try clear f_0 f_1 f_2 f_3 f_4 hlf); obtain ⟨f_0, f_1, f_2, f_3, f_4, -⟩ := f5_cells B1.out; have hlf := B1.out.lt; (try ((try clear g_0 g_1 g_2 g_3 g_4 hlg); obtain ⟨g_0, g_1, g_2, g_3, g_4, -⟩ := f5_cells B2.out; have hlg := B2.out.lt)); clear hb) | (go_at_call 17; (with_reducible refine Calls.mono (drawPensionIn_any A0 n0 c0 _ (fun W hb => HCW.out W (bel_step hB hb))) ?_); rintro ee w2 ⟨d2, m2, wd2, lf2, A2, n2, c2, xs2, mo, wi2, o2, rfl, ho, hx2, hb⟩; replace R1 := Lib.hid (R1.out.later hb); replace B1 := Lib.hid (blk_later B1.out hb); (try replace R2 := Lib.hid (R2.out.later hb)); (try replace B2 := Lib.hid (blk_later B2.out hb)); replace hB := bel_step hB hb; (try clear f_0 f_1 f_2 f_3 f_4 hlf); obtain ⟨f_0, f_1, f_2, f_3, f_4, -⟩ := f5_cells B1.out; have hlf := B1.out.lt; (try ((try clear g_0 g_1 g_2 g_3 g_4 hlg); obtain ⟨g_0, g_1, g_2, g_3, g_4, -⟩ := f5_cells B2.out; have hlg := B2.out.lt)); have R2 := Lib.hid ho.rd.2; have hn2 := Lib.hid ho.rd.1; have hc2 := own_cap ho; clear ho hb))
    obtain ⟨fb2, hfb2⟩ : ∃ fb, w2.heap.size = fb := ⟨_, rfl⟩
    obtain ⟨wz, hwz⟩ : ∃ wz, w2.alloc (.cells #[.int .i64 d2, .int .i64 m2, .int .i64 wd2, .int .i64 lf2, .slice A2 n2 c2] 26) = wz := ⟨_, rfl⟩
    have B2 : Hid (Blk wz fb2 26 #[.int .i64 d2, .int .i64 m2, .int .i64 wd2, .int .i64 lf2, .slice A2 n2 c2]) := Lib.hid (by rw [← hwz, ← hfb2]; exact Blk.new _ _ _)
    have hb : Below w2.heap.size w2 wz := hwz ▸ al_ _ _
    replace R2 := Lib.hid (R2.out.later hb)
    replace R1 := Lib.hid (R1.out.later hb)
    replace B1 := Lib.hid (blk_later B1.out hb)
    replace hB := bel_step hB hb
    rw [hwz, hfb2]
    clear hwz hb
    have hm2 : n2 ≤ 1048576 := by have := hn2.out; omega
    obtain ⟨p, one, ok, three, k, five, e1, e2, e3, hc⟩ := pen_pack d2 m2 wd2 lf2 n2 xs2 mo wi2 o2 hn2.out.symm
    have K1 := fun W hR => iPensionIn_any d2 m2 wd2 lf2 A2 n2 c2 xs2 mo wi2 o2 W hR hc2.1 hc2.2 hm2
    have K2 := fun W hR => sPensionIn_any d2 m2 wd2 lf2 A2 n2 c2 xs2 mo wi2 o2 W hR hc2.1 hc2.2 hm2
    have K3 := fun W hR => iGetsWidow_any d2 m2 wd2 lf2 A2 n2 c2 xs2 mo W hR hc2.1 hc2.2 hm2
    have K4 := fun W hR => sGetsWidow_any d2 m2 wd2 lf2 A2 n2 c2 xs2 mo W hR hc2.1 hc2.2 hm2
    have K5 := fun W hR => iOrphansIn_any d2 m2 wd2 lf2 A2 n2 c2 xs2 mo W hR hc2.1 hc2.2 hm2
    have K6 := fun W hR => sOrphansIn_any d2 m2 wd2 lf2 A2 n2 c2 xs2 mo W hR hc2.1 hc2.2 hm2
    rw [e1] at K1 K2
    rw [e2] at K3 K4
    rw [e3] at K5 K6
    clear e1 e2 e3
    replace K1 := Lib.hid K1
    replace K2 := Lib.hid K2
    replace K3 := Lib.hid K3
    replace K4 := Lib.hid K4
    replace K5 := Lib.hid K5
    replace K6 := Lib.hid K6
    (try clear f_0 f_1 f_2 f_3 f_4 hlf); obtain ⟨f_0, f_1, f_2, f_3, f_4, -⟩ := f5_cells B1.out; have hlf := B1.out.lt
    (try clear g_0 g_1 g_2 g_3 g_4 hlg); obtain ⟨g_0, g_1, g_2, g_3, g_4, -⟩ := f5_cells B2.out; have hlg := B2.out.lt
    clear H1 H2
    rcases hcase.out with h0 | ⟨rfl, hxt, hmid⟩
    all_goals clear hcase
    all_goals rcases hc with hq | ⟨rfl, hq1, hq2, ⟨rfl, rfl⟩ | ⟨rfl, rfl⟩⟩
    all_goals
      (try replace hmid := Lib.hid hmid)
      go_wp2_with (first | (go_at_call 18; (with_reducible refine Calls.mono (K1.out _ R2.out) ?_); rintro ee wz ⟨rfl, hb⟩; replace R1 := Lib.hid (R1.out.later hb); replace B1 := Lib.hid (blk_later B1.out hb); (try replace R2 := Lib.hid (R2.out.later hb)); (try replace B2 := Lib.hid (blk_later B2.out hb)); replace hB := bel_step hB hb; (try clear f_0 f_1 f_2 f_3 f_4 hlf); obtain ⟨f_0, f_1, f_2, f_3, f_4, -⟩ := f5_cells B1.out; have hlf := B1.out.lt; (try ((try clear g_0 g_1 g_2 g_3 g_4 hlg); obtain ⟨g_0, g_1, g_2, g_3, g_4, -⟩ := f5_cells B2.out; have hlg := B2.out.lt)); clear hb) | (go_at_call 19; (with_reducible refine Calls.mono (K2.out _ R2.out) ?_); rintro ee wz ⟨rfl, hb⟩; replace R1 := Lib.hid (R1.out.later hb); replace B1 := Lib.hid (blk_later B1.out hb); (try replace R2 := Lib.hid (R2.out.later hb)); (try replace B2 := Lib.hid (blk_later B2.out hb)); replace hB := bel_step hB hb; (try clear f_0 f_1 f_2 f_3 f_4 hlf); obtain ⟨f_0, f_1, f_2, f_3, f_4, -⟩ := f5_cells B1.out; have hlf := B1.out.lt; (try ((try clear g_0 g_1 g_2 g_3 g_4 hlg); obtain ⟨g_0, g_1, g_2, g_3, g_4, -⟩ := f5_cells B2.out; have hlg := B2.out.lt)); clear hb) | (go_at_call 20; (with_reducible refine Calls.mono (K3.out _ R2.out) ?_); rintro ee wz ⟨rfl, hb⟩; replace R1 := Lib.hid (R1.out.later hb); replace B1 := Lib.hid (blk_later B1.out hb); (try replace R2 := Lib.hid (R2.out.later hb)); (try replace B2 := Lib.hid (blk_later B2.out hb)); replace hB := bel_step hB hb; (try clear f_0 f_1 f_2 f_3 f_4 hlf); obtain ⟨f_0, f_1, f_2, f_3, f_4, -⟩ := f5_cells B1.out; have hlf := B1.out.lt; (try ((try clear g_0 g_1 g_2 g_3 g_4 hlg); obtain ⟨g_0, g_1, g_2, g_3, g_4, -⟩ := f5_cells B2.out; have hlg := B2.out.lt)); clear hb) | (go_at_call 21; (with_reducible refine Calls.mono (K4.out _ R2.out) ?_); rintro ee wz ⟨rfl, hb⟩; replace R1 := Lib.hid (R1.out.later hb); replace B1 := Lib.hid (blk_later B1.out hb); (try replace R2 := Lib.hid (R2.out.later hb)); (try replace B2 := Lib.hid (blk_later B2.out hb)); replace hB := bel_step hB hb; (try clear f_0 f_1 f_2 f_3 f_4 hlf); obtain ⟨f_0, f_1, f_2, f_3, f_4, -⟩ := f5_cells B1.out; have hlf := B1.out.lt; (try ((try clear g_0 g_1 g_2 g_3 g_4 hlg); obtain ⟨g_0, g_1, g_2, g_3, g_4, -⟩ := f5_cells B2.out; have hlg := B2.out.lt)); clear hb) | (go_at_call 22; (with_reducible refine Calls.mono (K5.out _ R2.out) ?_); rintro ee wz ⟨rfl, hb⟩; replace R1 := Lib.hid (R1.out.later hb); replace B1 := Lib.hid (blk_later B1.out hb); (try replace R2 := Lib.hid (R2.out.later hb)); (try replace B2 := Lib.hid (blk_later B2.out hb)); replace hB := bel_step hB hb; (try clear f_0 f_1 f_2 f_3 f_4 hlf); obtain ⟨f_0, f_1, f_2, f_3, f_4, -⟩ := f5_cells B1.out; have hlf := B1.out.lt; (try ((try clear g_0 g_1 g_2 g_3 g_4 hlg); obtain ⟨g_0, g_1, g_2, g_3, g_4, -⟩ := f5_cells B2.out; have hlg := B2.out.lt)); clear hb) | (go_at_call 23; (with_reducible refine Calls.mono (K6.out _ R2.out) ?_); rintro ee wz ⟨rfl, hb⟩; replace R1 := Lib.hid (R1.out.later hb); replace B1 := Lib.hid (blk_later B1.out hb); (try replace R2 := Lib.hid (R2.out.later hb)); (try replace B2 := Lib.hid (blk_later B2.out hb)); replace hB := bel_step hB hb; (try clear f_0 f_1 f_2 f_3 f_4 hlf); obtain ⟨f_0, f_1, f_2, f_3, f_4, -⟩ := f5_cells B1.out; have hlf := B1.out.lt; (try ((try clear g_0 g_1 g_2 g_3 g_4 hlg); obtain ⟨g_0, g_1, g_2, g_3, g_4, -⟩ := f5_cells B2.out; have hlg := B2.out.lt)); clear hb))
      clear K1 K2 K3 K4 K5 K6
      have v_0 := fun X : InC wz => X.cell f_0
      have v_1 := fun X : InC wz => X.cell f_1
      have v_2 := fun X : InC wz => X.cell f_2
      have v_3 := fun X : InC wz => X.cell f_3
      have v_4 := fun X : InC wz => X.cell f_4
      (refine wp_region_inC (by kernel_rfl) (by kernel_rfl) ?_; (repeat go_big_quiet_step ((first | (go_at_call 24; with_reducible exact Calls.inC (H3.out _ (R1.out.later (InC.h _)))) | (go_at_call 25; with_reducible exact Calls.inC (H4.out _ (R1.out.later (InC.h _))))))); refine wpQuiet_nil ?_; rintro wq ⟨⟨_, hb⟩, rfl⟩)
      replace R1 := Lib.hid (R1.out.later hb); replace B1 := Lib.hid (blk_later B1.out hb); (try replace R2 := Lib.hid (R2.out.later hb)); (try replace B2 := Lib.hid (blk_later B2.out hb)); replace hB := bel_step hB hb; (try clear f_0 f_1 f_2 f_3 f_4 hlf); obtain ⟨f_0, f_1, f_2, f_3, f_4, -⟩ := f5_cells B1.out; have hlf := B1.out.lt; (try ((try clear g_0 g_1 g_2 g_3 g_4 hlg); obtain ⟨g_0, g_1, g_2, g_3, g_4, -⟩ := f5_cells B2.out; have hlg := B2.out.lt))
      clear hb v_0 v_1 v_2 v_3 v_4 R2 B2 H3 H4
      (try clear g_0 g_1 g_2 g_3 g_4 hlg)
      go_wp2_with (first
        | (go_at_call 26; (with_reducible refine Calls.mono (roll_any A0 n0 c0 _ 1401 (HCW.out _ hB)) ?_); rintro ee wr ⟨gd, Ad, nd, cd, sd, rfl, hgd, hkd, hcd, hb⟩; have KD := Lib.hid hkd; have CD := Lib.hid hcd; have hzr := hb.size; have hwq := hB.size; have hlq := B1.out.lt; clear hkd hcd; have Rq := Lib.hid (R1.out.below hb); replace R1 := Lib.hid (R1.out.later hb); replace B1 := Lib.hid (blk_later B1.out hb); (try replace R2 := Lib.hid (R2.out.later hb)); (try replace B2 := Lib.hid (blk_later B2.out hb)); replace hB := bel_step hB hb; (try clear f_0 f_1 f_2 f_3 f_4 hlf); obtain ⟨f_0, f_1, f_2, f_3, f_4, -⟩ := f5_cells B1.out; have hlf := B1.out.lt; (try ((try clear g_0 g_1 g_2 g_3 g_4 hlg); obtain ⟨g_0, g_1, g_2, g_3, g_4, -⟩ := f5_cells B2.out; have hlg := B2.out.lt)); clear hb)
        | (go_at_call 27; (with_reducible refine Calls.mono (below_any gd Ad nd cd sd _ _ wq.heap.size KD.out CD.out hgd (by omega)) ?_); rintro ee ws ⟨q, rfl, hq, hg⟩; have hgs := hg.size; replace R1 := Lib.hid ((Rq.out.grown hg hzr (fun k e => by cases e; exact hgd)).more (Nat.le_trans hzr hgs)); replace B1 := Lib.hid (Blk.grown B1.out hg (fun e => (by injection e with e; omega))); replace hB := belowG hB hg (Nat.le_trans hwq hgd) hB.size; (try clear f_0 f_1 f_2 f_3 f_4 hlf); obtain ⟨f_0, f_1, f_2, f_3, f_4, -⟩ := f5_cells B1.out; have hlf := B1.out.lt; clear hg KD CD Rq; obtain ⟨E1, E2, E3, E4, E5⟩ := hmid.out (x + q) (by omega) (by omega); have G1 := fun W hR => HM.out (x + q) W hR; have G2 := fun W hR => HN.out (x + q) W hR; rw [E1] at G1; rw [E2] at G2; obtain ⟨av, hav⟩ : ∃ av, ptV d1 m1 wd1 lf1 n1 xs1 x (x + q) wi o = av := ⟨_, rfl⟩; obtain ⟨bv, hbv⟩ : ∃ bv, ptV d1 m1 wd1 lf1 n1 xs1 (x + q) t wi o = bv := ⟨_, rfl⟩; rw [hav] at G1 E3 E4; rw [hbv] at G2 E3 E5; replace G1 := Lib.hid G1; replace G2 := Lib.hid G2; clear hav hbv E1 E2 HM HN hmid; subst E3)
        | (go_at_call 15; (with_reducible refine Calls.mono (G1.out _ R1.out) ?_); rintro ee wz ⟨rfl, hb⟩; replace R1 := Lib.hid (R1.out.later hb); replace B1 := Lib.hid (blk_later B1.out hb); (try replace R2 := Lib.hid (R2.out.later hb)); (try replace B2 := Lib.hid (blk_later B2.out hb)); replace hB := bel_step hB hb; (try clear f_0 f_1 f_2 f_3 f_4 hlf); obtain ⟨f_0, f_1, f_2, f_3, f_4, -⟩ := f5_cells B1.out; have hlf := B1.out.lt; (try ((try clear g_0 g_1 g_2 g_3 g_4 hlg); obtain ⟨g_0, g_1, g_2, g_3, g_4, -⟩ := f5_cells B2.out; have hlg := B2.out.lt)); clear hb) | (go_at_call 15; (with_reducible refine Calls.mono (G2.out _ R1.out) ?_); rintro ee wz ⟨rfl, hb⟩; replace R1 := Lib.hid (R1.out.later hb); replace B1 := Lib.hid (blk_later B1.out hb); (try replace R2 := Lib.hid (R2.out.later hb)); (try replace B2 := Lib.hid (blk_later B2.out hb)); replace hB := bel_step hB hb; (try clear f_0 f_1 f_2 f_3 f_4 hlf); obtain ⟨f_0, f_1, f_2, f_3, f_4, -⟩ := f5_cells B1.out; have hlf := B1.out.lt; (try ((try clear g_0 g_1 g_2 g_3 g_4 hlg); obtain ⟨g_0, g_1, g_2, g_3, g_4, -⟩ := f5_cells B2.out; have hlg := B2.out.lt)); clear hb))
      all_goals go_returns
      all_goals exact ⟨rfl, hB⟩
  · rw [decide_eq_true (show 4096 < n0 by omega)] at HBig
    clear h
    go_enter Try.func4, Try.ntmps4
    go_wp2_with (go_at_call 13; (with_reducible refine (HBig _).mono ?_); rintro ee w0 ⟨rfl, rfl⟩)
    go_ret
    exact ⟨rfl, Below.refl _ _⟩
end Go.Proofs.Ytmgaooinkdmpbaa
