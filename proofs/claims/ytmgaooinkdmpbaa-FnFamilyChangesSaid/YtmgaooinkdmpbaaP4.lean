/-
  Contracts of the functions of chapter 14: NextChange.
-/
import Derived.Test.YtmgaooinkdmpbaaN4
set_option linter.unusedSimpArgs false
set_option linter.unusedVariables false
namespace Go.Proofs.Ytmgaooinkdmpbaa
open Go.RowKit
set_option maxHeartbeats 4000000 in
theorem iNx_any (d m wd lf : Int) (A : Option Addr) (n c : Nat) (xs : List Int) (x : Int) (w : World) (h : RdI w w.heap.size A n xs) (hc : n ≤ c) (hcm : c ≤ maxLen) (hn : n ≤ 1048576) : Calls Try.prog 29 #[.agg #[.int .i64 d, .int .i64 m, .int .i64 wd, .int .i64 lf, .slice A n c], .int .i64 x] w fun ee w' => ee = .returned (.tuple #[.int .i64 (nxV d m wd lf n xs x), .int .i64 (nxC d m wd lf n xs x)]) ∧ Below w.heap.size w w' := by
  have HC := fun W hR B hz => iCkF_any d m wd lf A n c xs B 1 1 [x] none 0 0 [] W hR hc hcm hn hz RdS.nil_ (by omega) (by omega)
  rw [all_1] at HC
  have H := Lib.hid h
  have hW := al_ w (.cells #[.int .i64 d, .int .i64 m, .int .i64 wd, .int .i64 lf, .slice A n c] 26)
  have hW2 := bel_step hW (al_ _ (.cells #[.int .i64 x] 2))
  have L1 := Lib.hid (rd_litAt (w.alloc (.cells #[.int .i64 d, .int .i64 m, .int .i64 wd, .int .i64 lf, .slice A n c] 26)) #[.int .i64 x] [x] 2 rfl 1 rfl (w.heap.size + 1) (by simp))
  have a_0 : ((w.alloc (.cells #[.int .i64 d, .int .i64 m, .int .i64 wd, .int .i64 lf, .slice A n c] 26))).cell? ⟨w.heap.size, 0, none⟩ = some (.int .i64 d) := (by simp [go_sem]); have a_1 : ((w.alloc (.cells #[.int .i64 d, .int .i64 m, .int .i64 wd, .int .i64 lf, .slice A n c] 26))).cell? ⟨w.heap.size, 1, none⟩ = some (.int .i64 m) := (by simp [go_sem]); have a_2 : ((w.alloc (.cells #[.int .i64 d, .int .i64 m, .int .i64 wd, .int .i64 lf, .slice A n c] 26))).cell? ⟨w.heap.size, 2, none⟩ = some (.int .i64 wd) := (by simp [go_sem]); have a_3 : ((w.alloc (.cells #[.int .i64 d, .int .i64 m, .int .i64 wd, .int .i64 lf, .slice A n c] 26))).cell? ⟨w.heap.size, 3, none⟩ = some (.int .i64 lf) := (by simp [go_sem]); have a_4 : ((w.alloc (.cells #[.int .i64 d, .int .i64 m, .int .i64 wd, .int .i64 lf, .slice A n c] 26))).cell? ⟨w.heap.size, 4, none⟩ = some (.slice A n c) := (by simp [go_sem])
  by_cases h0 : faC d m wd lf n xs (inR 0 35999 x) = 0
  · have hp : famP d m wd lf n xs ∧ inR 0 35999 x = true := by
      rcases faC_cases d m wd lf n xs (inR 0 35999 x) with ⟨_, a, b⟩ | ⟨a, _⟩ | ⟨a, _⟩
      · exact ⟨a, b⟩
      · rw [h0] at a; cases a
      · rw [h0] at a; cases a
    have hx := inR_iff.1 hp.2
    have hn12 := hp.1.2.2.2.2.1
    have hk := Lib.hid hp.1.2.2.2.2.2.2.2
    rw [h0] at HC
    have HC := Lib.hid HC
    skip
    have h0 := Lib.hid h0
    clear h hp
    go_enter Try.func29, Try.ntmps29
    go_wp2_with ((go_at_call 42; (with_reducible refine Calls.mono (HC.out _ (H.out.later hW2) _ L1.out) ?_); rintro ee w1 ⟨rfl, hb1⟩; have hB1 := bel_step hW2 hb1); have hbb1 := bel_step (al_ _ _) hb1; have b_0 := keepC hbb1 a_0; have b_1 := keepC hbb1 a_1; have b_2 := keepC hbb1 a_2; have b_3 := keepC hbb1 a_3; have b_4 := keepC hbb1 a_4)
    clear a_0 a_1 a_2 a_3 a_4
    go_loopw [7] (fun v wr => ∃ y : Int, x < y ∧ y ≤ 36000 ∧ v = .int .i64 y ∧ Hid (nxF d wd lf xs (x + 1) (35999 - x).toNat = nxF d wd lf xs y (36000 - y).toNat) ∧ Below w.heap.size w wr ∧ wr.cell? ⟨w.heap.size, 0, none⟩ = some (.int .i64 d) ∧ wr.cell? ⟨w.heap.size, 1, none⟩ = some (.int .i64 m) ∧ wr.cell? ⟨w.heap.size, 2, none⟩ = some (.int .i64 wd) ∧ wr.cell? ⟨w.heap.size, 3, none⟩ = some (.int .i64 lf) ∧ wr.cell? ⟨w.heap.size, 4, none⟩ = some (.slice A n c)) (fun v _ => (36000 - intOf v).toNat)
    case atStart => exact ⟨x + 1, by omega, by omega, rfl, by show _ = _; rw [show (36000 - (x + 1)).toNat = (35999 - x).toNat by omega], hB1, b_0, b_1, b_2, b_3, b_4⟩
    case round =>
      obtain ⟨y, hy1, hy2, rfl, HX, hR, e_0, e_1, e_2, e_3, e_4⟩ := hrel
      clear b_0 b_1 b_2 b_3 b_4
      have HM := fun W => isMonth_any y W
      by_cases hlt : y ≤ 35999
      · rw [inR_iff.2 ⟨by omega, hlt⟩] at HM
        have x_0 := fun z : InC wr => z.cell e_0
        have x_1 := fun z : InC wr => z.cell e_1
        have x_2 := fun z : InC wr => z.cell e_2
        have x_3 := fun z : InC wr => z.cell e_3
        have x_4 := fun z : InC wr => z.cell e_4
        have W1 := fun W => iWid_any d m wd lf A n c xs y W
        have W2 := fun W => iWid_any d m wd lf A n c xs (y - 1) W
        have O1 := fun W hR => iOrp_any d m wd lf A n c xs y W hR hn12 hk.out (by omega)
        have O2 := fun W hR => iOrp_any d m wd lf A n c xs (y - 1) W hR hn12 hk.out (by omega)
        have q1 := IntWalk.i64_in (y - 1) (by omega)
        have HDw := Lib.hid (fun h => dif_w (d := d) (wd := wd) (lf := lf) (xs := xs) (y := y) h)
        have HDo := Lib.hid (fun h => dif_o (d := d) (wd := wd) (lf := lf) (xs := xs) (y := y) h)
        generalize widB wd lf y = p1 at *
        generalize widB wd lf (y - 1) = p2 at *
        generalize orpN d y xs = o1 at *
        generalize orpN d (y - 1) xs = o2 at *
        have O1 := Lib.hid O1
        have O2 := Lib.hid O2
        rcases eqC o1 o2 with ⟨e1, e2, e3⟩ | ⟨e1, e2, e3⟩
        all_goals cases p1 <;> cases p2
        all_goals
          first
          | have HQ0 : Hid (difB d wd lf xs y = true) := HDw.out rfl
          | have HQ0 : Hid (difB d wd lf xs y = true) := (HDo.out rfl).trans e2
          | have HQ0 : Hid (difB d wd lf xs y = false) := (HDo.out rfl).trans e2
          clear HDw HDo
          go_wp2_with (go_at_call 60; (with_reducible refine (HM _).mono ?_); rintro ee w9 ⟨rfl, rfl⟩)
          (refine wp_region_inC (by kernel_rfl) (by kernel_rfl) ?_; (repeat go_big_quiet_step ((first | (go_at_call 43; with_reducible exact Calls.inC (W1 _)) | (go_at_call 43; with_reducible exact Calls.inC (W2 _)) | (go_at_call 58; with_reducible exact Calls.inC (O1.out _ (H.out.later (bel_step hR (InC.h _))))) | (go_at_call 58; with_reducible exact Calls.inC (O2.out _ (H.out.later (bel_step hR (InC.h _)))))))); refine wpQuiet_nil ?_; rintro w2 ⟨⟨_, hb2⟩, rfl⟩)
          have hB2 := bel_step hR hb2
          go_wp2
          first
          | (go_returns; have HQ := nx_some h0.out (HX.out.trans (nxF_hit HQ0.out (by omega))); exact ⟨by rw [HQ.out.1, HQ.out.2]; rfl, hB2⟩)
          | (go_roundw; case rel => exact ⟨y + 1, by omega, by omega, by first | rfl | go_num, HX.out.trans ((nxF_miss HQ0.out (by omega)).trans (by rw [show (36000 - y).toNat - 1 = (36000 - (y + 1)).toNat by omega])), hB2, keepC hb2 e_0, keepC hb2 e_1, keepC hb2 e_2, keepC hb2 e_3, keepC hb2 e_4⟩
             case measure => simp [intOf]; omega)
      · rw [inR_ff.2 (by omega)] at HM
        have HQ := nx_none h0.out (HX.out.trans (by rw [show (36000 - y).toNat = 0 by omega]; rfl))
        go_wp2_with (go_at_call 60; (with_reducible refine (HM _).mono ?_); rintro ee w9 ⟨rfl, rfl⟩)
        go_returns
        exact ⟨by rw [HQ.out.1, HQ.out.2]; rfl, hR⟩
  · have HQ := nx_bad h0
    generalize faC d m wd lf n xs (inR 0 35999 x) = k at *
    have HC := Lib.hid HC
    clear h
    go_enter Try.func29, Try.ntmps29
    go_wp2_with (go_at_call 42; (with_reducible refine Calls.mono (HC.out _ (H.out.later hW2) _ L1.out) ?_); rintro ee w1 ⟨rfl, hb1⟩; have hB1 := bel_step hW2 hb1)
    go_returns
    exact ⟨by rw [HQ.out.1, HQ.out.2]; rfl, hB1⟩
set_option maxHeartbeats 4000000 in
theorem sNx_any (d m wd lf : Int) (A : Option Addr) (n c : Nat) (xs : List Int) (x : Int) (w : World) (h : RdI w w.heap.size A n xs) (hc : n ≤ c) (hcm : c ≤ maxLen) (hn : n ≤ 1048576) : Calls Try.prog 30 #[.agg #[.int .i64 d, .int .i64 m, .int .i64 wd, .int .i64 lf, .slice A n c], .int .i64 x] w fun ee w' => ee = .returned (.tuple #[.int .i64 (nxV d m wd lf n xs x), .int .i64 (nxC d m wd lf n xs x)]) ∧ Below w.heap.size w w' := by
  have HC := fun W hR => sCkF_any d m wd lf A n c xs (inR 0 35999 x) W hR hc hcm hn
  have HM0 := fun W => l02Month_any x W
  have H := Lib.hid h
  have hW := al_ w (.cells #[.int .i64 d, .int .i64 m, .int .i64 wd, .int .i64 lf, .slice A n c] 26)
  have a_0 : ((w.alloc (.cells #[.int .i64 d, .int .i64 m, .int .i64 wd, .int .i64 lf, .slice A n c] 26))).cell? ⟨w.heap.size, 0, none⟩ = some (.int .i64 d) := (by simp [go_sem]); have a_1 : ((w.alloc (.cells #[.int .i64 d, .int .i64 m, .int .i64 wd, .int .i64 lf, .slice A n c] 26))).cell? ⟨w.heap.size, 1, none⟩ = some (.int .i64 m) := (by simp [go_sem]); have a_2 : ((w.alloc (.cells #[.int .i64 d, .int .i64 m, .int .i64 wd, .int .i64 lf, .slice A n c] 26))).cell? ⟨w.heap.size, 2, none⟩ = some (.int .i64 wd) := (by simp [go_sem]); have a_3 : ((w.alloc (.cells #[.int .i64 d, .int .i64 m, .int .i64 wd, .int .i64 lf, .slice A n c] 26))).cell? ⟨w.heap.size, 3, none⟩ = some (.int .i64 lf) := (by simp [go_sem]); have a_4 : ((w.alloc (.cells #[.int .i64 d, .int .i64 m, .int .i64 wd, .int .i64 lf, .slice A n c] 26))).cell? ⟨w.heap.size, 4, none⟩ = some (.slice A n c) := (by simp [go_sem])
  have x_0 := fun x : InC (w.alloc (.cells #[.int .i64 d, .int .i64 m, .int .i64 wd, .int .i64 lf, .slice A n c] 26)) => x.cell a_0; have x_1 := fun x : InC (w.alloc (.cells #[.int .i64 d, .int .i64 m, .int .i64 wd, .int .i64 lf, .slice A n c] 26)) => x.cell a_1; have x_2 := fun x : InC (w.alloc (.cells #[.int .i64 d, .int .i64 m, .int .i64 wd, .int .i64 lf, .slice A n c] 26)) => x.cell a_2; have x_3 := fun x : InC (w.alloc (.cells #[.int .i64 d, .int .i64 m, .int .i64 wd, .int .i64 lf, .slice A n c] 26)) => x.cell a_3; have x_4 := fun x : InC (w.alloc (.cells #[.int .i64 d, .int .i64 m, .int .i64 wd, .int .i64 lf, .slice A n c] 26)) => x.cell a_4
  by_cases h0 : faC d m wd lf n xs (inR 0 35999 x) = 0
  · have hp : famP d m wd lf n xs ∧ inR 0 35999 x = true := by
      rcases faC_cases d m wd lf n xs (inR 0 35999 x) with ⟨_, a, b⟩ | ⟨a, _⟩ | ⟨a, _⟩
      · exact ⟨a, b⟩
      · rw [h0] at a; cases a
      · rw [h0] at a; cases a
    have hx := inR_iff.1 hp.2
    have hn12 := hp.1.2.2.2.2.1
    have hk := Lib.hid hp.1.2.2.2.2.2.2.2
    rw [h0] at HC
    have HC := Lib.hid HC
    rw [hp.2] at HM0
    have HC := HC.out
    rw [hp.2] at HC
    have HC := Lib.hid HC
    have HD := Lib.hid (fun W hR y hy => sDif_any d m wd lf A n c xs y W hR hn12 hk.out hy)
    have h0 := Lib.hid h0
    clear h hp
    go_enter Try.func30, Try.ntmps30
    go_wp2_with fail
    (refine wp_region_inC (by kernel_rfl) (by kernel_rfl) ?_; (repeat go_big_quiet_step ((first | (go_at_call 38; with_reducible exact Calls.inC_same (HM0 _)) | (go_at_call 37; with_reducible exact Calls.inC (HC.out _ (H.out.later (bel_step hW (InC.h _)))))))); refine wpQuiet_nil ?_; rintro w1 ⟨⟨_, hb1⟩, rfl⟩)
    have hB1 := bel_step hW hb1
    have b_0 := keepC hb1 a_0; have b_1 := keepC hb1 a_1; have b_2 := keepC hb1 a_2; have b_3 := keepC hb1 a_3; have b_4 := keepC hb1 a_4
    clear x_0 x_1 x_2 x_3 x_4
    go_wp2_with fail
    clear a_0 a_1 a_2 a_3 a_4
    go_loopw [7] (fun v wr => ∃ y : Int, x < y ∧ y ≤ 36000 ∧ v = .int .i64 y ∧ Hid (nxF d wd lf xs (x + 1) (35999 - x).toNat = nxF d wd lf xs y (36000 - y).toNat) ∧ Below w.heap.size w wr ∧ wr.cell? ⟨w.heap.size, 0, none⟩ = some (.int .i64 d) ∧ wr.cell? ⟨w.heap.size, 1, none⟩ = some (.int .i64 m) ∧ wr.cell? ⟨w.heap.size, 2, none⟩ = some (.int .i64 wd) ∧ wr.cell? ⟨w.heap.size, 3, none⟩ = some (.int .i64 lf) ∧ wr.cell? ⟨w.heap.size, 4, none⟩ = some (.slice A n c)) (fun v _ => (36000 - intOf v).toNat)
    case atStart => exact ⟨x + 1, by omega, by omega, rfl, by show _ = _; rw [show (36000 - (x + 1)).toNat = (35999 - x).toNat by omega], hB1, b_0, b_1, b_2, b_3, b_4⟩
    case round =>
      obtain ⟨y, hy1, hy2, rfl, HX, hR, e_0, e_1, e_2, e_3, e_4⟩ := hrel
      clear b_0 b_1 b_2 b_3 b_4
      have HM := fun W => l02Month_any y W
      by_cases hlt : y ≤ 35999
      · rw [inR_iff.2 ⟨by omega, hlt⟩] at HM
        have HDy := fun W hR => HD.out W hR y (by omega)
        cases hq : difB d wd lf xs y with
        | true =>
          have HQ := nx_some h0.out (HX.out.trans (nxF_hit hq (by omega)))
          rw [hq] at HDy
          have HDy := Lib.hid HDy
          clear hq
          go_wp2_with (first | (go_at_call 38; (with_reducible refine (HM _).mono ?_); rintro ee w9 ⟨rfl, rfl⟩) | (go_at_call 64; (with_reducible refine Calls.mono (HDy.out _ (H.out.later hR)) ?_); rintro ee w2 ⟨rfl, hb2⟩; have hB2 := bel_step hR hb2))
          go_returns
          exact ⟨by rw [HQ.out.1, HQ.out.2]; rfl, hB2⟩
        | false =>
          have HQ0 := Lib.hid hq
          rw [hq] at HDy
          have HDy := Lib.hid HDy
          clear hq
          go_wp2_with (first | (go_at_call 38; (with_reducible refine (HM _).mono ?_); rintro ee w9 ⟨rfl, rfl⟩) | (go_at_call 64; (with_reducible refine Calls.mono (HDy.out _ (H.out.later hR)) ?_); rintro ee w2 ⟨rfl, hb2⟩; have hB2 := bel_step hR hb2))
          go_roundw
          case rel => exact ⟨y + 1, by omega, by omega, by first | rfl | go_num, HX.out.trans ((nxF_miss HQ0.out (by omega)).trans (by rw [show (36000 - y).toNat - 1 = (36000 - (y + 1)).toNat by omega])), hB2, keepC hb2 e_0, keepC hb2 e_1, keepC hb2 e_2, keepC hb2 e_3, keepC hb2 e_4⟩
          case measure => simp [intOf]; omega
      · rw [inR_ff.2 (by omega)] at HM
        have HQ := nx_none h0.out (HX.out.trans (by rw [show (36000 - y).toNat = 0 by omega]; rfl))
        go_wp2_with (go_at_call 38; (with_reducible refine (HM _).mono ?_); rintro ee w9 ⟨rfl, rfl⟩)
        go_returns
        exact ⟨by rw [HQ.out.1, HQ.out.2]; rfl, hR⟩
  · have HQ := nx_bad h0
    generalize hk : faC d m wd lf n xs (inR 0 35999 x) = k at *
    clear hk
    generalize inR 0 35999 x = bx at *
    have HC := Lib.hid HC
    clear h
    go_enter Try.func30, Try.ntmps30
    go_wp2_with fail
    (refine wp_region_inC (by kernel_rfl) (by kernel_rfl) ?_; (repeat go_big_quiet_step ((first | (go_at_call 38; with_reducible exact Calls.inC_same (HM0 _)) | (go_at_call 37; with_reducible exact Calls.inC (HC.out _ (H.out.later (bel_step hW (InC.h _)))))))); refine wpQuiet_nil ?_; rintro w1 ⟨⟨_, hb1⟩, rfl⟩)
    have hB1 := bel_step hW hb1
    go_wp2
    go_returns
    exact ⟨by rw [HQ.out.1, HQ.out.2]; rfl, hB1⟩
end Go.Proofs.Ytmgaooinkdmpbaa
