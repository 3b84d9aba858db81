/-
  Contracts of the functions of chapter 14: GetsWidow, OrphansIn, PensionIn.
-/
import Derived.Test.YtmgaooinkdmpbaaG4
set_option linter.unusedSimpArgs false
set_option linter.unusedVariables false
namespace Go.Proofs.Ytmgaooinkdmpbaa
open Go.RowKit
/-- what GetsWidow returns -/
noncomputable def gwV (d m wd lf : Int) (n : Nat) (xs : List Int) (x : Int) : Value :=
  if faC d m wd lf n xs (inR 0 35999 x) = 0 then .tuple #[.bool (widB wd lf x), .int .i64 0] else .tuple #[.bool false, .int .i64 (faC d m wd lf n xs (inR 0 35999 x))]
set_option maxHeartbeats 2000000 in
theorem iGetsWidow_any (d m wd lf : Int) (A : Option Addr) (n c : Nat) (xs : List Int) (x : Int) (w : World) (h : RdI w w.heap.size A n xs) (hc : n ≤ c) (hcm : c ≤ maxLen) (hn : n ≤ 1048576) : Calls Try.prog 20 #[.agg #[.int .i64 d, .int .i64 m, .int .i64 wd, .int .i64 lf, .slice A n c], .int .i64 x] w fun ee w' => ee = .returned (gwV d m wd lf n xs x) ∧ Below w.heap.size w w' := by
  have HC := fun W hR B hz => iCkF_any d m wd lf A n c xs B 1 1 [x] none 0 0 [] W hR hc hcm hn hz RdS.nil_ (by omega) (by omega)
  rw [all_1] at HC
  have H := Lib.hid h
  have hW := al_ w (.cells #[.int .i64 d, .int .i64 m, .int .i64 wd, .int .i64 lf, .slice A n c] 26)
  have hW2 := bel_step hW (al_ _ (.cells #[.int .i64 x] 2))
  have L1 := Lib.hid (rd_litAt (w.alloc (.cells #[.int .i64 d, .int .i64 m, .int .i64 wd, .int .i64 lf, .slice A n c] 26)) #[.int .i64 x] [x] 2 rfl 1 rfl (w.heap.size + 1) (by simp))
  have a_0 : ((w.alloc (.cells #[.int .i64 d, .int .i64 m, .int .i64 wd, .int .i64 lf, .slice A n c] 26))).cell? ⟨w.heap.size, 0, none⟩ = some (.int .i64 d) := (by simp [go_sem]); have a_1 : ((w.alloc (.cells #[.int .i64 d, .int .i64 m, .int .i64 wd, .int .i64 lf, .slice A n c] 26))).cell? ⟨w.heap.size, 1, none⟩ = some (.int .i64 m) := (by simp [go_sem]); have a_2 : ((w.alloc (.cells #[.int .i64 d, .int .i64 m, .int .i64 wd, .int .i64 lf, .slice A n c] 26))).cell? ⟨w.heap.size, 2, none⟩ = some (.int .i64 wd) := (by simp [go_sem]); have a_3 : ((w.alloc (.cells #[.int .i64 d, .int .i64 m, .int .i64 wd, .int .i64 lf, .slice A n c] 26))).cell? ⟨w.heap.size, 3, none⟩ = some (.int .i64 lf) := (by simp [go_sem]); have a_4 : ((w.alloc (.cells #[.int .i64 d, .int .i64 m, .int .i64 wd, .int .i64 lf, .slice A n c] 26))).cell? ⟨w.heap.size, 4, none⟩ = some (.slice A n c) := (by simp [go_sem])
  rcases faC_cases d m wd lf n xs (inR 0 35999 x) with ⟨h0, hp, ht⟩ | ⟨h0, hp, ht⟩ | ⟨h0, hp⟩
  · have HQ : Hid (gwV d m wd lf n xs x = _) := if_pos h0
    rw [h0] at HC
    have HC := Lib.hid HC
    have HX := inR_iff.1 ht
    have HG := Lib.hid (fun W => iWid_any d m wd lf A n c xs x W)
    clear h h0 hp
    go_enter Try.func20, Try.ntmps20
    go_wp2_with (first | ((go_at_call 42; (with_reducible refine Calls.mono (HC.out _ (H.out.later hW2) _ L1.out) ?_); rintro ee w1 ⟨rfl, hb1⟩; have hB1 := bel_step hW2 hb1); have hbb1 := bel_step (al_ _ _) hb1; have b_0 := keepC hbb1 a_0; have b_1 := keepC hbb1 a_1; have b_2 := keepC hbb1 a_2; have b_3 := keepC hbb1 a_3; have b_4 := keepC hbb1 a_4) | (go_at_call 43; (with_reducible refine Calls.mono (HG.out _) ?_); rintro ee w2 ⟨rfl, hb2⟩; have hB2 := bel_step hB1 hb2))
    go_returns
    exact ⟨by rw [HQ.out]; rfl, hB2⟩
  all_goals
    have HQ : Hid (gwV d m wd lf n xs x = .tuple #[.bool false, .int .i64 (faC d m wd lf n xs (inR 0 35999 x))]) := if_neg (by rw [h0]; decide)
    rw [h0] at HQ
    rw [h0] at HC
    have HC := Lib.hid HC
    clear h h0 hp
    try clear ht
    go_enter Try.func20, Try.ntmps20
    go_wp2_with ((go_at_call 42; (with_reducible refine Calls.mono (HC.out _ (H.out.later hW2) _ L1.out) ?_); rintro ee w1 ⟨rfl, hb1⟩; have hB1 := bel_step hW2 hb1); have hbb1 := bel_step (al_ _ _) hb1; have b_0 := keepC hbb1 a_0; have b_1 := keepC hbb1 a_1; have b_2 := keepC hbb1 a_2; have b_3 := keepC hbb1 a_3; have b_4 := keepC hbb1 a_4)
    go_returns
    exact ⟨by rw [HQ.out]; rfl, hB1⟩
set_option maxHeartbeats 2000000 in
theorem sGetsWidow_any (d m wd lf : Int) (A : Option Addr) (n c : Nat) (xs : List Int) (x : Int) (w : World) (h : RdI w w.heap.size A n xs) (hc : n ≤ c) (hcm : c ≤ maxLen) (hn : n ≤ 1048576) : Calls Try.prog 21 #[.agg #[.int .i64 d, .int .i64 m, .int .i64 wd, .int .i64 lf, .slice A n c], .int .i64 x] w fun ee w' => ee = .returned (gwV d m wd lf n xs x) ∧ Below w.heap.size w w' := by
  have HC := fun W hR => sCkF_any d m wd lf A n c xs (inR 0 35999 x) W hR hc hcm hn
  have HM := fun W => l02Month_any x W
  have H := Lib.hid h
  have hW := al_ w (.cells #[.int .i64 d, .int .i64 m, .int .i64 wd, .int .i64 lf, .slice A n c] 26)
  have a_0 : ((w.alloc (.cells #[.int .i64 d, .int .i64 m, .int .i64 wd, .int .i64 lf, .slice A n c] 26))).cell? ⟨w.heap.size, 0, none⟩ = some (.int .i64 d) := (by simp [go_sem]); have a_1 : ((w.alloc (.cells #[.int .i64 d, .int .i64 m, .int .i64 wd, .int .i64 lf, .slice A n c] 26))).cell? ⟨w.heap.size, 1, none⟩ = some (.int .i64 m) := (by simp [go_sem]); have a_2 : ((w.alloc (.cells #[.int .i64 d, .int .i64 m, .int .i64 wd, .int .i64 lf, .slice A n c] 26))).cell? ⟨w.heap.size, 2, none⟩ = some (.int .i64 wd) := (by simp [go_sem]); have a_3 : ((w.alloc (.cells #[.int .i64 d, .int .i64 m, .int .i64 wd, .int .i64 lf, .slice A n c] 26))).cell? ⟨w.heap.size, 3, none⟩ = some (.int .i64 lf) := (by simp [go_sem]); have a_4 : ((w.alloc (.cells #[.int .i64 d, .int .i64 m, .int .i64 wd, .int .i64 lf, .slice A n c] 26))).cell? ⟨w.heap.size, 4, none⟩ = some (.slice A n c) := (by simp [go_sem])
  have x_0 := fun x : InC (w.alloc (.cells #[.int .i64 d, .int .i64 m, .int .i64 wd, .int .i64 lf, .slice A n c] 26)) => x.cell a_0; have x_1 := fun x : InC (w.alloc (.cells #[.int .i64 d, .int .i64 m, .int .i64 wd, .int .i64 lf, .slice A n c] 26)) => x.cell a_1; have x_2 := fun x : InC (w.alloc (.cells #[.int .i64 d, .int .i64 m, .int .i64 wd, .int .i64 lf, .slice A n c] 26)) => x.cell a_2; have x_3 := fun x : InC (w.alloc (.cells #[.int .i64 d, .int .i64 m, .int .i64 wd, .int .i64 lf, .slice A n c] 26)) => x.cell a_3; have x_4 := fun x : InC (w.alloc (.cells #[.int .i64 d, .int .i64 m, .int .i64 wd, .int .i64 lf, .slice A n c] 26)) => x.cell a_4
  rcases faC_cases d m wd lf n xs (inR 0 35999 x) with ⟨h0, hp, ht⟩ | ⟨h0, hp, ht⟩ | ⟨h0, hp⟩
  · have HQ : Hid (gwV d m wd lf n xs x = _) := if_pos h0
    rw [h0] at HC
    rw [ht] at HC HM
    have HX := inR_iff.1 ht
    have HC := Lib.hid HC
    have HG := Lib.hid (fun W => sWid_any d m wd lf A n c xs x W)
    clear h h0 hp ht
    go_enter Try.func21, Try.ntmps21
    go_wp2_with fail
    (refine wp_region_inC (by kernel_rfl) (by kernel_rfl) ?_; (repeat go_big_quiet_step ((first | (go_at_call 38; with_reducible exact Calls.inC_same (HM _)) | (go_at_call 37; with_reducible exact Calls.inC (HC.out _ (H.out.later (bel_step hW (InC.h _)))))))); refine wpQuiet_nil ?_; rintro w1 ⟨⟨_, hb1⟩, rfl⟩)
    have hB1 := bel_step hW hb1
    have b_0 := keepC hb1 a_0; have b_1 := keepC hb1 a_1; have b_2 := keepC hb1 a_2; have b_3 := keepC hb1 a_3; have b_4 := keepC hb1 a_4
    clear x_0 x_1 x_2 x_3 x_4
    go_wp2_with (go_at_call 39; (with_reducible refine Calls.mono (HG.out _) ?_); rintro ee w2 ⟨rfl, hb2⟩; have hB2 := bel_step hB1 hb2)
    go_returns
    exact ⟨by rw [HQ.out]; rfl, hB2⟩
  all_goals
    have HQ : Hid (gwV d m wd lf n xs x = .tuple #[.bool false, .int .i64 (faC d m wd lf n xs (inR 0 35999 x))]) := if_neg (by rw [h0]; decide)
    rw [h0] at HQ
    rw [h0] at HC
    clear h h0 hp
    try clear ht
    generalize inR 0 35999 x = b at *
    have HC := Lib.hid HC
    go_enter Try.func21, Try.ntmps21
    go_wp2_with fail
    (refine wp_region_inC (by kernel_rfl) (by kernel_rfl) ?_; (repeat go_big_quiet_step ((first | (go_at_call 38; with_reducible exact Calls.inC_same (HM _)) | (go_at_call 37; with_reducible exact Calls.inC (HC.out _ (H.out.later (bel_step hW (InC.h _)))))))); refine wpQuiet_nil ?_; rintro w1 ⟨⟨_, hb1⟩, rfl⟩)
    have hB1 := bel_step hW hb1
    go_wp2
    go_returns
    exact ⟨by rw [HQ.out]; rfl, hB1⟩
/-- what OrphansIn returns -/
noncomputable def orV (d m wd lf : Int) (n : Nat) (xs : List Int) (x : Int) : Value :=
  if faC d m wd lf n xs (inR 0 35999 x) = 0 then .tuple #[.int .i64 (orpN d x xs), .int .i64 0] else .tuple #[.int .i64 0, .int .i64 (faC d m wd lf n xs (inR 0 35999 x))]
set_option maxHeartbeats 2000000 in
theorem iOrphansIn_any (d m wd lf : Int) (A : Option Addr) (n c : Nat) (xs : List Int) (x : Int) (w : World) (h : RdI w w.heap.size A n xs) (hc : n ≤ c) (hcm : c ≤ maxLen) (hn : n ≤ 1048576) : Calls Try.prog 22 #[.agg #[.int .i64 d, .int .i64 m, .int .i64 wd, .int .i64 lf, .slice A n c], .int .i64 x] w fun ee w' => ee = .returned (orV d m wd lf n xs x) ∧ Below w.heap.size w w' := by
  have HC := fun W hR B hz => iCkF_any d m wd lf A n c xs B 1 1 [x] none 0 0 [] W hR hc hcm hn hz RdS.nil_ (by omega) (by omega)
  rw [all_1] at HC
  have H := Lib.hid h
  have hW := al_ w (.cells #[.int .i64 d, .int .i64 m, .int .i64 wd, .int .i64 lf, .slice A n c] 26)
  have hW2 := bel_step hW (al_ _ (.cells #[.int .i64 x] 2))
  have L1 := Lib.hid (rd_litAt (w.alloc (.cells #[.int .i64 d, .int .i64 m, .int .i64 wd, .int .i64 lf, .slice A n c] 26)) #[.int .i64 x] [x] 2 rfl 1 rfl (w.heap.size + 1) (by simp))
  have a_0 : ((w.alloc (.cells #[.int .i64 d, .int .i64 m, .int .i64 wd, .int .i64 lf, .slice A n c] 26))).cell? ⟨w.heap.size, 0, none⟩ = some (.int .i64 d) := (by simp [go_sem]); have a_1 : ((w.alloc (.cells #[.int .i64 d, .int .i64 m, .int .i64 wd, .int .i64 lf, .slice A n c] 26))).cell? ⟨w.heap.size, 1, none⟩ = some (.int .i64 m) := (by simp [go_sem]); have a_2 : ((w.alloc (.cells #[.int .i64 d, .int .i64 m, .int .i64 wd, .int .i64 lf, .slice A n c] 26))).cell? ⟨w.heap.size, 2, none⟩ = some (.int .i64 wd) := (by simp [go_sem]); have a_3 : ((w.alloc (.cells #[.int .i64 d, .int .i64 m, .int .i64 wd, .int .i64 lf, .slice A n c] 26))).cell? ⟨w.heap.size, 3, none⟩ = some (.int .i64 lf) := (by simp [go_sem]); have a_4 : ((w.alloc (.cells #[.int .i64 d, .int .i64 m, .int .i64 wd, .int .i64 lf, .slice A n c] 26))).cell? ⟨w.heap.size, 4, none⟩ = some (.slice A n c) := (by simp [go_sem])
  rcases faC_cases d m wd lf n xs (inR 0 35999 x) with ⟨h0, hp, ht⟩ | ⟨h0, hp, ht⟩ | ⟨h0, hp⟩
  · have HQ : Hid (orV d m wd lf n xs x = _) := if_pos h0
    rw [h0] at HC
    have HC := Lib.hid HC
    have HX := inR_iff.1 ht
    have HG := Lib.hid (fun W hR => iOrp_any d m wd lf A n c xs x W hR hp.2.2.2.2.1 hp.2.2.2.2.2.2.2 HX)
    clear h h0 hp
    go_enter Try.func22, Try.ntmps22
    go_wp2_with (first | ((go_at_call 42; (with_reducible refine Calls.mono (HC.out _ (H.out.later hW2) _ L1.out) ?_); rintro ee w1 ⟨rfl, hb1⟩; have hB1 := bel_step hW2 hb1); have hbb1 := bel_step (al_ _ _) hb1; have b_0 := keepC hbb1 a_0; have b_1 := keepC hbb1 a_1; have b_2 := keepC hbb1 a_2; have b_3 := keepC hbb1 a_3; have b_4 := keepC hbb1 a_4) | (go_at_call 58; (with_reducible refine Calls.mono (HG.out _ (H.out.later hB1)) ?_); rintro ee w2 ⟨rfl, hb2⟩; have hB2 := bel_step hB1 hb2))
    go_returns
    exact ⟨by rw [HQ.out]; rfl, hB2⟩
  all_goals
    have HQ : Hid (orV d m wd lf n xs x = .tuple #[.int .i64 0, .int .i64 (faC d m wd lf n xs (inR 0 35999 x))]) := if_neg (by rw [h0]; decide)
    rw [h0] at HQ
    rw [h0] at HC
    have HC := Lib.hid HC
    clear h h0 hp
    try clear ht
    go_enter Try.func22, Try.ntmps22
    go_wp2_with ((go_at_call 42; (with_reducible refine Calls.mono (HC.out _ (H.out.later hW2) _ L1.out) ?_); rintro ee w1 ⟨rfl, hb1⟩; have hB1 := bel_step hW2 hb1); have hbb1 := bel_step (al_ _ _) hb1; have b_0 := keepC hbb1 a_0; have b_1 := keepC hbb1 a_1; have b_2 := keepC hbb1 a_2; have b_3 := keepC hbb1 a_3; have b_4 := keepC hbb1 a_4)
    go_returns
    exact ⟨by rw [HQ.out]; rfl, hB1⟩
set_option maxHeartbeats 2000000 in
theorem sOrphansIn_any (d m wd lf : Int) (A : Option Addr) (n c : Nat) (xs : List Int) (x : Int) (w : World) (h : RdI w w.heap.size A n xs) (hc : n ≤ c) (hcm : c ≤ maxLen) (hn : n ≤ 1048576) : Calls Try.prog 23 #[.agg #[.int .i64 d, .int .i64 m, .int .i64 wd, .int .i64 lf, .slice A n c], .int .i64 x] w fun ee w' => ee = .returned (orV d m wd lf n xs x) ∧ Below w.heap.size w w' := by
  have HC := fun W hR => sCkF_any d m wd lf A n c xs (inR 0 35999 x) W hR hc hcm hn
  have HM := fun W => l02Month_any x W
  have H := Lib.hid h
  have hW := al_ w (.cells #[.int .i64 d, .int .i64 m, .int .i64 wd, .int .i64 lf, .slice A n c] 26)
  have a_0 : ((w.alloc (.cells #[.int .i64 d, .int .i64 m, .int .i64 wd, .int .i64 lf, .slice A n c] 26))).cell? ⟨w.heap.size, 0, none⟩ = some (.int .i64 d) := (by simp [go_sem]); have a_1 : ((w.alloc (.cells #[.int .i64 d, .int .i64 m, .int .i64 wd, .int .i64 lf, .slice A n c] 26))).cell? ⟨w.heap.size, 1, none⟩ = some (.int .i64 m) := (by simp [go_sem]); have a_2 : ((w.alloc (.cells #[.int .i64 d, .int .i64 m, .int .i64 wd, .int .i64 lf, .slice A n c] 26))).cell? ⟨w.heap.size, 2, none⟩ = some (.int .i64 wd) := (by simp [go_sem]); have a_3 : ((w.alloc (.cells #[.int .i64 d, .int .i64 m, .int .i64 wd, .int .i64 lf, .slice A n c] 26))).cell? ⟨w.heap.size, 3, none⟩ = some (.int .i64 lf) := (by simp [go_sem]); have a_4 : ((w.alloc (.cells #[.int .i64 d, .int .i64 m, .int .i64 wd, .int .i64 lf, .slice A n c] 26))).cell? ⟨w.heap.size, 4, none⟩ = some (.slice A n c) := (by simp [go_sem])
  have x_0 := fun x : InC (w.alloc (.cells #[.int .i64 d, .int .i64 m, .int .i64 wd, .int .i64 lf, .slice A n c] 26)) => x.cell a_0; have x_1 := fun x : InC (w.alloc (.cells #[.int .i64 d, .int .i64 m, .int .i64 wd, .int .i64 lf, .slice A n c] 26)) => x.cell a_1; have x_2 := fun x : InC (w.alloc (.cells #[.int .i64 d, .int .i64 m, .int .i64 wd, .int .i64 lf, .slice A n c] 26)) => x.cell a_2; have x_3 := fun x : InC (w.alloc (.cells #[.int .i64 d, .int .i64 m, .int .i64 wd, .int .i64 lf, .slice A n c] 26)) => x.cell a_3; have x_4 := fun x : InC (w.alloc (.cells #[.int .i64 d, .int .i64 m, .int .i64 wd, .int .i64 lf, .slice A n c] 26)) => x.cell a_4
  rcases faC_cases d m wd lf n xs (inR 0 35999 x) with ⟨h0, hp, ht⟩ | ⟨h0, hp, ht⟩ | ⟨h0, hp⟩
  · have HQ : Hid (orV d m wd lf n xs x = _) := if_pos h0
    rw [h0] at HC
    rw [ht] at HC HM
    have HX := inR_iff.1 ht
    have HC := Lib.hid HC
    have HG := Lib.hid (fun W hR => sOrp_any d m wd lf A n c xs x W hR hp.2.2.2.2.1 hp.2.2.2.2.2.2.2 HX)
    clear h h0 hp ht
    go_enter Try.func23, Try.ntmps23
    go_wp2_with fail
    (refine wp_region_inC (by kernel_rfl) (by kernel_rfl) ?_; (repeat go_big_quiet_step ((first | (go_at_call 38; with_reducible exact Calls.inC_same (HM _)) | (go_at_call 37; with_reducible exact Calls.inC (HC.out _ (H.out.later (bel_step hW (InC.h _)))))))); refine wpQuiet_nil ?_; rintro w1 ⟨⟨_, hb1⟩, rfl⟩)
    have hB1 := bel_step hW hb1
    have b_0 := keepC hb1 a_0; have b_1 := keepC hb1 a_1; have b_2 := keepC hb1 a_2; have b_3 := keepC hb1 a_3; have b_4 := keepC hb1 a_4
    clear x_0 x_1 x_2 x_3 x_4
    go_wp2_with (go_at_call 59; (with_reducible refine Calls.mono (HG.out _ (H.out.later hB1)) ?_); rintro ee w2 ⟨rfl, hb2⟩; have hB2 := bel_step hB1 hb2)
    go_returns
    exact ⟨by rw [HQ.out]; rfl, hB2⟩
  all_goals
    have HQ : Hid (orV d m wd lf n xs x = .tuple #[.int .i64 0, .int .i64 (faC d m wd lf n xs (inR 0 35999 x))]) := if_neg (by rw [h0]; decide)
    rw [h0] at HQ
    rw [h0] at HC
    clear h h0 hp
    try clear ht
    generalize inR 0 35999 x = b at *
    have HC := Lib.hid HC
    go_enter Try.func23, Try.ntmps23
    go_wp2_with fail
    (refine wp_region_inC (by kernel_rfl) (by kernel_rfl) ?_; (repeat go_big_quiet_step ((first | (go_at_call 38; with_reducible exact Calls.inC_same (HM _)) | (go_at_call 37; with_reducible exact Calls.inC (HC.out _ (H.out.later (bel_step hW (InC.h _)))))))); refine wpQuiet_nil ?_; rintro w1 ⟨⟨_, hb1⟩, rfl⟩)
    have hB1 := bel_step hW hb1
    go_wp2
    go_returns
    exact ⟨by rw [HQ.out]; rfl, hB1⟩
/-- what PensionIn returns -/
noncomputable def peV (d m wd lf : Int) (n : Nat) (xs : List Int) (x wi o : Int) : Value :=
  if faC d m wd lf n xs ((inR 0 35999 x && (inR 0 1000000 wi && inR 0 1000000 o))) = 0 then .tuple #[.int .i64 (penN d wd lf x wi o xs), .int .i64 0] else .tuple #[.int .i64 0, .int .i64 (faC d m wd lf n xs ((inR 0 35999 x && (inR 0 1000000 wi && inR 0 1000000 o))))]
set_option maxHeartbeats 2000000 in
theorem iPensionIn_any (d m wd lf : Int) (A : Option Addr) (n c : Nat) (xs : List Int) (x wi o : Int) (w : World) (h : RdI w w.heap.size A n xs) (hc : n ≤ c) (hcm : c ≤ maxLen) (hn : n ≤ 1048576) : Calls Try.prog 18 #[.agg #[.int .i64 d, .int .i64 m, .int .i64 wd, .int .i64 lf, .slice A n c], .int .i64 x, .int .i64 wi, .int .i64 o] w fun ee w' => ee = .returned (peV d m wd lf n xs x wi o) ∧ Below w.heap.size w w' := by
  have HC := fun W hR B hz B2 hr => iCkF_any d m wd lf A n c xs B 1 1 [x] B2 2 2 [wi, o] W hR hc hcm hn hz hr (by omega) (by omega)
  rw [all_3] at HC
  have H := Lib.hid h
  have hW := al_ w (.cells #[.int .i64 d, .int .i64 m, .int .i64 wd, .int .i64 lf, .slice A n c] 26)
  have hW2 := bel_step hW (al_ _ (.cells #[.int .i64 x] 2))
  have L1 := Lib.hid (rd_litAt (w.alloc (.cells #[.int .i64 d, .int .i64 m, .int .i64 wd, .int .i64 lf, .slice A n c] 26)) #[.int .i64 x] [x] 2 rfl 1 rfl (w.heap.size + 1) (by simp))
  have hW3 := bel_step hW2 (al_ _ (.cells #[.int .i64 wi, .int .i64 o] 2))
  have L2 := Lib.hid (rd_litAt ((w.alloc (.cells #[.int .i64 d, .int .i64 m, .int .i64 wd, .int .i64 lf, .slice A n c] 26)).alloc (.cells #[.int .i64 x] 2)) #[.int .i64 wi, .int .i64 o] [wi, o] 2 rfl 2 rfl (w.heap.size + 1 + 1) (by simp))
  have a_0 : ((w.alloc (.cells #[.int .i64 d, .int .i64 m, .int .i64 wd, .int .i64 lf, .slice A n c] 26))).cell? ⟨w.heap.size, 0, none⟩ = some (.int .i64 d) := (by simp [go_sem]); have a_1 : ((w.alloc (.cells #[.int .i64 d, .int .i64 m, .int .i64 wd, .int .i64 lf, .slice A n c] 26))).cell? ⟨w.heap.size, 1, none⟩ = some (.int .i64 m) := (by simp [go_sem]); have a_2 : ((w.alloc (.cells #[.int .i64 d, .int .i64 m, .int .i64 wd, .int .i64 lf, .slice A n c] 26))).cell? ⟨w.heap.size, 2, none⟩ = some (.int .i64 wd) := (by simp [go_sem]); have a_3 : ((w.alloc (.cells #[.int .i64 d, .int .i64 m, .int .i64 wd, .int .i64 lf, .slice A n c] 26))).cell? ⟨w.heap.size, 3, none⟩ = some (.int .i64 lf) := (by simp [go_sem]); have a_4 : ((w.alloc (.cells #[.int .i64 d, .int .i64 m, .int .i64 wd, .int .i64 lf, .slice A n c] 26))).cell? ⟨w.heap.size, 4, none⟩ = some (.slice A n c) := (by simp [go_sem])
  rcases faC_cases d m wd lf n xs ((inR 0 35999 x && (inR 0 1000000 wi && inR 0 1000000 o))) with ⟨h0, hp, ht⟩ | ⟨h0, hp, ht⟩ | ⟨h0, hp⟩
  · have HQ : Hid (peV d m wd lf n xs x wi o = _) := if_pos h0
    rw [h0] at HC
    have HC := Lib.hid HC
    simp only [Bool.and_eq_true, inR_iff] at ht
    obtain ⟨HX, HW, HO⟩ := ht
    have HG := Lib.hid (fun W hR => iPen_any d m wd lf A n c xs x wi o W hR hp.2.2.2.2.1 hp.2.2.2.2.2.2.2 HX HO HW)
    clear h h0 hp
    go_enter Try.func18, Try.ntmps18
    go_wp2_with (first | ((go_at_call 42; (with_reducible refine Calls.mono (HC.out _ (H.out.later hW3) _ (L1.out.cur _) _ L2.out) ?_); rintro ee w1 ⟨rfl, hb1⟩; have hB1 := bel_step hW3 hb1); have hbb1 := bel_step (bel_step (al_ _ _) (al_ _ _)) hb1; have b_0 := keepC hbb1 a_0; have b_1 := keepC hbb1 a_1; have b_2 := keepC hbb1 a_2; have b_3 := keepC hbb1 a_3; have b_4 := keepC hbb1 a_4) | (go_at_call 54; (with_reducible refine Calls.mono (HG.out _ (H.out.later hB1)) ?_); rintro ee w2 ⟨rfl, hb2⟩; have hB2 := bel_step hB1 hb2))
    go_returns
    exact ⟨by rw [HQ.out]; rfl, hB2⟩
  all_goals
    have HQ : Hid (peV d m wd lf n xs x wi o = .tuple #[.int .i64 0, .int .i64 (faC d m wd lf n xs ((inR 0 35999 x && (inR 0 1000000 wi && inR 0 1000000 o))))]) := if_neg (by rw [h0]; decide)
    rw [h0] at HQ
    rw [h0] at HC
    have HC := Lib.hid HC
    clear h h0 hp
    try clear ht
    go_enter Try.func18, Try.ntmps18
    go_wp2_with ((go_at_call 42; (with_reducible refine Calls.mono (HC.out _ (H.out.later hW3) _ (L1.out.cur _) _ L2.out) ?_); rintro ee w1 ⟨rfl, hb1⟩; have hB1 := bel_step hW3 hb1); have hbb1 := bel_step (bel_step (al_ _ _) (al_ _ _)) hb1; have b_0 := keepC hbb1 a_0; have b_1 := keepC hbb1 a_1; have b_2 := keepC hbb1 a_2; have b_3 := keepC hbb1 a_3; have b_4 := keepC hbb1 a_4)
    go_returns
    exact ⟨by rw [HQ.out]; rfl, hB1⟩
set_option maxHeartbeats 2000000 in
theorem sPensionIn_any (d m wd lf : Int) (A : Option Addr) (n c : Nat) (xs : List Int) (x wi o : Int) (w : World) (h : RdI w w.heap.size A n xs) (hc : n ≤ c) (hcm : c ≤ maxLen) (hn : n ≤ 1048576) : Calls Try.prog 19 #[.agg #[.int .i64 d, .int .i64 m, .int .i64 wd, .int .i64 lf, .slice A n c], .int .i64 x, .int .i64 wi, .int .i64 o] w fun ee w' => ee = .returned (peV d m wd lf n xs x wi o) ∧ Below w.heap.size w w' := by
  have HC := fun W hR => sCkF_any d m wd lf A n c xs ((inR 0 35999 x && (inR 0 1000000 wi && inR 0 1000000 o))) W hR hc hcm hn
  have HM := fun W => l02Month_any x W
  have HR := fun W => sRates_any wi o W
  have H := Lib.hid h
  have hW := al_ w (.cells #[.int .i64 d, .int .i64 m, .int .i64 wd, .int .i64 lf, .slice A n c] 26)
  have a_0 : ((w.alloc (.cells #[.int .i64 d, .int .i64 m, .int .i64 wd, .int .i64 lf, .slice A n c] 26))).cell? ⟨w.heap.size, 0, none⟩ = some (.int .i64 d) := (by simp [go_sem]); have a_1 : ((w.alloc (.cells #[.int .i64 d, .int .i64 m, .int .i64 wd, .int .i64 lf, .slice A n c] 26))).cell? ⟨w.heap.size, 1, none⟩ = some (.int .i64 m) := (by simp [go_sem]); have a_2 : ((w.alloc (.cells #[.int .i64 d, .int .i64 m, .int .i64 wd, .int .i64 lf, .slice A n c] 26))).cell? ⟨w.heap.size, 2, none⟩ = some (.int .i64 wd) := (by simp [go_sem]); have a_3 : ((w.alloc (.cells #[.int .i64 d, .int .i64 m, .int .i64 wd, .int .i64 lf, .slice A n c] 26))).cell? ⟨w.heap.size, 3, none⟩ = some (.int .i64 lf) := (by simp [go_sem]); have a_4 : ((w.alloc (.cells #[.int .i64 d, .int .i64 m, .int .i64 wd, .int .i64 lf, .slice A n c] 26))).cell? ⟨w.heap.size, 4, none⟩ = some (.slice A n c) := (by simp [go_sem])
  have x_0 := fun x : InC (w.alloc (.cells #[.int .i64 d, .int .i64 m, .int .i64 wd, .int .i64 lf, .slice A n c] 26)) => x.cell a_0; have x_1 := fun x : InC (w.alloc (.cells #[.int .i64 d, .int .i64 m, .int .i64 wd, .int .i64 lf, .slice A n c] 26)) => x.cell a_1; have x_2 := fun x : InC (w.alloc (.cells #[.int .i64 d, .int .i64 m, .int .i64 wd, .int .i64 lf, .slice A n c] 26)) => x.cell a_2; have x_3 := fun x : InC (w.alloc (.cells #[.int .i64 d, .int .i64 m, .int .i64 wd, .int .i64 lf, .slice A n c] 26)) => x.cell a_3; have x_4 := fun x : InC (w.alloc (.cells #[.int .i64 d, .int .i64 m, .int .i64 wd, .int .i64 lf, .slice A n c] 26)) => x.cell a_4
  rcases faC_cases d m wd lf n xs ((inR 0 35999 x && (inR 0 1000000 wi && inR 0 1000000 o))) with ⟨h0, hp, ht⟩ | ⟨h0, hp, ht⟩ | ⟨h0, hp⟩
  · have HQ : Hid (peV d m wd lf n xs x wi o = _) := if_pos h0
    rw [h0] at HC
    have ht' := ht
    simp only [Bool.and_eq_true] at ht'
    obtain ⟨t1, t2, t3⟩ := ht'
    rw [ht] at HC
    rw [t1] at HM
    rw [t2, t3] at HR
    have HX := inR_iff.1 t1
    have HW := inR_iff.1 t2
    have HO := inR_iff.1 t3
    have HC := Lib.hid HC
    have HG := Lib.hid (fun W hR => sPen_any d m wd lf A n c xs x wi o W hR hp.2.2.2.2.1 hp.2.2.2.2.2.2.2 HX HO HW)
    clear h h0 hp ht
    go_enter Try.func19, Try.ntmps19
    go_wp2_with fail
    (refine wp_region_inC (by kernel_rfl) (by kernel_rfl) ?_; (repeat go_big_quiet_step ((first | (go_at_call 38; with_reducible exact Calls.inC_same (HM _)) | (go_at_call 56; with_reducible exact Calls.inC_same (HR _)) | (go_at_call 37; with_reducible exact Calls.inC (HC.out _ (H.out.later (bel_step hW (InC.h _)))))))); refine wpQuiet_nil ?_; rintro w1 ⟨⟨_, hb1⟩, rfl⟩)
    have hB1 := bel_step hW hb1
    have b_0 := keepC hb1 a_0; have b_1 := keepC hb1 a_1; have b_2 := keepC hb1 a_2; have b_3 := keepC hb1 a_3; have b_4 := keepC hb1 a_4
    clear x_0 x_1 x_2 x_3 x_4
    go_wp2_with (go_at_call 57; (with_reducible refine Calls.mono (HG.out _ (H.out.later hB1)) ?_); rintro ee w2 ⟨rfl, hb2⟩; have hB2 := bel_step hB1 hb2)
    go_returns
    exact ⟨by rw [HQ.out]; rfl, hB2⟩
  all_goals
    have HQ : Hid (peV d m wd lf n xs x wi o = .tuple #[.int .i64 0, .int .i64 (faC d m wd lf n xs ((inR 0 35999 x && (inR 0 1000000 wi && inR 0 1000000 o))))]) := if_neg (by rw [h0]; decide)
    rw [h0] at HQ
    rw [h0] at HC
    clear h h0 hp
    try clear ht
    generalize inR 0 35999 x = b0 at *
    generalize inR 0 1000000 wi = b1 at *
    generalize inR 0 1000000 o = b2 at *
    cases b0 <;> cases b1 <;> cases b2
    all_goals simp only [Bool.and_true, Bool.and_false, Bool.true_and, Bool.false_and] at HC HR
    all_goals
      have HC := Lib.hid HC
      go_enter Try.func19, Try.ntmps19
      go_wp2_with fail
      (refine wp_region_inC (by kernel_rfl) (by kernel_rfl) ?_; (repeat go_big_quiet_step ((first | (go_at_call 38; with_reducible exact Calls.inC_same (HM _)) | (go_at_call 56; with_reducible exact Calls.inC_same (HR _)) | (go_at_call 37; with_reducible exact Calls.inC (HC.out _ (H.out.later (bel_step hW (InC.h _)))))))); refine wpQuiet_nil ?_; rintro w1 ⟨⟨_, hb1⟩, rfl⟩)
      have hB1 := bel_step hW hb1
      go_wp2
      go_returns
      exact ⟨by rw [HQ.out]; rfl, hB1⟩
end Go.Proofs.Ytmgaooinkdmpbaa
