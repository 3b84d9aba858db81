/-
  Contracts of the functions of chapter 14: pensions of a time.
-/
import Derived.Test.YtmgaooinkdmpbaaI4
set_option linter.unusedSimpArgs false
set_option linter.unusedVariables false
namespace Go.Proofs.Ytmgaooinkdmpbaa
open Go.RowKit
/-- the pensions of k months from a on -/
def penS (d wd lf wi o : Int) (xs : List Int) (a : Int) : Nat → Int
  | 0 => 0
  | k + 1 => penS d wd lf wi o xs a k + penN d wd lf (a + k) wi o xs
theorem penS_bd {d wd lf wi o : Int} {xs : List Int} (hl : xs.length ≤ 12) (ho : 0 ≤ o ∧ o ≤ 1000000) (hw : 0 ≤ wi ∧ wi ≤ 1000000) (a : Int) : ∀ k : Nat, 0 ≤ penS d wd lf wi o xs a k ∧ penS d wd lf wi o xs a k ≤ 13000000 * (k : Int) := by
  intro k
  induction k with
  | zero => simp [penS]
  | succ k ih =>
    have := pen_bd (d := d) (wd := wd) (lf := lf) (x := a + k) hl ho hw
    show 0 ≤ penS d wd lf wi o xs a k + _ ∧ penS d wd lf wi o xs a k + _ ≤ _
    omega
def ptB (x t wi o : Int) : Bool := inR 0 35999 x && inR 0 35999 t && inR 0 1200 (t - x) && (inR 0 1000000 wi && inR 0 1000000 o)
noncomputable def ptV (d m wd lf : Int) (n : Nat) (xs : List Int) (x t wi o : Int) : Int := if faC d m wd lf n xs (ptB x t wi o) = 0 then penS d wd lf wi o xs x (t - x).toNat else 0
theorem all_4 (x t a b : Int) : ([x, t].all (inR 0 35999) && [a, b].all (inR 0 1000000)) = (inR 0 35999 x && inR 0 35999 t && (inR 0 1000000 a && inR 0 1000000 b)) := by simp
set_option maxHeartbeats 2000000 in
theorem iPbt_in (d m wd lf : Int) (A : Option Addr) (n c : Nat) (xs : List Int) (x t wi o : Int) (w : World) (h : RdI w w.heap.size A n xs) (hc : n ≤ c) (hcm : c ≤ maxLen) (hn : n ≤ 1048576) (hf : famT d m wd lf n xs = true) (hb : ptB x t wi o = true) : Calls Try.prog 15 #[.agg #[.int .i64 d, .int .i64 m, .int .i64 wd, .int .i64 lf, .slice A n c], .int .i64 x, .int .i64 t, .int .i64 wi, .int .i64 o] w fun ee w' => ee = .returned (.tuple #[.int .i64 (penS d wd lf wi o xs x (t - x).toNat), .int .i64 (0)]) ∧ Below w.heap.size w w' := by
  have HC := fun W hR B hz B2 hr => iCkF_any d m wd lf A n c xs B 2 2 [x, t] B2 2 2 [wi, o] W hR hc hcm hn hz hr (by omega) (by omega)
  rw [all_4] at HC
  have hb' := hb
  have hW := al_ w (.cells #[.int .i64 d, .int .i64 m, .int .i64 wd, .int .i64 lf, .slice A n c] 26)
  have a_0 : ((w.alloc (.cells #[.int .i64 d, .int .i64 m, .int .i64 wd, .int .i64 lf, .slice A n c] 26))).cell? ⟨w.heap.size, 0, none⟩ = some (.int .i64 d) := (by simp [go_sem]); have a_1 : ((w.alloc (.cells #[.int .i64 d, .int .i64 m, .int .i64 wd, .int .i64 lf, .slice A n c] 26))).cell? ⟨w.heap.size, 1, none⟩ = some (.int .i64 m) := (by simp [go_sem]); have a_2 : ((w.alloc (.cells #[.int .i64 d, .int .i64 m, .int .i64 wd, .int .i64 lf, .slice A n c] 26))).cell? ⟨w.heap.size, 2, none⟩ = some (.int .i64 wd) := (by simp [go_sem]); have a_3 : ((w.alloc (.cells #[.int .i64 d, .int .i64 m, .int .i64 wd, .int .i64 lf, .slice A n c] 26))).cell? ⟨w.heap.size, 3, none⟩ = some (.int .i64 lf) := (by simp [go_sem]); have a_4 : ((w.alloc (.cells #[.int .i64 d, .int .i64 m, .int .i64 wd, .int .i64 lf, .slice A n c] 26))).cell? ⟨w.heap.size, 4, none⟩ = some (.slice A n c) := (by simp [go_sem])
  have H := Lib.hid h
  have hp := famT_t.1 hf
  simp only [ptB, Bool.and_eq_true, inR_iff] at hb
  obtain ⟨⟨⟨hx, ht⟩, htx⟩, hw, ho⟩ := hb
  have hl12 : xs.length ≤ 12 := by rw [h.len]; exact hp.2.2.2.2.1
  have HT := Lib.hid (penS_bd (d := d) (wd := wd) (lf := lf) hl12 ho hw x)
  have HN := Lib.hid (fun y => pen_bd (d := d) (wd := wd) (lf := lf) (x := y) hl12 ho hw)
  have HG := Lib.hid (fun W hR y hy => iPen_any d m wd lf A n c xs y wi o W hR hp.2.2.2.2.1 hp.2.2.2.2.2.2.2 hy ho hw)
  simp only [ptB, Bool.and_eq_true] at hb'
  rw [hb'.1.1.1, hb'.1.1.2, hb'.2.1, hb'.2.2] at HC
  rw [show faC d m wd lf n xs (true && true && (true && true)) = 0 by unfold faC; rw [if_pos hf]; rfl] at HC
  have HI := fun W => inRange_any (t - x) 0 1200 W
  rw [hb'.1.2] at HI
  have HC := Lib.hid HC
  have hW2 := bel_step hW (al_ _ (.cells #[.int .i64 x, .int .i64 t] 2))
  have L1 := Lib.hid (rd_litAt (w.alloc (.cells #[.int .i64 d, .int .i64 m, .int .i64 wd, .int .i64 lf, .slice A n c] 26)) #[.int .i64 x, .int .i64 t] [x, t] 2 rfl 2 rfl (w.heap.size + 1) (by simp))
  have hW3 := bel_step hW2 (al_ _ (.cells #[.int .i64 wi, .int .i64 o] 2))
  have L2 := Lib.hid (rd_litAt ((w.alloc (.cells #[.int .i64 d, .int .i64 m, .int .i64 wd, .int .i64 lf, .slice A n c] 26)).alloc (.cells #[.int .i64 x, .int .i64 t] 2)) #[.int .i64 wi, .int .i64 o] [wi, o] 2 rfl 2 rfl (w.heap.size + 1 + 1) (by simp))
  clear h hp hf hb' hl12
  go_enter Try.func15, Try.ntmps15
  go_wp2_with (first | ((go_at_call 42; (with_reducible refine Calls.mono (HC.out _ (H.out.later hW3) _ (L1.out.cur _) _ L2.out) ?_); rintro ee w1 ⟨rfl, hb1⟩; have hB1 := bel_step hW3 hb1); have hbb1 := bel_step (bel_step (al_ _ _) (al_ _ _)) hb1; have b_0 := keepC hbb1 a_0; have b_1 := keepC hbb1 a_1; have b_2 := keepC hbb1 a_2; have b_3 := keepC hbb1 a_3; have b_4 := keepC hbb1 a_4) | (go_at_call 53; (with_reducible refine (HI _).mono ?_); rintro ee w9 ⟨rfl, rfl⟩))
  clear a_0 a_1 a_2 a_3 a_4
  go_loopw [13, 14] (fun s y wr => ∃ k : Nat, k ≤ (t - x).toNat ∧ y = .int .i64 (x + k) ∧ s = .int .i64 (penS d wd lf wi o xs x k) ∧ Below w.heap.size w wr ∧ wr.cell? ⟨w.heap.size, 0, none⟩ = some (.int .i64 d) ∧ wr.cell? ⟨w.heap.size, 1, none⟩ = some (.int .i64 m) ∧ wr.cell? ⟨w.heap.size, 2, none⟩ = some (.int .i64 wd) ∧ wr.cell? ⟨w.heap.size, 3, none⟩ = some (.int .i64 lf) ∧ wr.cell? ⟨w.heap.size, 4, none⟩ = some (.slice A n c)) (fun _ y _ => (t - intOf y).toNat)
  case atStart => exact ⟨0, Nat.zero_le _, by go_num, rfl, hB1, b_0, b_1, b_2, b_3, b_4⟩
  case round =>
    obtain ⟨k, hk, rfl, rfl, hR, e_0, e_1, e_2, e_3, e_4⟩ := hrel
    clear b_0 b_1 b_2 b_3 b_4
    have hs := HT.out k
    by_cases hlt : k < (t - x).toNat
    · have HGk := fun W hR => HG.out W hR (x + k) (by omega)
      have HS : Hid (penS d wd lf wi o xs x (k + 1) = penS d wd lf wi o xs x k + penN d wd lf (x + k) wi o xs) := rfl
      have hv := HN.out (x + k)
      generalize penN d wd lf (x + k) wi o xs = v at *
      generalize penS d wd lf wi o xs x k = s0 at *
      have HGk := Lib.hid HGk
      have h1 : x + (k : Int) < t := by omega
      go_wp2_with (go_at_call 54; (with_reducible refine Calls.mono (HGk.out _ (H.out.later hR)) ?_); rintro ee w2 ⟨rfl, hb2⟩; have hB2 := bel_step hR hb2)
      go_roundw
      case rel => exact ⟨k + 1, by omega, by first | go_num | (congr 1; omega), by rw [HS.out], hB2, keepC hb2 e_0, keepC hb2 e_1, keepC hb2 e_2, keepC hb2 e_3, keepC hb2 e_4⟩
      case measure => simp [intOf]; omega
    · have HE : Hid (k = (t - x).toNat) := by show _ = _; omega
      have h1 : ¬ x + (k : Int) < t := by omega
      go_wp2
      go_returns
      exact ⟨by rw [← HE.out]; rfl, hR⟩
set_option maxHeartbeats 2000000 in
theorem iPbt_any (d m wd lf : Int) (A : Option Addr) (n c : Nat) (xs : List Int) (x t wi o : Int) (w : World) (h : RdI w w.heap.size A n xs) (hc : n ≤ c) (hcm : c ≤ maxLen) (hn : n ≤ 1048576) : Calls Try.prog 15 #[.agg #[.int .i64 d, .int .i64 m, .int .i64 wd, .int .i64 lf, .slice A n c], .int .i64 x, .int .i64 t, .int .i64 wi, .int .i64 o] w fun ee w' => ee = .returned (.tuple #[.int .i64 (ptV d m wd lf n xs x t wi o), .int .i64 (faC d m wd lf n xs (ptB x t wi o))]) ∧ Below w.heap.size w w' := by
  by_cases hall : famT d m wd lf n xs = true ∧ ptB x t wi o = true
  · have e1 : faC d m wd lf n xs (ptB x t wi o) = 0 := by unfold faC; rw [if_pos hall.1, if_pos hall.2]
    have e2 : ptV d m wd lf n xs x t wi o = penS d wd lf wi o xs x (t - x).toNat := if_pos e1
    rw [e1, e2]
    exact iPbt_in d m wd lf A n c xs x t wi o w h hc hcm hn hall.1 hall.2
  · have HC := fun W hR B hz B2 hr => iCkF_any d m wd lf A n c xs B 2 2 [x, t] B2 2 2 [wi, o] W hR hc hcm hn hz hr (by omega) (by omega)
    rw [all_4] at HC
    have hW := al_ w (.cells #[.int .i64 d, .int .i64 m, .int .i64 wd, .int .i64 lf, .slice A n c] 26)
    have H := Lib.hid h
    have hW2 := bel_step hW (al_ _ (.cells #[.int .i64 x, .int .i64 t] 2))
    have L1 := Lib.hid (rd_litAt (w.alloc (.cells #[.int .i64 d, .int .i64 m, .int .i64 wd, .int .i64 lf, .slice A n c] 26)) #[.int .i64 x, .int .i64 t] [x, t] 2 rfl 2 rfl (w.heap.size + 1) (by simp))
    have hW3 := bel_step hW2 (al_ _ (.cells #[.int .i64 wi, .int .i64 o] 2))
    have L2 := Lib.hid (rd_litAt ((w.alloc (.cells #[.int .i64 d, .int .i64 m, .int .i64 wd, .int .i64 lf, .slice A n c] 26)).alloc (.cells #[.int .i64 x, .int .i64 t] 2)) #[.int .i64 wi, .int .i64 o] [wi, o] 2 rfl 2 rfl (w.heap.size + 1 + 1) (by simp))
    have hv : ptV d m wd lf n xs x t wi o = 0 := if_neg (by
      unfold faC
      intro e
      split at e
      · split at e
        · exact hall ⟨‹_›, ‹_›⟩
        · cases e
      · cases e)
    rw [hv]
    have HI := fun W => inRange_any (t - x) 0 1200 W
    have hq : inR 0 35999 x = true → inR 0 35999 t = true → -35999 ≤ t - x ∧ t - x ≤ 35999 := fun a b => by rw [inR_iff] at a b; omega
    unfold ptB at hall ⊢
    unfold faC at HC ⊢
    clear h hv
    generalize famT d m wd lf n xs = b0 at *
    generalize inR 0 35999 x = b1 at *
    generalize inR 0 35999 t = b2 at *
    generalize inR 0 1200 (t - x) = b3 at *
    generalize (inR 0 1000000 wi && inR 0 1000000 o) = b4 at *
    cases b0 <;> cases b1 <;> cases b2 <;> cases b4
    all_goals try have hq := hq rfl rfl
    all_goals simp only [Bool.and_true, Bool.and_false, Bool.true_and, Bool.false_and, if_true, if_false, Bool.false_eq_true, ite_true, ite_false, reduceIte] at HC hall ⊢
    all_goals try (cases b3 <;> simp at hall)
    all_goals
      have HC := Lib.hid HC
      go_enter Try.func15, Try.ntmps15
      go_wp2_with (first | (go_at_call 42; (with_reducible refine Calls.mono (HC.out _ (H.out.later hW3) _ (L1.out.cur _) _ L2.out) ?_); rintro ee w1 ⟨rfl, hb1⟩; have hB1 := bel_step hW3 hb1) | (go_at_call 53; (with_reducible refine (HI _).mono ?_); rintro ee w9 ⟨rfl, rfl⟩))
      go_returns
      exact ⟨rfl, hB1⟩
set_option maxHeartbeats 2000000 in
theorem sPbt_in (d m wd lf : Int) (A : Option Addr) (n c : Nat) (xs : List Int) (x t wi o : Int) (w : World) (h : RdI w w.heap.size A n xs) (hc : n ≤ c) (hcm : c ≤ maxLen) (hn : n ≤ 1048576) (hf : famT d m wd lf n xs = true) (hb : ptB x t wi o = true) : Calls Try.prog 16 #[.agg #[.int .i64 d, .int .i64 m, .int .i64 wd, .int .i64 lf, .slice A n c], .int .i64 x, .int .i64 t, .int .i64 wi, .int .i64 o] w fun ee w' => ee = .returned (.tuple #[.int .i64 (penS d wd lf wi o xs x (t - x).toNat), .int .i64 (0)]) ∧ Below w.heap.size w w' := by
  have HC := fun W hR => sCkF_any d m wd lf A n c xs true W hR hc hcm hn
  have hb' := hb
  have hW := al_ w (.cells #[.int .i64 d, .int .i64 m, .int .i64 wd, .int .i64 lf, .slice A n c] 26)
  have a_0 : ((w.alloc (.cells #[.int .i64 d, .int .i64 m, .int .i64 wd, .int .i64 lf, .slice A n c] 26))).cell? ⟨w.heap.size, 0, none⟩ = some (.int .i64 d) := (by simp [go_sem]); have a_1 : ((w.alloc (.cells #[.int .i64 d, .int .i64 m, .int .i64 wd, .int .i64 lf, .slice A n c] 26))).cell? ⟨w.heap.size, 1, none⟩ = some (.int .i64 m) := (by simp [go_sem]); have a_2 : ((w.alloc (.cells #[.int .i64 d, .int .i64 m, .int .i64 wd, .int .i64 lf, .slice A n c] 26))).cell? ⟨w.heap.size, 2, none⟩ = some (.int .i64 wd) := (by simp [go_sem]); have a_3 : ((w.alloc (.cells #[.int .i64 d, .int .i64 m, .int .i64 wd, .int .i64 lf, .slice A n c] 26))).cell? ⟨w.heap.size, 3, none⟩ = some (.int .i64 lf) := (by simp [go_sem]); have a_4 : ((w.alloc (.cells #[.int .i64 d, .int .i64 m, .int .i64 wd, .int .i64 lf, .slice A n c] 26))).cell? ⟨w.heap.size, 4, none⟩ = some (.slice A n c) := (by simp [go_sem])
  have H := Lib.hid h
  have hp := famT_t.1 hf
  simp only [ptB, Bool.and_eq_true, inR_iff] at hb
  obtain ⟨⟨⟨hx, ht⟩, htx⟩, hw, ho⟩ := hb
  have hl12 : xs.length ≤ 12 := by rw [h.len]; exact hp.2.2.2.2.1
  have HT := Lib.hid (penS_bd (d := d) (wd := wd) (lf := lf) hl12 ho hw x)
  have HN := Lib.hid (fun y => pen_bd (d := d) (wd := wd) (lf := lf) (x := y) hl12 ho hw)
  have HG := Lib.hid (fun W hR y hy => sPen_any d m wd lf A n c xs y wi o W hR hp.2.2.2.2.1 hp.2.2.2.2.2.2.2 hy ho hw)
  simp only [ptB, Bool.and_eq_true] at hb'
  rw [show faC d m wd lf n xs true = 0 by unfold faC; rw [if_pos hf]; rfl] at HC
  have HM := fun W => l02Month_any x W
  have HM2 := fun W => l02Month_any t W
  have HI := fun W => sIn_any (t - x) 0 1200 W
  have HR := fun W => sRates_any wi o W
  rw [hb'.1.1.1] at HM
  rw [hb'.1.1.2] at HM2
  rw [hb'.1.2] at HI
  rw [hb'.2.1, hb'.2.2, Bool.true_and] at HR
  have q1 := IntWalk.i64_in (t - x) (by omega)
  have HC := Lib.hid HC
  clear h hp hf hb' hl12
  have x_0 := fun x : InC (w.alloc (.cells #[.int .i64 d, .int .i64 m, .int .i64 wd, .int .i64 lf, .slice A n c] 26)) => x.cell a_0; have x_1 := fun x : InC (w.alloc (.cells #[.int .i64 d, .int .i64 m, .int .i64 wd, .int .i64 lf, .slice A n c] 26)) => x.cell a_1; have x_2 := fun x : InC (w.alloc (.cells #[.int .i64 d, .int .i64 m, .int .i64 wd, .int .i64 lf, .slice A n c] 26)) => x.cell a_2; have x_3 := fun x : InC (w.alloc (.cells #[.int .i64 d, .int .i64 m, .int .i64 wd, .int .i64 lf, .slice A n c] 26)) => x.cell a_3; have x_4 := fun x : InC (w.alloc (.cells #[.int .i64 d, .int .i64 m, .int .i64 wd, .int .i64 lf, .slice A n c] 26)) => x.cell a_4
  go_enter Try.func16, Try.ntmps16
  go_wp2_with fail
  (refine wp_region_inC (by kernel_rfl) (by kernel_rfl) ?_; (repeat go_big_quiet_step ((first | (go_at_call 38; with_reducible exact Calls.inC_same (HM _)) | (go_at_call 38; with_reducible exact Calls.inC_same (HM2 _)) | (go_at_call 55; with_reducible exact Calls.inC_same (HI _)) | (go_at_call 56; with_reducible exact Calls.inC_same (HR _)) | (go_at_call 37; with_reducible exact Calls.inC (HC.out _ (H.out.later (bel_step hW (InC.h _)))))))); refine wpQuiet_nil ?_; rintro w1 ⟨⟨_, hb1⟩, rfl⟩)
  have hB1 := bel_step hW hb1
  have b_0 := keepC hb1 a_0; have b_1 := keepC hb1 a_1; have b_2 := keepC hb1 a_2; have b_3 := keepC hb1 a_3; have b_4 := keepC hb1 a_4
  clear a_0 a_1 a_2 a_3 a_4 x_0 x_1 x_2 x_3 x_4 q1
  go_wp2_with fail
  go_loopw [13, 14] (fun s y wr => ∃ k : Nat, k ≤ (t - x).toNat ∧ y = .int .i64 (x + k) ∧ s = .int .i64 (penS d wd lf wi o xs x k) ∧ Below w.heap.size w wr ∧ wr.cell? ⟨w.heap.size, 0, none⟩ = some (.int .i64 d) ∧ wr.cell? ⟨w.heap.size, 1, none⟩ = some (.int .i64 m) ∧ wr.cell? ⟨w.heap.size, 2, none⟩ = some (.int .i64 wd) ∧ wr.cell? ⟨w.heap.size, 3, none⟩ = some (.int .i64 lf) ∧ wr.cell? ⟨w.heap.size, 4, none⟩ = some (.slice A n c)) (fun _ y _ => (t - intOf y).toNat)
  case atStart => exact ⟨0, Nat.zero_le _, by go_num, rfl, hB1, b_0, b_1, b_2, b_3, b_4⟩
  case round =>
    obtain ⟨k, hk, rfl, rfl, hR, e_0, e_1, e_2, e_3, e_4⟩ := hrel
    clear b_0 b_1 b_2 b_3 b_4
    have hs := HT.out k
    by_cases hlt : k < (t - x).toNat
    · have HGk := fun W hR => HG.out W hR (x + k) (by omega)
      have HS : Hid (penS d wd lf wi o xs x (k + 1) = penS d wd lf wi o xs x k + penN d wd lf (x + k) wi o xs) := rfl
      have hv := HN.out (x + k)
      generalize penN d wd lf (x + k) wi o xs = v at *
      generalize penS d wd lf wi o xs x k = s0 at *
      have HGk := Lib.hid HGk
      have h1 : x + (k : Int) < t := by omega
      go_wp2_with (go_at_call 57; (with_reducible refine Calls.mono (HGk.out _ (H.out.later hR)) ?_); rintro ee w2 ⟨rfl, hb2⟩; have hB2 := bel_step hR hb2)
      go_roundw
      case rel => exact ⟨k + 1, by omega, by first | go_num | (congr 1; omega), by rw [HS.out], hB2, keepC hb2 e_0, keepC hb2 e_1, keepC hb2 e_2, keepC hb2 e_3, keepC hb2 e_4⟩
      case measure => simp [intOf]; omega
    · have HE : Hid (k = (t - x).toNat) := by show _ = _; omega
      have h1 : ¬ x + (k : Int) < t := by omega
      go_wp2
      go_returns
      exact ⟨by rw [← HE.out]; rfl, hR⟩
set_option maxHeartbeats 4000000 in
theorem sPbt_any (d m wd lf : Int) (A : Option Addr) (n c : Nat) (xs : List Int) (x t wi o : Int) (w : World) (h : RdI w w.heap.size A n xs) (hc : n ≤ c) (hcm : c ≤ maxLen) (hn : n ≤ 1048576) : Calls Try.prog 16 #[.agg #[.int .i64 d, .int .i64 m, .int .i64 wd, .int .i64 lf, .slice A n c], .int .i64 x, .int .i64 t, .int .i64 wi, .int .i64 o] w fun ee w' => ee = .returned (.tuple #[.int .i64 (ptV d m wd lf n xs x t wi o), .int .i64 (faC d m wd lf n xs (ptB x t wi o))]) ∧ Below w.heap.size w w' := by
  by_cases hall : famT d m wd lf n xs = true ∧ ptB x t wi o = true
  · have e1 : faC d m wd lf n xs (ptB x t wi o) = 0 := by unfold faC; rw [if_pos hall.1, if_pos hall.2]
    have e2 : ptV d m wd lf n xs x t wi o = penS d wd lf wi o xs x (t - x).toNat := if_pos e1
    rw [e1, e2]
    exact sPbt_in d m wd lf A n c xs x t wi o w h hc hcm hn hall.1 hall.2
  · have HC := fun W hR => sCkF_any d m wd lf A n c xs (ptB x t wi o) W hR hc hcm hn
    have hW := al_ w (.cells #[.int .i64 d, .int .i64 m, .int .i64 wd, .int .i64 lf, .slice A n c] 26)
    have a_0 : ((w.alloc (.cells #[.int .i64 d, .int .i64 m, .int .i64 wd, .int .i64 lf, .slice A n c] 26))).cell? ⟨w.heap.size, 0, none⟩ = some (.int .i64 d) := (by simp [go_sem]); have a_1 : ((w.alloc (.cells #[.int .i64 d, .int .i64 m, .int .i64 wd, .int .i64 lf, .slice A n c] 26))).cell? ⟨w.heap.size, 1, none⟩ = some (.int .i64 m) := (by simp [go_sem]); have a_2 : ((w.alloc (.cells #[.int .i64 d, .int .i64 m, .int .i64 wd, .int .i64 lf, .slice A n c] 26))).cell? ⟨w.heap.size, 2, none⟩ = some (.int .i64 wd) := (by simp [go_sem]); have a_3 : ((w.alloc (.cells #[.int .i64 d, .int .i64 m, .int .i64 wd, .int .i64 lf, .slice A n c] 26))).cell? ⟨w.heap.size, 3, none⟩ = some (.int .i64 lf) := (by simp [go_sem]); have a_4 : ((w.alloc (.cells #[.int .i64 d, .int .i64 m, .int .i64 wd, .int .i64 lf, .slice A n c] 26))).cell? ⟨w.heap.size, 4, none⟩ = some (.slice A n c) := (by simp [go_sem])
    have x_0 := fun x : InC (w.alloc (.cells #[.int .i64 d, .int .i64 m, .int .i64 wd, .int .i64 lf, .slice A n c] 26)) => x.cell a_0; have x_1 := fun x : InC (w.alloc (.cells #[.int .i64 d, .int .i64 m, .int .i64 wd, .int .i64 lf, .slice A n c] 26)) => x.cell a_1; have x_2 := fun x : InC (w.alloc (.cells #[.int .i64 d, .int .i64 m, .int .i64 wd, .int .i64 lf, .slice A n c] 26)) => x.cell a_2; have x_3 := fun x : InC (w.alloc (.cells #[.int .i64 d, .int .i64 m, .int .i64 wd, .int .i64 lf, .slice A n c] 26)) => x.cell a_3; have x_4 := fun x : InC (w.alloc (.cells #[.int .i64 d, .int .i64 m, .int .i64 wd, .int .i64 lf, .slice A n c] 26)) => x.cell a_4
    have H := Lib.hid h
    have hne : faC d m wd lf n xs (ptB x t wi o) ≠ 0 := by
      unfold faC
      intro e
      split at e
      · split at e
        · exact hall ⟨‹_›, ‹_›⟩
        · cases e
      · cases e
    have hv : ptV d m wd lf n xs x t wi o = 0 := if_neg hne
    rw [hv]
    have HM := fun W => l02Month_any x W
    have HM2 := fun W => l02Month_any t W
    have HI := fun W => sIn_any (t - x) 0 1200 W
    have HR := fun W => sRates_any wi o W
    have hq : inR 0 35999 x = true → inR 0 35999 t = true → IntKind.i64.wrap (t - x) = t - x := fun a b => by rw [inR_iff] at a b; exact IntWalk.i64_in _ (by omega)
    unfold ptB at HC hne ⊢
    clear h hv hall
    generalize inR 0 35999 x = b1 at *
    generalize inR 0 35999 t = b2 at *
    generalize inR 0 1200 (t - x) = b3 at *
    generalize (inR 0 1000000 wi && inR 0 1000000 o) = b4 at *
    cases b1 <;> cases b2 <;> cases b3 <;> cases b4
    all_goals try have hq := hq rfl rfl
    all_goals simp only [Bool.and_true, Bool.and_false, Bool.true_and, Bool.false_and] at HC hne ⊢
    all_goals
      generalize faC d m wd lf n xs _ = k at *
      have HC := Lib.hid HC
      go_enter Try.func16, Try.ntmps16
      go_wp2_with fail
      (refine wp_region_inC (by kernel_rfl) (by kernel_rfl) ?_; (repeat go_big_quiet_step ((first | (go_at_call 38; with_reducible exact Calls.inC_same (HM _)) | (go_at_call 38; with_reducible exact Calls.inC_same (HM2 _)) | (go_at_call 55; with_reducible exact Calls.inC_same (HI _)) | (go_at_call 56; with_reducible exact Calls.inC_same (HR _)) | (go_at_call 37; with_reducible exact Calls.inC (HC.out _ (H.out.later (bel_step hW (InC.h _)))))))); refine wpQuiet_nil ?_; rintro w1 ⟨⟨_, hb1⟩, rfl⟩)
      have hB1 := bel_step hW hb1
      go_wp2
      go_returns
      exact ⟨rfl, hB1⟩
end Go.Proofs.Ytmgaooinkdmpbaa
