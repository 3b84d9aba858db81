/-
  Contracts of the functions of chapter 8: BothAlive (the reference's side) and OneAlive.
-/
import Derived.Test.YtggfonpjmplmfaaJ6
import Derived.Test.YtggfonpjmplmfaaQ
set_option linter.unusedSimpArgs false
set_option linter.unusedVariables false
namespace Go.Proofs.Ytggfonpjmplmfaa
open Go.RowKit
/-- the fraction over the chances -/
noncomputable def oaV (N : Int → Int → Int → Int → Int) (f x : Int) (n : Nat) (xs : List Int) (g y : Int) (m : Nat) (ys : List Int) (z : Int) : Value :=
  if prC f x n xs g y m ys (inR 0 150 z) = 0 then .tuple #[.int .i64 (fr (N (lv f n xs x) (lv g m ys y) (lv f n xs (x + z)) (lv g m ys (y + z))) (lv f n xs x * lv g m ys y) (N (lv f n xs x) (lv g m ys y) (lv f n xs (x + z)) (lv g m ys (y + z)))), .int .i64 (fr (N (lv f n xs x) (lv g m ys y) (lv f n xs (x + z)) (lv g m ys (y + z))) (lv f n xs x * lv g m ys y) (lv f n xs x * lv g m ys y)), .int .i64 0]
  else .tuple #[.int .i64 0, .int .i64 0, .int .i64 (prC f x n xs g y m ys (inR 0 150 z))]
theorem oaV_shape (N : Int → Int → Int → Int → Int) (f x : Int) (n : Nat) (xs : List Int) (g y : Int) (m : Nat) (ys : List Int) (z : Int) : ∃ a b k, oaV N f x n xs g y m ys z = .tuple #[.int .i64 a, .int .i64 b, .int .i64 k] := by
  unfold oaV
  split
  · exact ⟨_, _, _, rfl⟩
  · exact ⟨_, _, _, rfl⟩
def nBoth (a b c d : Int) : Int := c * d
def nOne (a b c d : Int) : Int := a * b - (a - c) * (b - d)
theorem baV_oaV (f x : Int) (n : Nat) (xs : List Int) (g y : Int) (m : Nat) (ys : List Int) (z : Int) : baV f x n xs g y m ys z = oaV nBoth f x n xs g y m ys z := rfl
theorem nOne_eq (a b c d : Int) : c * b + d * a - c * d = nOne a b c d := by
  unfold nOne
  rw [Int.sub_mul, Int.mul_sub, Int.mul_sub, Int.mul_comm d a]
  omega
set_option maxHeartbeats 2000000 in
theorem sBothAlive_any (f x : Int) (A : Option Addr) (n c : Nat) (xs : List Int) (g y : Int) (B : Option Addr) (m d : Nat) (ys : List Int) (z : Int) (w : World) (h : RdI w w.heap.size A n xs) (hc : n ≤ c) (hcm : c ≤ maxLen) (hn : n ≤ 1048576) (h' : RdI w w.heap.size B m ys) (hd : m ≤ d) (hdm : d ≤ maxLen) (hm : m ≤ 1048576) : Calls Try.prog 25 #[.agg #[.int .i64 f, .slice A n c], .int .i64 x, .agg #[.int .i64 g, .slice B m d], .int .i64 y, .int .i64 z] w fun e w' => e = .returned (oaV nBoth f x n xs g y m ys z) ∧ Below w.heap.size w w' := by
  have HC := fun W (hB : Below w.heap.size w W) => sPair_any f x A n c xs g y B m d ys (inR 0 150 z) W ((h.below hB).more hB.size) hc hcm hn ((h'.below hB).more hB.size) hd hdm hm
  have HI := fun W => sIn_any z 0 150 W
  obtain ⟨W0, hW0⟩ : ∃ W0 : World, W0 = (w.alloc (.cells #[.int .i64 f, .slice A n c] 28)).alloc (.cells #[.int .i64 g, .slice B m d] 28) := ⟨_, rfl⟩
  have hB0 : Below w.heap.size w W0 := by rw [hW0]; exact ((Below.refl _ _).alloc (Nat.le_refl _) _).alloc (by simp) _
  have c0 : W0.cell? ⟨w.heap.size, 0, none⟩ = some (.int .i64 f) := by rw [hW0]; simp [go_sem]
  have c1 : W0.cell? ⟨w.heap.size, 1, none⟩ = some (.slice A n c) := by rw [hW0]; simp [go_sem]
  have c2 : W0.cell? ⟨w.heap.size + 1, 0, none⟩ = some (.int .i64 g) := by rw [hW0]; simp [go_sem]
  have c3 : W0.cell? ⟨w.heap.size + 1, 1, none⟩ = some (.slice B m d) := by rw [hW0]; simp [go_sem]
  have x0 := fun x : InC W0 => x.cell c0
  have x1 := fun x : InC W0 => x.cell c1
  have x2 := fun x : InC W0 => x.cell c2
  have x3 := fun x : InC W0 => x.cell c3
  by_cases e : prC f x n xs g y m ys (inR 0 150 z) = 0
  · obtain ⟨hT, hU, hx, hy, hz, e5, e6⟩ := prC_split e
    have hzz := inR_iff.1 hz
    have hf0 := hT.1
    have hg0 := hU.1
    have HQ : Hid (oaV nBoth f x n xs g y m ys z = _) := if_pos e
    generalize oaV nBoth f x n xs g y m ys z = V0 at HQ ⊢
    have HX := Lib.hid (fun W (hB : Below w.heap.size w W) => sCh_any f x A n c xs g y B m d ys z W ((h.below hB).more hB.size) ((h'.below hB).more hB.size) hT hU ⟨hx.1, by omega⟩ ⟨hy.1, hy.2⟩ hzz)
    have b1 := lv_bd hT (age := x) (by omega)
    have b2 := lv_bd hU (age := y) (by omega)
    have b3 := lv_bd hT (age := x + z) (by omega)
    have b4 := lv_bd hU (age := y + z) (by omega)
    have a1 := lv_anti hT (x := x) (z := z) (by omega) (by omega)
    have a2 := lv_anti hU (x := y) (z := z) (by omega) (by omega)
    rw [e] at HC
    rw [hz] at HI HC
    have HC := Lib.hid HC
    clear h h' e hT hU hz
    unfold chV at HX
    generalize lv f n xs x = X at *
    generalize lv g m ys y = Y at *
    generalize lv f n xs (x + z) = P at *
    generalize lv g m ys (y + z) = Q at *
    have m1 := mul_bd b1 b2
    have m2 := mul_bd b3 b4
    have m3 : 0 < X * Y := Int.mul_pos (by omega) (by omega)
    have m4 := mul_bd (a := X - P) (b := Y - Q) (by omega) (by omega)
    have m5 : (X - P) * (Y - Q) ≤ X * Y := Int.mul_le_mul (by omega) (by omega) (by omega) (by omega)
    have HF := Lib.hid (fun W => sFr_any (nBoth X Y P Q) (X * Y) W (by unfold nBoth; omega) (by omega))
    unfold nBoth at HF HQ
    generalize X * Y - (X - P) * (Y - Q) = N1 at *
    generalize P * Q = N2 at *
    generalize X * Y = D at *
    go_enter Try.func25, Try.ntmps25
    go_upto_region 1 with fail
    rw [← hW0]
    clear hW0
    (refine wp_region_inC (by kernel_rfl) (by kernel_rfl) ?_; (repeat go_big_quiet_step ((first | (go_at_call 56; with_reducible exact Calls.inC_same (HI _)) | (go_at_call 60; with_reducible exact Calls.inC (HC.out _ (bel_step hB0 (InC.h _))))))); refine wpQuiet_nil ?_; rintro w1 ⟨⟨_, hb1⟩, rfl⟩)
    have hB1 := bel_step hB0 hb1
    have d0 := keepC hb1 c0
    have d1 := keepC hb1 c1
    have d2 := keepC hb1 c2
    have d3 := keepC hb1 c3
    have y0 := fun x : InC w1 => x.cell d0
    have y1 := fun x : InC w1 => x.cell d1
    have y2 := fun x : InC w1 => x.cell d2
    have y3 := fun x : InC w1 => x.cell d3
    clear x0 x1 x2 x3 c0 c1 c2 c3
    go_wp2_with (first | (go_at_call 61; (with_reducible refine Calls.mono (HX.out _ hB1) ?_); rintro ee w2 ⟨rfl, hb2⟩; have hB2 := bel_step hB1 hb2) | (go_at_call 57; (with_reducible refine Calls.mono (HF.out _) ?_); rintro ee w3 ⟨rfl, hb3⟩; have hB3 := bel_step hB2 hb3))
    go_returns
    exact ⟨by rw [HQ.out]; rfl, hB3⟩
  · have HQ : Hid (oaV nBoth f x n xs g y m ys z = _) := if_neg e
    clear h h'
    generalize prC f x n xs g y m ys (inR 0 150 z) = k at *
    have HC := Lib.hid HC
    go_enter Try.func25, Try.ntmps25
    go_upto_region 1 with fail
    rw [← hW0]
    clear hW0
    (refine wp_region_inC (by kernel_rfl) (by kernel_rfl) ?_; (repeat go_big_quiet_step ((first | (go_at_call 56; with_reducible exact Calls.inC_same (HI _)) | (go_at_call 60; with_reducible exact Calls.inC (HC.out _ (bel_step hB0 (InC.h _))))))); refine wpQuiet_nil ?_; rintro w1 ⟨⟨_, hb1⟩, rfl⟩)
    have hB1 := bel_step hB0 hb1
    go_wp2
    go_returns
    exact ⟨by rw [HQ.out]; rfl, hB1⟩
set_option maxHeartbeats 2000000 in
theorem sOneAlive_any (f x : Int) (A : Option Addr) (n c : Nat) (xs : List Int) (g y : Int) (B : Option Addr) (m d : Nat) (ys : List Int) (z : Int) (w : World) (h : RdI w w.heap.size A n xs) (hc : n ≤ c) (hcm : c ≤ maxLen) (hn : n ≤ 1048576) (h' : RdI w w.heap.size B m ys) (hd : m ≤ d) (hdm : d ≤ maxLen) (hm : m ≤ 1048576) : Calls Try.prog 27 #[.agg #[.int .i64 f, .slice A n c], .int .i64 x, .agg #[.int .i64 g, .slice B m d], .int .i64 y, .int .i64 z] w fun e w' => e = .returned (oaV nOne f x n xs g y m ys z) ∧ Below w.heap.size w w' := by
  have HC := fun W (hB : Below w.heap.size w W) => sPair_any f x A n c xs g y B m d ys (inR 0 150 z) W ((h.below hB).more hB.size) hc hcm hn ((h'.below hB).more hB.size) hd hdm hm
  have HI := fun W => sIn_any z 0 150 W
  obtain ⟨W0, hW0⟩ : ∃ W0 : World, W0 = (w.alloc (.cells #[.int .i64 f, .slice A n c] 28)).alloc (.cells #[.int .i64 g, .slice B m d] 28) := ⟨_, rfl⟩
  have hB0 : Below w.heap.size w W0 := by rw [hW0]; exact ((Below.refl _ _).alloc (Nat.le_refl _) _).alloc (by simp) _
  have c0 : W0.cell? ⟨w.heap.size, 0, none⟩ = some (.int .i64 f) := by rw [hW0]; simp [go_sem]
  have c1 : W0.cell? ⟨w.heap.size, 1, none⟩ = some (.slice A n c) := by rw [hW0]; simp [go_sem]
  have c2 : W0.cell? ⟨w.heap.size + 1, 0, none⟩ = some (.int .i64 g) := by rw [hW0]; simp [go_sem]
  have c3 : W0.cell? ⟨w.heap.size + 1, 1, none⟩ = some (.slice B m d) := by rw [hW0]; simp [go_sem]
  have x0 := fun x : InC W0 => x.cell c0
  have x1 := fun x : InC W0 => x.cell c1
  have x2 := fun x : InC W0 => x.cell c2
  have x3 := fun x : InC W0 => x.cell c3
  by_cases e : prC f x n xs g y m ys (inR 0 150 z) = 0
  · obtain ⟨hT, hU, hx, hy, hz, e5, e6⟩ := prC_split e
    have hzz := inR_iff.1 hz
    have hf0 := hT.1
    have hg0 := hU.1
    have HQ : Hid (oaV nOne f x n xs g y m ys z = _) := if_pos e
    generalize oaV nOne f x n xs g y m ys z = V0 at HQ ⊢
    have HX := Lib.hid (fun W (hB : Below w.heap.size w W) => sCh_any f x A n c xs g y B m d ys z W ((h.below hB).more hB.size) ((h'.below hB).more hB.size) hT hU ⟨hx.1, by omega⟩ ⟨hy.1, hy.2⟩ hzz)
    have b1 := lv_bd hT (age := x) (by omega)
    have b2 := lv_bd hU (age := y) (by omega)
    have b3 := lv_bd hT (age := x + z) (by omega)
    have b4 := lv_bd hU (age := y + z) (by omega)
    have a1 := lv_anti hT (x := x) (z := z) (by omega) (by omega)
    have a2 := lv_anti hU (x := y) (z := z) (by omega) (by omega)
    rw [e] at HC
    rw [hz] at HI HC
    have HC := Lib.hid HC
    clear h h' e hT hU hz
    unfold chV at HX
    generalize lv f n xs x = X at *
    generalize lv g m ys y = Y at *
    generalize lv f n xs (x + z) = P at *
    generalize lv g m ys (y + z) = Q at *
    have m1 := mul_bd b1 b2
    have m2 := mul_bd b3 b4
    have m3 : 0 < X * Y := Int.mul_pos (by omega) (by omega)
    have m4 := mul_bd (a := X - P) (b := Y - Q) (by omega) (by omega)
    have m5 : (X - P) * (Y - Q) ≤ X * Y := Int.mul_le_mul (by omega) (by omega) (by omega) (by omega)
    have HF := Lib.hid (fun W => sFr_any (nOne X Y P Q) (X * Y) W (by unfold nOne; omega) (by omega))
    unfold nOne at HF HQ
    generalize X * Y - (X - P) * (Y - Q) = N1 at *
    generalize P * Q = N2 at *
    generalize X * Y = D at *
    go_enter Try.func27, Try.ntmps27
    go_upto_region 1 with fail
    rw [← hW0]
    clear hW0
    (refine wp_region_inC (by kernel_rfl) (by kernel_rfl) ?_; (repeat go_big_quiet_step ((first | (go_at_call 56; with_reducible exact Calls.inC_same (HI _)) | (go_at_call 60; with_reducible exact Calls.inC (HC.out _ (bel_step hB0 (InC.h _))))))); refine wpQuiet_nil ?_; rintro w1 ⟨⟨_, hb1⟩, rfl⟩)
    have hB1 := bel_step hB0 hb1
    have d0 := keepC hb1 c0
    have d1 := keepC hb1 c1
    have d2 := keepC hb1 c2
    have d3 := keepC hb1 c3
    have y0 := fun x : InC w1 => x.cell d0
    have y1 := fun x : InC w1 => x.cell d1
    have y2 := fun x : InC w1 => x.cell d2
    have y3 := fun x : InC w1 => x.cell d3
    clear x0 x1 x2 x3 c0 c1 c2 c3
    go_wp2_with (first | (go_at_call 61; (with_reducible refine Calls.mono (HX.out _ hB1) ?_); rintro ee w2 ⟨rfl, hb2⟩; have hB2 := bel_step hB1 hb2) | (go_at_call 57; (with_reducible refine Calls.mono (HF.out _) ?_); rintro ee w3 ⟨rfl, hb3⟩; have hB3 := bel_step hB2 hb3))
    go_returns
    exact ⟨by rw [HQ.out]; rfl, hB3⟩
  · have HQ : Hid (oaV nOne f x n xs g y m ys z = _) := if_neg e
    clear h h'
    generalize prC f x n xs g y m ys (inR 0 150 z) = k at *
    have HC := Lib.hid HC
    go_enter Try.func27, Try.ntmps27
    go_upto_region 1 with fail
    rw [← hW0]
    clear hW0
    (refine wp_region_inC (by kernel_rfl) (by kernel_rfl) ?_; (repeat go_big_quiet_step ((first | (go_at_call 56; with_reducible exact Calls.inC_same (HI _)) | (go_at_call 60; with_reducible exact Calls.inC (HC.out _ (bel_step hB0 (InC.h _))))))); refine wpQuiet_nil ?_; rintro w1 ⟨⟨_, hb1⟩, rfl⟩)
    have hB1 := bel_step hB0 hb1
    go_wp2
    go_returns
    exact ⟨by rw [HQ.out]; rfl, hB1⟩
set_option maxRecDepth 100000 in
set_option maxHeartbeats 2000000 in
theorem iOneAlive_any (f x : Int) (A : Option Addr) (n c : Nat) (xs : List Int) (g y : Int) (B : Option Addr) (m d : Nat) (ys : List Int) (z : Int) (w : World) (h : RdI w w.heap.size A n xs) (hc : n ≤ c) (hcm : c ≤ maxLen) (hn : n ≤ 1048576) (h' : RdI w w.heap.size B m ys) (hd : m ≤ d) (hdm : d ≤ maxLen) (hm : m ≤ 1048576) : Calls Try.prog 28 #[.agg #[.int .i64 f, .slice A n c], .int .i64 x, .agg #[.int .i64 g, .slice B m d], .int .i64 y, .int .i64 z] w fun e w' => e = .returned (oaV nOne f x n xs g y m ys z) ∧ Below w.heap.size w w' := by
  have HC := fun W (hB : Below w.heap.size w W) => iPair_any f x A n c xs g y B m d ys z W ((h.below hB).more hB.size) hc hcm hn ((h'.below hB).more hB.size) hd hdm hm
  obtain ⟨W0, hW0⟩ : ∃ W0 : World, W0 = (w.alloc (.cells #[.int .i64 f, .slice A n c] 28)).alloc (.cells #[.int .i64 g, .slice B m d] 28) := ⟨_, rfl⟩
  have hB0 : Below w.heap.size w W0 := by rw [hW0]; exact ((Below.refl _ _).alloc (Nat.le_refl _) _).alloc (by simp) _
  have c0 : W0.cell? ⟨w.heap.size, 0, none⟩ = some (.int .i64 f) := by rw [hW0]; simp [go_sem]
  have c1 : W0.cell? ⟨w.heap.size, 1, none⟩ = some (.slice A n c) := by rw [hW0]; simp [go_sem]
  have c2 : W0.cell? ⟨w.heap.size + 1, 0, none⟩ = some (.int .i64 g) := by rw [hW0]; simp [go_sem]
  have c3 : W0.cell? ⟨w.heap.size + 1, 1, none⟩ = some (.slice B m d) := by rw [hW0]; simp [go_sem]
  have x0 := fun x : InC W0 => x.cell c0
  have x1 := fun x : InC W0 => x.cell c1
  have x2 := fun x : InC W0 => x.cell c2
  have x3 := fun x : InC W0 => x.cell c3
  by_cases e : prC f x n xs g y m ys (inR 0 150 z) = 0
  · obtain ⟨hT, hU, hx, hy, hz, e5, e6⟩ := prC_split e
    have hzz := inR_iff.1 hz
    have hf0 := hT.1
    have hg0 := hU.1
    have HQ : Hid (oaV nOne f x n xs g y m ys z = _) := if_pos e
    generalize oaV nOne f x n xs g y m ys z = V0 at HQ ⊢
    have L1 := Lib.hid (fun W (hB : Below w.heap.size w W) => iLives_any f A n c xs x W ((h.below hB).more hB.size) hT.1 hT.2.1.2 ⟨by omega, by omega⟩)
    have L2 := Lib.hid (fun W (hB : Below w.heap.size w W) => iLives_any g B m d ys y W ((h'.below hB).more hB.size) hU.1 hU.2.1.2 ⟨by omega, by omega⟩)
    have L3 := Lib.hid (fun W (hB : Below w.heap.size w W) => iLives_any f A n c xs (x + z) W ((h.below hB).more hB.size) hT.1 hT.2.1.2 ⟨by omega, by omega⟩)
    have L4 := Lib.hid (fun W (hB : Below w.heap.size w W) => iLives_any g B m d ys (y + z) W ((h'.below hB).more hB.size) hU.1 hU.2.1.2 ⟨by omega, by omega⟩)
    have b1 := lv_bd hT (age := x) (by omega)
    have b2 := lv_bd hU (age := y) (by omega)
    have b3 := lv_bd hT (age := x + z) (by omega)
    have b4 := lv_bd hU (age := y + z) (by omega)
    have a1 := lv_anti hT (x := x) (z := z) (by omega) (by omega)
    have a2 := lv_anti hU (x := y) (z := z) (by omega) (by omega)
    rw [e] at HC
    have HC := Lib.hid HC
    clear h h' e hT hU hz
    generalize lv f n xs x = X at *
    generalize lv g m ys y = Y at *
    generalize lv f n xs (x + z) = P at *
    generalize lv g m ys (y + z) = Q at *
    have m1 := mul_bd b1 b2
    have m2 := mul_bd b3 b4
    have m6 := mul_bd b3 b2
    have m7 := mul_bd b4 b1
    have m3 : 0 < X * Y := Int.mul_pos (by omega) (by omega)
    have m4 := mul_bd (a := X - P) (b := Y - Q) (by omega) (by omega)
    have m5 : (X - P) * (Y - Q) ≤ X * Y := Int.mul_le_mul (by omega) (by omega) (by omega) (by omega)
    have hE : P * Y + Q * X - P * Q = X * Y - (X - P) * (Y - Q) := nOne_eq X Y P Q
    have HF := fun W => iFr_any (nOne X Y P Q) (X * Y) W (by unfold nOne; omega) (by omega)
    unfold nOne at HF HQ
    rw [← hE] at HF HQ
    have HF := Lib.hid HF
    have q1 := IntWalk.i64_in (X * Y) (by omega)
    have q2 := IntWalk.i64_in (P * Y) (by omega)
    have q3 := IntWalk.i64_in (Q * X) (by omega)
    have q4 := IntWalk.i64_in (P * Q) (by omega)
    have q5 := IntWalk.i64_in (P * Y + Q * X) (by omega)
    have q6 := IntWalk.i64_in (P * Y + Q * X - P * Q) (by omega)
    have q7 := IntWalk.i64_in (x + z) (by omega)
    have q8 := IntWalk.i64_in (y + z) (by omega)
    clear hE m5 m4
    go_enter Try.func28, Try.ntmps28
    go_upto_region 1 with fail
    rw [← hW0]
    clear hW0
    go_wp2_with (go_at_call 62; (with_reducible refine Calls.mono (HC.out _ hB0) ?_); rintro ee w1 ⟨rfl, hb1⟩; have hB1 := bel_step hB0 hb1)
    have d0 := keepC hb1 c0
    have d1 := keepC hb1 c1
    have d2 := keepC hb1 c2
    have d3 := keepC hb1 c3
    have y0 := fun x : InC w1 => x.cell d0
    have y1 := fun x : InC w1 => x.cell d1
    have y2 := fun x : InC w1 => x.cell d2
    have y3 := fun x : InC w1 => x.cell d3
    clear x0 x1 x2 x3 c0 c1 c2 c3
    (refine wp_region_inC (by kernel_rfl) (by kernel_rfl) ?_; (repeat go_big_quiet_step ((first | (go_at_call 52; with_reducible exact Calls.inC (L3.out _ (bel_step hB1 (InC.h _)))) | (go_at_call 52; with_reducible exact Calls.inC (L1.out _ (bel_step hB1 (InC.h _)))) | (go_at_call 52; with_reducible exact Calls.inC (L4.out _ (bel_step hB1 (InC.h _)))) | (go_at_call 52; with_reducible exact Calls.inC (L2.out _ (bel_step hB1 (InC.h _))))))); refine wpQuiet_nil ?_; rintro w2 ⟨⟨_, hb2⟩, rfl⟩)
    have hB2 := bel_step hB1 hb2
    clear q7 q8 q1 q2 q3 q4 q5 q6
    go_wp2_with (go_at_call 59; (with_reducible refine Calls.mono (HF.out _) ?_); rintro ee w3 ⟨rfl, hb3⟩; have hB3 := bel_step hB2 hb3)
    go_returns
    exact ⟨by rw [HQ.out]; rfl, hB3⟩
  · have HQ : Hid (oaV nOne f x n xs g y m ys z = _) := if_neg e
    clear h h' x0 x1 x2 x3
    generalize prC f x n xs g y m ys (inR 0 150 z) = k at *
    have HC := Lib.hid HC
    go_enter Try.func28, Try.ntmps28
    go_upto_region 1 with fail
    rw [← hW0]
    clear hW0
    go_wp2_with (go_at_call 62; (with_reducible refine Calls.mono (HC.out _ hB0) ?_); rintro ee w1 ⟨rfl, hb1⟩; have hB1 := bel_step hB0 hb1)
    go_returns
    exact ⟨by rw [HQ.out]; rfl, hB1⟩
theorem iBothAlive_any (f x : Int) (A : Option Addr) (n c : Nat) (xs : List Int) (g y : Int) (B : Option Addr) (m d : Nat) (ys : List Int) (z : Int) (w : World) (h : RdI w w.heap.size A n xs) (hc : n ≤ c) (hcm : c ≤ maxLen) (hn : n ≤ 1048576) (h' : RdI w w.heap.size B m ys) (hd : m ≤ d) (hdm : d ≤ maxLen) (hm : m ≤ 1048576) : Calls Try.prog 26 #[.agg #[.int .i64 f, .slice A n c], .int .i64 x, .agg #[.int .i64 g, .slice B m d], .int .i64 y, .int .i64 z] w fun e w' => e = .returned (oaV nBoth f x n xs g y m ys z) ∧ Below w.heap.size w w' := by
  rw [← baV_oaV]
  exact iBoth_any f x A n c xs g y B m d ys z w h hc hcm hn h' hd hdm hm
end Go.Proofs.Ytggfonpjmplmfaa
