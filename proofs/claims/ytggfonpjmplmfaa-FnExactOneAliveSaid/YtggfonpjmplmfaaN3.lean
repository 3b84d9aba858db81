/-
  Contracts: MiddleAge.
-/
import Derived.Test.YtggfonpjmplmfaaV3
set_option linter.unusedSimpArgs false
set_option linter.unusedVariables false
namespace Go.Proofs.Ytggfonpjmplmfaa
open Go.RowKit
noncomputable def alC (f : Int) (n : Nat) (xs : List Int) (age : Int) : Int := if ageC f n xs age = 0 then (if lv f n xs age = 0 then 5 else 0) else ageC f n xs age
theorem alC_k {f : Int} {n : Nat} {xs : List Int} {age : Int} (h : ageC f n xs age ≠ 0) : Hid (alC f n xs age = ageC f n xs age) := if_neg h
theorem alC_5 {f : Int} {n : Nat} {xs : List Int} {age : Int} (h : ageC f n xs age = 0) (h2 : lv f n xs age = 0) : Hid (alC f n xs age = 5) := by show _ = _; unfold alC; rw [if_pos h, if_pos h2]
theorem alC_0 {f : Int} {n : Nat} {xs : List Int} {age : Int} (h : ageC f n xs age = 0) (h2 : lv f n xs age ≠ 0) : Hid (alC f n xs age = 0) := by show _ = _; unfold alC; rw [if_pos h, if_neg h2]
theorem alC_split {f : Int} {n : Nat} {xs : List Int} {age : Int} (h : alC f n xs age = 0) : ageC f n xs age = 0 ∧ lv f n xs age ≠ 0 := by
  unfold alC at h
  split at h
  · next h1 =>
    split at h
    · exact absurd h (by decide)
    · next h2 => exact ⟨h1, h2⟩
  · next h1 => exact absurd h h1
/-- the first age at which at most half live -/
def midN (f : Int) (n : Nat) (xs : List Int) (L : Int) : Nat → Int → Int
  | 0, x => x
  | k + 1, x => if L < 2 * lv f n xs x then midN f n xs L k (x + 1) else x
noncomputable def midV (f : Int) (n : Nat) (xs : List Int) (age : Int) : Value := if alC f n xs age = 0 then .tuple #[.int .i64 (midN f n xs (lv f n xs age) (f + n - age).toNat age), .int .i64 0] else .tuple #[.int .i64 0, .int .i64 (alC f n xs age)]
theorem mid_go {f : Int} {n : Nat} {xs : List Int} {L x : Int} (hL : 0 < L) (h : L < 2 * lv f n xs x) : x < f + n ∧ Hid (midN f n xs L (f + n - x).toNat x = midN f n xs L (f + n - (x + 1)).toNat (x + 1)) := by
  have hx : x < f + n := by
    by_cases hx : x < f + n
    · exact hx
    · rw [(lv_out hx).out] at h; omega
  refine ⟨hx, ?_⟩
  obtain ⟨k, hk⟩ : ∃ k, (f + n - x).toNat = k + 1 := ⟨(f + n - x).toNat - 1, by omega⟩
  have hk2 : (f + n - (x + 1)).toNat = k := by omega
  show _ = _
  rw [hk, hk2, midN, if_pos h]
theorem mid_end {f : Int} {n : Nat} {xs : List Int} {L x : Int} (h : ¬ L < 2 * lv f n xs x) : Hid (midN f n xs L (f + n - x).toNat x = x) := by
  show _ = _
  cases (f + n - x).toNat with
  | zero => rfl
  | succ k => rw [midN, if_neg h]
set_option maxHeartbeats 1000000 in
theorem alive_any (f : Int) (A : Option Addr) (n c : Nat) (xs : List Int) (age : Int) (w : World) (h : RdI w w.heap.size A n xs) (hc : n ≤ c) (hcm : c ≤ maxLen) (hn : n ≤ 1048576) : Calls Try.prog 55 #[.agg #[.int .i64 f, .slice A n c], .int .i64 age] w fun e w' => e = .returned (.int .i64 (alC f n xs age)) ∧ Below w.heap.size w w' := by
  have HC := fun W (hB : Below w.heap.size w W) => iIsT_any_age f A n c xs age W ((h.below hB).more hB.size) hc hcm hn
  by_cases e : ageC f n xs age = 0
  · obtain ⟨hT, ha⟩ := ageC_split e
    have HL := fun W (hB : Below w.heap.size w W) => iLives_any f A n c xs age W ((h.below hB).more hB.size) hT.1 hT.2.1.2 ⟨ha.1, by omega⟩
    rw [e] at HC
    have HC := Lib.hid HC
    by_cases e3 : lv f n xs age = 0
    · have HQ := alC_5 e e3
      rw [e3] at HL
      have HL := Lib.hid HL
      clear h e e3 hT
      go_enter Try.func55, Try.ntmps55
      go_wp2_with (first | (go_at_call 51; (with_reducible refine (HC.out _ (by go_grown)).mono ?_); rintro ee w1 ⟨rfl, hb1⟩; obtain ⟨hc1, hf1⟩ := bcell hb1; have hB1 := bel_step (w := w) (by go_grown) hb1; have hz1 := hb1.size; (try simp at hz1); have hy1 : w.heap.size < w1.heap.size := by omega) | (go_at_call 52; (with_reducible refine (HL.out _ (by go_grown)).mono ?_); rintro ee w2 ⟨rfl, hb2⟩; obtain ⟨hc2, hf2⟩ := bcell hb2; have hB2 := bel_step (w := w) (by go_grown) hb2; have hz2 := hb2.size; (try simp at hz2); have hy2 : w.heap.size < w2.heap.size := by omega))
      (go_returns; exact ⟨by rw [HQ.out]; rfl, by go_grown⟩)
    · have HQ := alC_0 e e3
      generalize lv f n xs age = L at *
      have HL := Lib.hid HL
      clear h e hT
      go_enter Try.func55, Try.ntmps55
      go_wp2_with (first | (go_at_call 51; (with_reducible refine (HC.out _ (by go_grown)).mono ?_); rintro ee w1 ⟨rfl, hb1⟩; obtain ⟨hc1, hf1⟩ := bcell hb1; have hB1 := bel_step (w := w) (by go_grown) hb1; have hz1 := hb1.size; (try simp at hz1); have hy1 : w.heap.size < w1.heap.size := by omega) | (go_at_call 52; (with_reducible refine (HL.out _ (by go_grown)).mono ?_); rintro ee w2 ⟨rfl, hb2⟩; obtain ⟨hc2, hf2⟩ := bcell hb2; have hB2 := bel_step (w := w) (by go_grown) hb2; have hz2 := hb2.size; (try simp at hz2); have hy2 : w.heap.size < w2.heap.size := by omega))
      (go_returns; exact ⟨by rw [HQ.out]; rfl, by go_grown⟩)
  · have HQ := alC_k e
    clear h
    generalize ageC f n xs age = k at *
    have HC := Lib.hid HC
    go_enter Try.func55, Try.ntmps55
    go_wp2_with (go_at_call 51; (with_reducible refine (HC.out _ (by go_grown)).mono ?_); rintro ee w1 ⟨rfl, hb1⟩; obtain ⟨hc1, hf1⟩ := bcell hb1; have hB1 := bel_step (w := w) (by go_grown) hb1; have hz1 := hb1.size; (try simp at hz1); have hy1 : w.heap.size < w1.heap.size := by omega)
    (go_returns; exact ⟨by rw [HQ.out]; rfl, by go_grown⟩)
set_option maxHeartbeats 2000000 in
theorem iMid_any (f : Int) (A : Option Addr) (n c : Nat) (xs : List Int) (age : Int) (w : World) (h : RdI w w.heap.size A n xs) (hc : n ≤ c) (hcm : c ≤ maxLen) (hn : n ≤ 1048576) : Calls Try.prog 22 #[.agg #[.int .i64 f, .slice A n c], .int .i64 age] w fun e w' => e = .returned (midV f n xs age) ∧ Below w.heap.size w w' := by
  have HC := fun W (hB : Below w.heap.size w W) => alive_any f A n c xs age W ((h.below hB).more hB.size) hc hcm hn
  by_cases e : alC f n xs age = 0
  · obtain ⟨e1, e3⟩ := alC_split e
    obtain ⟨hT, ha⟩ := ageC_split e1
    have hf0 := hT.1
    have hn0 := hT.2.1.2
    have HQ : Hid (midV f n xs age = .tuple #[.int .i64 (midN f n xs (lv f n xs age) (f + n - age).toNat age), .int .i64 0]) := if_pos e
    have HL := Lib.hid (fun W x (hx : age ≤ x ∧ x ≤ 1000) (hB : Below w.heap.size w W) => iLives_any f A n c xs x W ((h.below hB).more hB.size) hT.1 hT.2.1.2 ⟨by omega, by omega⟩)
    have HV := Lib.hid (fun x (hx : age ≤ x) => lv_bd hT (age := x) (by omega))
    rw [e] at HC
    have HC := Lib.hid HC
    have b1 := lv_bd hT ha.1
    have HLa := HL.out
    clear h e e1 hT HLa
    generalize hL : lv f n xs age = L at *
    go_enter Try.func22, Try.ntmps22
    go_wp2_with (go_at_call 55; (with_reducible refine (HC.out _ (by go_grown)).mono ?_); rintro ee w1 ⟨rfl, hb1⟩; obtain ⟨hc1, hf1⟩ := bcell hb1; have hB1 := bel_step (w := w) (by go_grown) hb1; have hz1 := hb1.size; (try simp at hz1); have hy1 : w.heap.size < w1.heap.size := by omega)
    have c0 : w1.cell? ⟨w.heap.size, 0, none⟩ = some (.int .i64 f) := by rw [hc1 _ _ (by simp)]; simp [go_sem]
    have c1 : w1.cell? ⟨w.heap.size, 1, none⟩ = some (.slice A n c) := by rw [hc1 _ _ (by simp)]; simp [go_sem]
    clear hc1 hf1
    go_loopw [7] (fun s wr => ∃ x : Int, age ≤ x ∧ x ≤ 400 ∧ s = .int .i64 x ∧ Hid (midN f n xs L (f + n - age).toNat age = midN f n xs L (f + n - x).toNat x) ∧ Below w1.heap.size w1 wr) (fun s _ => (1000 - intOf s).toNat)
    case atStart => exact ⟨age, by omega, by omega, rfl, rfl, Below.refl _ _⟩
    case round =>
      obtain ⟨x, hx1, hx2, rfl, HM, hRw⟩ := hrel
      have hR := bel_step hB1 hRw
      have d0 := (hRw.cell (p := ⟨w.heap.size, 0, none⟩) hy1).trans c0
      have d1 := (hRw.cell (p := ⟨w.heap.size, 1, none⟩) hy1).trans c1
      have hyr : w.heap.size < wr.heap.size := Nat.lt_of_lt_of_le hy1 hRw.size
      have bx := HV.out x hx1
      have H1 := Lib.hid (fun W hB => HL.out W x ⟨hx1, by omega⟩ hB)
      have H2 := fun W hB => HL.out W age ⟨by omega, by omega⟩ hB
      rw [hL] at H2
      have H2 := Lib.hid H2
      by_cases hcond : L < 2 * lv f n xs x
      · obtain ⟨hxn, HS⟩ := mid_go (by omega) hcond
        have HS := HM.out.trans HS.out
        generalize lv f n xs x = X at *
        have hw := IntWalk.i64_in (2 * X) (by omega)
        have HS := Lib.hid HS
        go_wp2_with fail
        go_region_held3 (fun W' => Below wr.heap.size wr W' ∧ ∀ b o, b < wr.heap.size → W'.cell? ⟨b, o, none⟩ = wr.cell? ⟨b, o, none⟩) (first | exact bS (Below.refl _ _).drew | exact bS hb3 | exact bS hb4) (first | (go_at_call 52; (with_reducible refine Calls.mono (H1.out _ ?_) ?_); (first | exact hR.drew | exact hB3 | exact hB4); rintro ee w3 ⟨rfl, hb3⟩; have hb3 := bel_step (w := wr) (by first | exact (Below.refl _ _).drew | exact hb3 | exact hb4) hb3; have hB3 := bel_step hR hb3) | (go_at_call 52; (with_reducible refine Calls.mono (H2.out _ ?_) ?_); (first | exact hR.drew | exact hB3 | exact hB4); rintro ee w4 ⟨rfl, hb4⟩; have hb4 := bel_step (w := wr) (by first | exact (Below.refl _ _).drew | exact hb3 | exact hb4) hb4; have hB4 := bel_step hR hb4))
        go_wp2
        go_roundw
        case rel => exact ⟨x + 1, by omega, by omega, rfl, HS.out, bel_step hRw (by first | exact hb3 | exact hb4)⟩
        case measure => simp [intOf]; omega
      · have HE := mid_end hcond
        have HE := HM.out.trans HE.out
        generalize lv f n xs x = X at *
        have hw := IntWalk.i64_in (2 * X) (by omega)
        have HE := Lib.hid HE
        go_wp2_with fail
        go_region_held3 (fun W' => Below wr.heap.size wr W' ∧ ∀ b o, b < wr.heap.size → W'.cell? ⟨b, o, none⟩ = wr.cell? ⟨b, o, none⟩) (first | exact bS (Below.refl _ _).drew | exact bS hb3 | exact bS hb4) (first | (go_at_call 52; (with_reducible refine Calls.mono (H1.out _ ?_) ?_); (first | exact hR.drew | exact hB3 | exact hB4); rintro ee w3 ⟨rfl, hb3⟩; have hb3 := bel_step (w := wr) (by first | exact (Below.refl _ _).drew | exact hb3 | exact hb4) hb3; have hB3 := bel_step hR hb3) | (go_at_call 52; (with_reducible refine Calls.mono (H2.out _ ?_) ?_); (first | exact hR.drew | exact hB3 | exact hB4); rintro ee w4 ⟨rfl, hb4⟩; have hb4 := bel_step (w := wr) (by first | exact (Below.refl _ _).drew | exact hb3 | exact hb4) hb4; have hB4 := bel_step hR hb4))
        go_wp2
        go_returns
        exact ⟨by rw [HQ.out, HE.out]; rfl, by first | exact hB3 | exact hB4⟩
  · have HQ : Hid (midV f n xs age = .tuple #[.int .i64 0, .int .i64 (alC f n xs age)]) := if_neg e
    clear h
    generalize alC f n xs age = k at *
    have HC := Lib.hid HC
    go_enter Try.func22, Try.ntmps22
    go_wp2_with (go_at_call 55; (with_reducible refine (HC.out _ (by go_grown)).mono ?_); rintro ee w1 ⟨rfl, hb1⟩; obtain ⟨hc1, hf1⟩ := bcell hb1; have hB1 := bel_step (w := w) (by go_grown) hb1; have hz1 := hb1.size; (try simp at hz1); have hy1 : w.heap.size < w1.heap.size := by omega)
    (go_returns; exact ⟨by rw [HQ.out]; rfl, by go_grown⟩)
set_option maxHeartbeats 2000000 in
theorem sMid_any (f : Int) (A : Option Addr) (n c : Nat) (xs : List Int) (age : Int) (w : World) (h : RdI w w.heap.size A n xs) (hc : n ≤ c) (hcm : c ≤ maxLen) (hn : n ≤ 1048576) : Calls Try.prog 21 #[.agg #[.int .i64 f, .slice A n c], .int .i64 age] w fun e w' => e = .returned (midV f n xs age) ∧ Below w.heap.size w w' := by
  have HC := fun W (hB : Below w.heap.size w W) => sIsT_any_age f A n c xs age W ((h.below hB).more hB.size) hc hcm hn
  by_cases e : alC f n xs age = 0
  · obtain ⟨e1, e3⟩ := alC_split e
    obtain ⟨hT, ha⟩ := ageC_split e1
    have hf0 := hT.1
    have hn0 := hT.2.1.2
    have HQ : Hid (midV f n xs age = .tuple #[.int .i64 (midN f n xs (lv f n xs age) (f + n - age).toNat age), .int .i64 0]) := if_pos e
    have HL := Lib.hid (fun W x (hx : age ≤ x ∧ x ≤ 1000) (hB : Below w.heap.size w W) => sLives_any f A n c xs x W ((h.below hB).more hB.size) hT.1 hT.2.1.2 ⟨by omega, by omega⟩)
    have HV := Lib.hid (fun x (hx : age ≤ x) => lv_bd hT (age := x) (by omega))
    rw [e1] at HC
    have HC := Lib.hid HC
    have b1 := lv_bd hT ha.1
    have HLa := fun W hB => HL.out W age ⟨by omega, by omega⟩ hB
    clear h e e1 hT
    generalize hL : lv f n xs age = L at *
    have HLa := Lib.hid HLa
    go_enter Try.func21, Try.ntmps21
    go_wp2_with (first | (go_at_call 48; (with_reducible refine (HC.out _ (by go_grown)).mono ?_); rintro ee w1 ⟨rfl, hb1⟩; obtain ⟨hc1, hf1⟩ := bcell hb1; have hB1 := bel_step (w := w) (by go_grown) hb1; have hz1 := hb1.size; (try simp at hz1); have hy1 : w.heap.size < w1.heap.size := by omega) | (go_at_call 49; (with_reducible refine (HLa.out _ (by go_grown)).mono ?_); rintro ee w2 ⟨rfl, hb2⟩; obtain ⟨hc2, hf2⟩ := bcell hb2; have hB2 := bel_step (w := w) (by go_grown) hb2; have hz2 := hb2.size; (try simp at hz2); have hy2 : w.heap.size < w2.heap.size := by omega))
    have c0 : w2.cell? ⟨w.heap.size, 0, none⟩ = some (.int .i64 f) := by rw [hc2 _ _ hy1, hc1 _ _ (by simp)]; simp [go_sem]
    have c1 : w2.cell? ⟨w.heap.size, 1, none⟩ = some (.slice A n c) := by rw [hc2 _ _ hy1, hc1 _ _ (by simp)]; simp [go_sem]
    clear hc1 hf1 hc2 hf2
    have hL0 : (L == (0 : Int)) = false := by simpa using e3
    simp only [hL0]
    go_loopw [7] (fun s wr => ∃ x : Int, age ≤ x ∧ x ≤ 400 ∧ s = .int .i64 x ∧ Hid (midN f n xs L (f + n - age).toNat age = midN f n xs L (f + n - x).toNat x) ∧ Below w2.heap.size w2 wr) (fun s _ => (1000 - intOf s).toNat)
    case atStart => exact ⟨age, by omega, by omega, rfl, rfl, Below.refl _ _⟩
    case round =>
      obtain ⟨x, hx1, hx2, rfl, HM, hRw⟩ := hrel
      have hR := bel_step hB2 hRw
      have d0 := (hRw.cell (p := ⟨w.heap.size, 0, none⟩) hy2).trans c0
      have d1 := (hRw.cell (p := ⟨w.heap.size, 1, none⟩) hy2).trans c1
      have hyr : w.heap.size < wr.heap.size := Nat.lt_of_lt_of_le hy2 hRw.size
      have bx := HV.out x hx1
      have H1 := Lib.hid (fun W hB => HL.out W x ⟨hx1, by omega⟩ hB)
      have H2 := fun W hB => HL.out W age ⟨by omega, by omega⟩ hB
      rw [hL] at H2
      have H2 := Lib.hid H2
      by_cases hcond : L < 2 * lv f n xs x
      · obtain ⟨hxn, HS⟩ := mid_go (by omega) hcond
        have HS := HM.out.trans HS.out
        generalize lv f n xs x = X at *
        have hw := IntWalk.i64_in (2 * X) (by omega)
        have HS := Lib.hid HS
        go_wp2_with fail
        go_region_held3 (fun W' => Below wr.heap.size wr W' ∧ ∀ b o, b < wr.heap.size → W'.cell? ⟨b, o, none⟩ = wr.cell? ⟨b, o, none⟩) (first | exact bS (Below.refl _ _).drew | exact bS hb3 | exact bS hb4) (first | (go_at_call 49; (with_reducible refine Calls.mono (H1.out _ ?_) ?_); (first | exact hR.drew | exact hB3 | exact hB4); rintro ee w3 ⟨rfl, hb3⟩; have hb3 := bel_step (w := wr) (by first | exact (Below.refl _ _).drew | exact hb3 | exact hb4) hb3; have hB3 := bel_step hR hb3) | (go_at_call 49; (with_reducible refine Calls.mono (H2.out _ ?_) ?_); (first | exact hR.drew | exact hB3 | exact hB4); rintro ee w4 ⟨rfl, hb4⟩; have hb4 := bel_step (w := wr) (by first | exact (Below.refl _ _).drew | exact hb3 | exact hb4) hb4; have hB4 := bel_step hR hb4))
        go_wp2
        go_roundw
        case rel => exact ⟨x + 1, by omega, by omega, rfl, HS.out, bel_step hRw (by first | exact hb3 | exact hb4)⟩
        case measure => simp [intOf]; omega
      · have HE := mid_end hcond
        have HE := HM.out.trans HE.out
        generalize lv f n xs x = X at *
        have hw := IntWalk.i64_in (2 * X) (by omega)
        have HE := Lib.hid HE
        go_wp2_with fail
        go_region_held3 (fun W' => Below wr.heap.size wr W' ∧ ∀ b o, b < wr.heap.size → W'.cell? ⟨b, o, none⟩ = wr.cell? ⟨b, o, none⟩) (first | exact bS (Below.refl _ _).drew | exact bS hb3 | exact bS hb4) (first | (go_at_call 49; (with_reducible refine Calls.mono (H1.out _ ?_) ?_); (first | exact hR.drew | exact hB3 | exact hB4); rintro ee w3 ⟨rfl, hb3⟩; have hb3 := bel_step (w := wr) (by first | exact (Below.refl _ _).drew | exact hb3 | exact hb4) hb3; have hB3 := bel_step hR hb3) | (go_at_call 49; (with_reducible refine Calls.mono (H2.out _ ?_) ?_); (first | exact hR.drew | exact hB3 | exact hB4); rintro ee w4 ⟨rfl, hb4⟩; have hb4 := bel_step (w := wr) (by first | exact (Below.refl _ _).drew | exact hb3 | exact hb4) hb4; have hB4 := bel_step hR hb4))
        go_wp2
        go_returns
        exact ⟨by rw [HQ.out, HE.out]; rfl, by first | exact hB3 | exact hB4⟩
  · by_cases e1 : ageC f n xs age = 0
    · obtain ⟨hT, ha⟩ := ageC_split e1
      have e3 : lv f n xs age = 0 := by
        by_cases h3 : lv f n xs age = 0
        · exact h3
        · exact absurd (alC_0 e1 h3).out e
      have HL := fun W (hB : Below w.heap.size w W) => sLives_any f A n c xs age W ((h.below hB).more hB.size) hT.1 hT.2.1.2 ⟨ha.1, by omega⟩
      have HQ : Hid (midV f n xs age = .tuple #[.int .i64 0, .int .i64 5]) := by
        show _ = _
        unfold midV
        rw [if_neg e, (alC_5 e1 e3).out]
      rw [e3] at HL
      have HL := Lib.hid HL
      rw [e1] at HC
      have HC := Lib.hid HC
      clear h e e1 e3 hT
      go_enter Try.func21, Try.ntmps21
      go_wp2_with (first | (go_at_call 48; (with_reducible refine (HC.out _ (by go_grown)).mono ?_); rintro ee w1 ⟨rfl, hb1⟩; obtain ⟨hc1, hf1⟩ := bcell hb1; have hB1 := bel_step (w := w) (by go_grown) hb1; have hz1 := hb1.size; (try simp at hz1); have hy1 : w.heap.size < w1.heap.size := by omega) | (go_at_call 49; (with_reducible refine (HL.out _ (by go_grown)).mono ?_); rintro ee w2 ⟨rfl, hb2⟩; obtain ⟨hc2, hf2⟩ := bcell hb2; have hB2 := bel_step (w := w) (by go_grown) hb2; have hz2 := hb2.size; (try simp at hz2); have hy2 : w.heap.size < w2.heap.size := by omega))
      (go_returns; exact ⟨by rw [HQ.out]; rfl, by go_grown⟩)
    · have HQ : Hid (midV f n xs age = .tuple #[.int .i64 0, .int .i64 (ageC f n xs age)]) := by
        show _ = _
        unfold midV
        rw [if_neg e, (alC_k e1).out]
      clear h
      generalize ageC f n xs age = k at *
      have HC := Lib.hid HC
      go_enter Try.func21, Try.ntmps21
      go_wp2_with (go_at_call 48; (with_reducible refine (HC.out _ (by go_grown)).mono ?_); rintro ee w1 ⟨rfl, hb1⟩; obtain ⟨hc1, hf1⟩ := bcell hb1; have hB1 := bel_step (w := w) (by go_grown) hb1; have hz1 := hb1.size; (try simp at hz1); have hy1 : w.heap.size < w1.heap.size := by omega)
      (go_returns; exact ⟨by rw [HQ.out]; rfl, by go_grown⟩)
theorem midV_shape (f : Int) (n : Nat) (xs : List Int) (age : Int) : ∃ a k, midV f n xs age = .tuple #[.int .i64 a, .int .i64 k] := by
  unfold midV
  split
  · exact ⟨_, _, rfl⟩
  · exact ⟨_, _, rfl⟩
end Go.Proofs.Ytggfonpjmplmfaa
