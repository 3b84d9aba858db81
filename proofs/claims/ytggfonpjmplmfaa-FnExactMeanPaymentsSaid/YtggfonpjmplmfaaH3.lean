/-
  Contracts: MeanPayments.
-/
import Derived.Test.YtggfonpjmplmfaaR3
set_option linter.unusedSimpArgs false
set_option linter.unusedVariables false
namespace Go.Proofs.Ytggfonpjmplmfaa
open Go.RowKit
theorem gcd_same {R L : Int} (hR : 0 ≤ R) (hL : 0 < L) : Nat.gcd (R + L).toNat L.toNat = Nat.gcd R.toNat L.toNat := by
  rw [show (R + L).toNat = R.toNat + L.toNat from by omega]
  simp
theorem fr_same {R L : Int} (hR : 0 ≤ R) (hL : 0 < L) : fr (R + L) L L = fr R L L := by
  unfold fr
  rw [gcd_same hR hL]
theorem fr_add {R L : Int} (hR : 0 ≤ R) (hL : 0 < L) : fr (R + L) L (R + L) = fr R L R + fr R L L := by
  unfold fr
  rw [gcd_same hR hL, Int.add_ediv_of_dvd_right]
  have h := Nat.gcd_dvd_right R.toNat L.toNat
  have h2 : ((Nat.gcd R.toNat L.toNat : Nat) : Int) ∣ (L.toNat : Int) := Int.natCast_dvd_natCast.2 h
  rwa [Int.toNat_of_nonneg (by omega)] at h2
noncomputable def mnV (f : Int) (n : Nat) (xs : List Int) (age : Int) : Value := if alC f n xs age = 0 then .tuple #[.int .i64 (fr (restS xs (age - f + 1).toNat) (lv f n xs age) (restS xs (age - f + 1).toNat) + fr (restS xs (age - f + 1).toNat) (lv f n xs age) (lv f n xs age)), .int .i64 (fr (restS xs (age - f + 1).toNat) (lv f n xs age) (lv f n xs age)), .int .i64 0] else .tuple #[.int .i64 0, .int .i64 0, .int .i64 (alC f n xs age)]
theorem mnV_shape (f : Int) (n : Nat) (xs : List Int) (age : Int) : ∃ a b k, mnV f n xs age = .tuple #[.int .i64 a, .int .i64 b, .int .i64 k] := by
  unfold mnV
  split
  · exact ⟨_, _, _, rfl⟩
  · exact ⟨_, _, _, rfl⟩
set_option maxHeartbeats 2000000 in
theorem iMean_any (f : Int) (A : Option Addr) (n c : Nat) (xs : List Int) (age : Int) (w : World) (h : RdI w w.heap.size A n xs) (hc : n ≤ c) (hcm : c ≤ maxLen) (hn : n ≤ 1048576) : Calls Try.prog 36 #[.agg #[.int .i64 f, .slice A n c], .int .i64 age] w fun e w' => e = .returned (mnV f n xs age) ∧ Below w.heap.size w w' := by
  have HC := fun W (hB : Below w.heap.size w W) => alive_any f A n c xs age W ((h.below hB).more hB.size) hc hcm hn
  by_cases e : alC f n xs age = 0
  · obtain ⟨e1, e3⟩ := alC_split e
    obtain ⟨hT, ha⟩ := ageC_split e1
    have hf0 := hT.1
    have hn0 := hT.2.1.2
    have hlt : age < f + n := by
      by_cases hx : age < f + n
      · exact hx
      · exact absurd (lv_out hx).out e3
    have hl := h.len
    have b1 := lv_bd hT ha.1
    have hbd := rest_bd (xs := xs) (by rw [hl]; exact okT_mono hT) (by omega)
    have hkk : (age - f + 1).toNat = (age - f).toNat + 1 := by omega
    have hst := rest_step (xs := xs) (m := (age - f).toNat) (by omega)
    have hlv := (lv_in (xs := xs) hlt).out
    have HQ : Hid (mnV f n xs age = .tuple #[.int .i64 (fr (restS xs (age - f).toNat) (lv f n xs age) (restS xs (age - f).toNat)), .int .i64 (fr (restS xs (age - f).toNat) (lv f n xs age) (lv f n xs age)), .int .i64 0]) := by
      show _ = _
      have hp := (hbd ((age - f).toNat + 1)).1
      unfold mnV
      rw [if_pos e, hkk, hst, ← hlv, Int.add_comm (lv f n xs age), fr_add hp (by omega), fr_same hp (by omega)]
    clear hkk hst hlv
    have HL := Lib.hid (fun W (hB : Below w.heap.size w W) => iLives_any f A n c xs age W ((h.below hB).more hB.size) hT.1 hT.2.1.2 ⟨by omega, by omega⟩)
    have hk : age - f = (((age - f).toNat : Nat) : Int) := by omega
    have hkn : (age - f).toNat ≤ n := by omega
    have hn2 := hT.2.1.1
    obtain ⟨ad, rfl, _, _⟩ := RdI.atG h (k := 0) (by omega)
    generalize (age - f).toNat = k at *
    have HT := (fun W cc (hB : Below w.heap.size w W) => total_any _ (n - k) cc (xs.drop k) W (((h.below hB).more hB.size).cut (k := k) (cap := c) hkn hc) (by omega) (by intro m; unfold restS; rw [List.drop_drop]; exact hbd (k + m)))
    have hbk := hbd k
    have hr0 : restS (xs.drop k) 0 = restS xs k := rfl
    rw [hr0] at HT
    rw [e] at HC
    have HC := Lib.hid HC
    clear h e e1 hT hbd hr0
    generalize lv f n xs age = L at *
    generalize restS xs k = R at *
    have HX := Lib.hid (fun W => iFr_any R L W (by omega) (by omega))
    go_enter Try.func36, Try.ntmps36
    go_wp2_with (go_at_call 55; (with_reducible refine (HC.out _ (by go_grown)).mono ?_); rintro ee w1 ⟨rfl, hb1⟩; obtain ⟨hc1, hf1⟩ := bcell hb1; have hB1 := bel_step (w := w) (by go_grown) hb1; have hz1 := hb1.size; (try simp at hz1); have hy1 : w.heap.size < w1.heap.size := by omega)
    have c0 : w1.cell? ⟨w.heap.size, 0, none⟩ = some (.int .i64 f) := by rw [hc1 _ _ (by simp)]; simp [go_sem]
    have c1 : w1.cell? ⟨w.heap.size, 1, none⟩ = some (.slice (some ad) n c) := by rw [hc1 _ _ (by simp)]; simp [go_sem]
    clear hc1 hf1
    rw [Option.map_some, Nat.mul_one] at HT
    have q2 : IntKind.i64.wrap (age - f) = (k : Int) := (IntWalk.i64_in (age - f) (by omega)).trans hk
    have p1 : (0 : Int) ≤ (k : Int) := by omega
    have p2 : (k : Int) ≤ (n : Int) := by omega
    have p3 : (n : Int) ≤ (c : Int) := by omega
    have p4 : (k : Int) ≤ (c : Int) := by omega
    unfold maxLen at hcm
    clear hk hl
    by_cases hck : c = k
    · rw [if_pos hck] at HT
      have e1 : k = n := by omega
      subst e1
      subst hck
      rw [Nat.sub_self] at HT
      have HT := Lib.hid HT
      go_region_held3 (fun W' => Below w1.heap.size w1 W' ∧ ∀ b o, b < w1.heap.size → W'.cell? ⟨b, o, none⟩ = w1.cell? ⟨b, o, none⟩) (first | exact bS (Below.refl _ _).drew | exact bS hb5 | exact bS hb3) (first | (go_at_call 52; (with_reducible refine Calls.mono (HL.out _ ?_) ?_); (exact hB1.drew); rintro ee w3 ⟨rfl, hb3⟩; have hb3 := bel_step (w := w1) (Below.refl _ _).drew hb3; have hB3 := bel_step hB1 hb3) | (go_at_call 64; (with_reducible refine Calls.mono (HT.out _ _ ?_) ?_); (first | exact hB1.drew | exact hB3); rintro ee w4 ⟨rfl, rfl⟩) | (go_at_call 59; (with_reducible refine Calls.mono (HX.out _) ?_); rintro ee w5 ⟨rfl, hb5⟩; have hb5 := bel_step (w := w1) hb3 hb5; have hB5 := bel_step hB1 hb5))
      go_wp2
      go_returns
      exact ⟨by rw [HQ.out]; rfl, hB5⟩
    · rw [if_neg hck] at HT
      have HT := Lib.hid HT
      go_region_held3 (fun W' => Below w1.heap.size w1 W' ∧ ∀ b o, b < w1.heap.size → W'.cell? ⟨b, o, none⟩ = w1.cell? ⟨b, o, none⟩) (first | exact bS (Below.refl _ _).drew | exact bS hb5 | exact bS hb3) (first | (go_at_call 52; (with_reducible refine Calls.mono (HL.out _ ?_) ?_); (exact hB1.drew); rintro ee w3 ⟨rfl, hb3⟩; have hb3 := bel_step (w := w1) (Below.refl _ _).drew hb3; have hB3 := bel_step hB1 hb3) | (go_at_call 64; (with_reducible refine Calls.mono (HT.out _ _ ?_) ?_); (first | exact hB1.drew | exact hB3); rintro ee w4 ⟨rfl, rfl⟩) | (go_at_call 59; (with_reducible refine Calls.mono (HX.out _) ?_); rintro ee w5 ⟨rfl, hb5⟩; have hb5 := bel_step (w := w1) hb3 hb5; have hB5 := bel_step hB1 hb5))
      go_wp2
      go_returns
      exact ⟨by rw [HQ.out]; rfl, hB5⟩
  · have HQ : Hid (mnV f n xs age = .tuple #[.int .i64 0, .int .i64 0, .int .i64 (alC f n xs age)]) := if_neg e
    clear h
    generalize alC f n xs age = k at *
    have HC := Lib.hid HC
    go_enter Try.func36, Try.ntmps36
    go_wp2_with (go_at_call 55; (with_reducible refine (HC.out _ (by go_grown)).mono ?_); rintro ee w1 ⟨rfl, hb1⟩; obtain ⟨hc1, hf1⟩ := bcell hb1; have hB1 := bel_step (w := w) (by go_grown) hb1; have hz1 := hb1.size; (try simp at hz1); have hy1 : w.heap.size < w1.heap.size := by omega)
    (go_returns; exact ⟨by rw [HQ.out]; rfl, by go_grown⟩)
theorem fr_bd {a b x : Int} (hb : 0 < b) (hx : 0 ≤ x ∧ x ≤ 1000000000) : 0 ≤ fr a b x ∧ fr a b x ≤ 1000000000 := by
  have h := gcd_bd (a := a.toNat) (b := b.toNat) (by omega)
  unfold fr
  exact ⟨Int.ediv_nonneg hx.1 (by omega), Int.le_trans (Int.ediv_le_self _ hx.1) hx.2⟩
set_option maxHeartbeats 1000000 in
theorem sMean_any (f : Int) (A : Option Addr) (n c : Nat) (xs : List Int) (age : Int) (w : World) (h : RdI w w.heap.size A n xs) (hc : n ≤ c) (hcm : c ≤ maxLen) (hn : n ≤ 1048576) : Calls Try.prog 35 #[.agg #[.int .i64 f, .slice A n c], .int .i64 age] w fun e w' => e = .returned (mnV f n xs age) ∧ Below w.heap.size w w' := by
  have HC := fun W (hB : Below w.heap.size w W) => sExp_any f A n c xs age W ((h.below hB).more hB.size) hc hcm hn
  by_cases e : alC f n xs age = 0
  · obtain ⟨e1, e3⟩ := alC_split e
    obtain ⟨hT, ha⟩ := ageC_split e1
    have hl := h.len
    have b1 := lv_bd hT ha.1
    have hbd := rest_bd (xs := xs) (by rw [hl]; exact okT_mono hT) (by have := hT.2.1.2; omega) (age - f + 1).toNat
    have HQ : Hid (mnV f n xs age = _) := if_pos e
    rw [show exV f n xs age = _ from if_pos e] at HC
    have f1 := fr_bd (a := restS xs (age - f + 1).toNat) (b := lv f n xs age) (x := restS xs (age - f + 1).toNat) (by omega) (by omega)
    have f2 := fr_bd (a := restS xs (age - f + 1).toNat) (b := lv f n xs age) (x := lv f n xs age) (by omega) (by omega)
    generalize fr (restS xs (age - f + 1).toNat) (lv f n xs age) (restS xs (age - f + 1).toNat) = X at *
    generalize fr (restS xs (age - f + 1).toNat) (lv f n xs age) (lv f n xs age) = Y at *
    have HC := Lib.hid HC
    clear h e e1 hT hbd
    go_enter Try.func35, Try.ntmps35
    go_wp2_with (go_at_call 29; (with_reducible refine (HC.out _ (by go_grown)).mono ?_); rintro ee w1 ⟨rfl, hb1⟩; obtain ⟨hc1, hf1⟩ := bcell hb1; have hB1 := bel_step (w := w) (by go_grown) hb1; have hz1 := hb1.size; (try simp at hz1); have hy1 : w.heap.size < w1.heap.size := by omega)
    go_returns
    exact ⟨by rw [HQ.out]; rfl, by go_grown⟩
  · have HQ : Hid (mnV f n xs age = .tuple #[.int .i64 0, .int .i64 0, .int .i64 (alC f n xs age)]) := if_neg e
    rw [show exV f n xs age = _ from if_neg e] at HC
    clear h
    generalize alC f n xs age = k at *
    have HC := Lib.hid HC
    go_enter Try.func35, Try.ntmps35
    go_wp2_with (go_at_call 29; (with_reducible refine (HC.out _ (by go_grown)).mono ?_); rintro ee w1 ⟨rfl, hb1⟩; obtain ⟨hc1, hf1⟩ := bcell hb1; have hB1 := bel_step (w := w) (by go_grown) hb1; have hz1 := hb1.size; (try simp at hz1); have hy1 : w.heap.size < w1.heap.size := by omega)
    (go_returns; exact ⟨by rw [HQ.out]; rfl, by go_grown⟩)
end Go.Proofs.Ytggfonpjmplmfaa
