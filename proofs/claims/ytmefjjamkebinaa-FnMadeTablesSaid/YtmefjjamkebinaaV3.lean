/-
  Contracts of the functions of chapter 3, third part: LivesAt, DeathsAt.
-/
import Derived.Test.YtmefjjamkebinaaU3
import Derived.Deep.RegionHeld3
set_option linter.unusedSimpArgs false
set_option linter.unusedVariables false
namespace Go.Proofs.Ytmefjjamkebinaa
open Go.RowKit
theorem ageC_split {f : Int} {n : Nat} {xs : List Int} {age : Int} (h : ageC f n xs age = 0) : okTP f n xs ∧ f ≤ age ∧ age ≤ 150 := by
  unfold ageC at h
  split at h
  · next h1 =>
    split at h
    · next h2 => exact ⟨okT_t.1 h1, inR_iff.1 h2⟩
    · exact absurd h (by decide)
  · exact absurd h (by decide)
noncomputable def livV (f : Int) (n : Nat) (xs : List Int) (age : Int) : Int := if ageC f n xs age = 0 then lv f n xs age else 0
noncomputable def deaV (f : Int) (n : Nat) (xs : List Int) (age : Int) : Int := if ageC f n xs age = 0 then lv f n xs age - lv f n xs (age + 1) else 0
theorem lv_150 {f : Int} {n : Nat} {xs : List Int} (h : okTP f n xs) : lv f n xs 150 - lv f n xs (150 + 1) = 0 := by
  obtain ⟨h1, h2, h3, h4, h5, h6⟩ := h
  have e1 : lv f n xs (150 + 1) = 0 := if_neg (by omega)
  have e2 : lv f n xs 150 = 0 := by
    by_cases h : (150 : Int) < f + n
    · have : (150 - f).toNat = n - 1 := by omega
      rw [lv, if_pos h, this, h4]
    · exact if_neg h
  omega
set_option maxHeartbeats 1000000 in
theorem iDeaths_any (f : Int) (A : Option Addr) (n c : Nat) (xs : List Int) (age : Int) (w : World) (h : RdI w w.heap.size A n xs) (hT : okTP f n xs) (ha : f ≤ age ∧ age ≤ 150) : Calls Try.prog 46 #[.agg #[.int .i64 f, .slice A n c], .int .i64 age] w fun e w' => e = .returned (.int .i64 (lv f n xs age - lv f n xs (age + 1))) ∧ Below w.heap.size w w' := by
  have HL := Lib.hid (fun W (hB : Below w.heap.size w W) => iLives_any f A n c xs age W ((h.below hB).more hB.size) hT.1 hT.2.1.2 ⟨ha.1, by omega⟩)
  have HL2 := Lib.hid (fun W (hB : Below w.heap.size w W) => iLives_any f A n c xs (age + 1) W ((h.below hB).more hB.size) hT.1 hT.2.1.2 ⟨by omega, by omega⟩)
  have b1 := lv_bd hT ha.1
  have b2 := lv_bd hT (age := age + 1) (by omega)
  have hf := hT.1
  clear h hT
  generalize lv f n xs age = L at *
  generalize lv f n xs (age + 1) = L2 at *
  have q1 := IntWalk.i64_in (L - L2) (by omega)
  have q2 := IntWalk.i64_in (age + 1) (by omega)
  obtain ⟨W0, hW0⟩ : ∃ W0 : World, W0 = w.alloc (.cells #[.int .i64 f, .slice A n c] 26) := ⟨_, rfl⟩
  have hB0 : Below w.heap.size w W0 := by rw [hW0]; go_grown
  have hs0 : W0.heap.size = w.heap.size + 1 := by rw [hW0]; simp
  have c0 : W0.cell? ⟨w.heap.size, 0, none⟩ = some (.int .i64 f) := by rw [hW0]; simp [go_sem]
  have c1 : W0.cell? ⟨w.heap.size, 1, none⟩ = some (.slice A n c) := by rw [hW0]; simp [go_sem]
  have hs1 : w.heap.size < W0.heap.size := by omega
  clear hs0
  go_enter Try.func46, Try.ntmps46
  go_upto_region 1 with fail
  rw [← hW0]
  clear hW0
  go_region_held3 (fun W' => Below W0.heap.size W0 W' ∧ ∀ b o, b < W0.heap.size → W'.cell? ⟨b, o, none⟩ = W0.cell? ⟨b, o, none⟩) (first | exact bS (Below.refl _ _).drew | exact bS (by go_grown)) (first | (go_at_call 58; (with_reducible refine Calls.mono (HL2.out _ ?_) ?_); (first | exact hB0.drew | exact hB0 | exact hW1 | exact hW2 | exact hW1.drew | exact hW2.drew); rintro ee w2 ⟨rfl, hb2⟩; obtain ⟨hc2, hf2⟩ := bcell hb2; have hB2 := bel_step (w := W0) (by go_grown) hb2; have hy2 : W0.heap.size ≤ w2.heap.size := hB2.size; have hW2 := bel_step hB0 hB2) | (go_at_call 58; (with_reducible refine Calls.mono (HL.out _ ?_) ?_); (first | exact hB0.drew | exact hB0 | exact hW1 | exact hW2 | exact hW1.drew | exact hW2.drew); rintro ee w1 ⟨rfl, hb1⟩; obtain ⟨hc1, hf1⟩ := bcell hb1; have hB1 := bel_step (w := W0) (by go_grown) hb1; have hy1 : W0.heap.size ≤ w1.heap.size := hB1.size; have hW1 := bel_step hB0 hB1))
  go_wp2
  go_returns
  exact ⟨rfl, by go_grown⟩
set_option maxHeartbeats 1000000 in
theorem iDeathsAt_any (f : Int) (A : Option Addr) (n c : Nat) (xs : List Int) (age : Int) (w : World) (h : RdI w w.heap.size A n xs) (hc : n ≤ c) (hcm : c ≤ maxLen) (hn : n ≤ 1048576) : Calls Try.prog 19 #[.agg #[.int .i64 f, .slice A n c], .int .i64 age] w fun e w' => e = .returned (.tuple #[.int .i64 (deaV f n xs age), .int .i64 (ageC f n xs age)]) ∧ Below w.heap.size w w' := by
  have HC := fun W (hB : Below w.heap.size w W) => iIsT_any_age f A n c xs age W ((h.below hB).more hB.size) hc hcm hn
  by_cases e : ageC f n xs age = 0
  · obtain ⟨hT, ha⟩ := ageC_split e
    have HQ : Hid (deaV f n xs age = lv f n xs age - lv f n xs (age + 1)) := if_pos e
    have HL := Lib.hid (fun W (hB : Below w.heap.size w W) => iDeaths_any f A n c xs age W ((h.below hB).more hB.size) hT ha)
    rw [e] at HC ⊢
    have HC := Lib.hid HC
    clear h e hT
    generalize lv f n xs age - lv f n xs (age + 1) = L at *
    go_enter Try.func19, Try.ntmps19
    go_wp2_with (first | (go_at_call 45; (with_reducible refine (HC.out _ (by go_grown)).mono ?_); rintro ee w1 ⟨rfl, hb1⟩; obtain ⟨hc1, hf1⟩ := bcell hb1; have hB1 := bel_step (w := w) (by go_grown) hb1; have hz1 := hb1.size; (try simp at hz1); have hy1 : w.heap.size < w1.heap.size := by omega) | (go_at_call 46; (with_reducible refine (HL.out _ (by go_grown)).mono ?_); rintro ee w2 ⟨rfl, hb2⟩; obtain ⟨hc2, hf2⟩ := bcell hb2; have hB2 := bel_step (w := w) (by go_grown) hb2; have hz2 := hb2.size; (try simp at hz2); have hy2 : w.heap.size < w2.heap.size := by omega))
    go_returns
    exact ⟨by rw [HQ.out]; rfl, by go_grown⟩
  · have HQ : Hid (deaV f n xs age = 0) := if_neg e
    clear h
    generalize ageC f n xs age = k at *
    have HC := Lib.hid HC
    go_enter Try.func19, Try.ntmps19
    go_wp2_with (go_at_call 45; (with_reducible refine (HC.out _ (by go_grown)).mono ?_); rintro ee w1 ⟨rfl, hb1⟩; obtain ⟨hc1, hf1⟩ := bcell hb1; have hB1 := bel_step (w := w) (by go_grown) hb1; have hz1 := hb1.size; (try simp at hz1); have hy1 : w.heap.size < w1.heap.size := by omega)
    go_returns
    exact ⟨by rw [HQ.out]; rfl, by go_grown⟩
end Go.Proofs.Ytmefjjamkebinaa
