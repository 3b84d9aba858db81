/-
  Contracts of the functions of chapter 3, second part: codes, the lives at an age.
-/
import Derived.Test.YtmefjjamkebinaaT3
set_option linter.unusedSimpArgs false
set_option linter.unusedVariables false
namespace Go.Proofs.Ytmefjjamkebinaa
open Go.RowKit
/-- the lives at an age -/
def lv (f : Int) (n : Nat) (xs : List Int) (age : Int) : Int := if age < f + n then gv xs (age - f).toNat else 0
theorem lv_in {f : Int} {n : Nat} {xs : List Int} {age : Int} (h : age < f + n) : Hid (lv f n xs age = gv xs (age - f).toNat) := if_pos h
theorem lv_out {f : Int} {n : Nat} {xs : List Int} {age : Int} (h : ¬ age < f + n) : Hid (lv f n xs age = 0) := if_neg h
theorem okT_mono {f : Int} {n : Nat} {xs : List Int} (h : okTP f n xs) : ∀ i, i < n → 0 ≤ gv xs i ∧ gv xs i ≤ 1000000 := by
  obtain ⟨_, h2, h3, h4, _, h6⟩ := h
  intro i
  induction i with
  | zero => intro hi; have := (h6 0 (by omega)).1; omega
  | succ i ih =>
    intro hi
    have h7 := ih (by omega)
    by_cases h8 : i + 1 < n - 1
    · have h9 := h6 (i + 1) h8
      have h10 := h9.2 (by omega)
      rw [Nat.add_sub_cancel] at h10
      omega
    · have : i + 1 = n - 1 := by omega
      rw [this, h4]
      omega
theorem lv_bd {f : Int} {n : Nat} {xs : List Int} (h : okTP f n xs) {age : Int} (ha : f ≤ age) : 0 ≤ lv f n xs age ∧ lv f n xs age ≤ 1000000 := by
  unfold lv
  split
  · exact okT_mono h _ (by omega)
  · omega
/-- the code of a table and an age -/
noncomputable def ageC (f : Int) (n : Nat) (xs : List Int) (age : Int) : Int := if okT f n xs = true then (if inR f 150 age = true then 0 else 2) else 1
theorem ageC_1 {f : Int} {n : Nat} {xs : List Int} {age : Int} (h : okT f n xs = false) : Hid (ageC f n xs age = 1) := by show _ = _; unfold ageC; rw [if_neg (by simp [h])]
theorem ageC_2 {f : Int} {n : Nat} {xs : List Int} {age : Int} (h : okT f n xs = true) (h2 : inR f 150 age = false) : Hid (ageC f n xs age = 2) := by show _ = _; unfold ageC; rw [if_pos h, if_neg (by simp [h2])]
theorem ageC_0 {f : Int} {n : Nat} {xs : List Int} {age : Int} (h : okT f n xs = true) (h2 : inR f 150 age = true) : Hid (ageC f n xs age = 0) := by show _ = _; unfold ageC; rw [if_pos h, if_pos h2]
set_option maxHeartbeats 1000000 in
theorem iIsT_any_age (f : Int) (A : Option Addr) (n c : Nat) (xs : List Int) (age : Int) (w : World) (h : RdI w w.heap.size A n xs) (hc : n ≤ c) (hcm : c ≤ maxLen) (hn : n ≤ 1048576) : Calls Try.prog 45 #[.agg #[.int .i64 f, .slice A n c], .int .i64 age] w fun e w' => e = .returned (.int .i64 (ageC f n xs age)) ∧ Below w.heap.size w w' := by
  have HI := fun W hR => iIsT_any f A n c xs W hR hc hcm hn
  have HR := fun W => inRange_any age f 150 W
  have h2 := Lib.hid (h.cur (.cells #[.int .i64 f, .slice A n c] 26))
  clear h
  cases e1 : okT f n xs with
  | false =>
    have HQ := ageC_1 (age := age) e1
    rw [e1] at HI
    have HI := Lib.hid HI
    clear e1
    go_enter Try.func45, Try.ntmps45
    go_wp2_with (go_at_call 18; (with_reducible refine (HI.out _ h2.out).mono ?_); rintro ee w1 ⟨rfl, hb1⟩; obtain ⟨hc1, hf1⟩ := bcell hb1; have hB1 := bel_step (w := w) (by go_grown) hb1; have hz1 := hb1.size; (try simp at hz1); have hy1 : w.heap.size < w1.heap.size := by omega)
    go_returns
    exact ⟨by rw [HQ.out]; rfl, by go_grown⟩
  | true =>
    rw [e1] at HI
    have HI := Lib.hid HI
    cases e2 : inR f 150 age with
    | false =>
      have HQ := ageC_2 e1 e2
      rw [e2] at HR
      have HR := Lib.hid HR
      clear e1 e2
      go_enter Try.func45, Try.ntmps45
      go_wp2_with (first | (go_at_call 18; (with_reducible refine (HI.out _ h2.out).mono ?_); rintro ee w1 ⟨rfl, hb1⟩; obtain ⟨hc1, hf1⟩ := bcell hb1; have hB1 := bel_step (w := w) (by go_grown) hb1; have hz1 := hb1.size; (try simp at hz1); have hy1 : w.heap.size < w1.heap.size := by omega) | (go_at_call 37; (with_reducible refine (HR.out _).mono ?_); rintro ee w2 ⟨rfl, rfl⟩))
      go_returns
      exact ⟨by rw [HQ.out]; rfl, by go_grown⟩
    | true =>
      have HQ := ageC_0 e1 e2
      rw [e2] at HR
      have HR := Lib.hid HR
      clear e1 e2
      go_enter Try.func45, Try.ntmps45
      go_wp2_with (first | (go_at_call 18; (with_reducible refine (HI.out _ h2.out).mono ?_); rintro ee w1 ⟨rfl, hb1⟩; obtain ⟨hc1, hf1⟩ := bcell hb1; have hB1 := bel_step (w := w) (by go_grown) hb1; have hz1 := hb1.size; (try simp at hz1); have hy1 : w.heap.size < w1.heap.size := by omega) | (go_at_call 37; (with_reducible refine (HR.out _).mono ?_); rintro ee w2 ⟨rfl, rfl⟩))
      go_returns
      exact ⟨by rw [HQ.out]; rfl, by go_grown⟩
set_option maxHeartbeats 1000000 in
theorem end_any (f : Int) (A : Option Addr) (n c : Nat) (w : World) (hf : 0 ≤ f ∧ f ≤ 100) (hn : n ≤ 1048576) : Calls Try.prog 69 #[.agg #[.int .i64 f, .slice A n c]] w fun e w' => e = .returned (.int .i64 (f + n - 1)) ∧ Below w.heap.size w w' := by
  have HN := Lib.hid (fun W => length_any A n c W hn)
  have q1 := IntWalk.i64_in (f + n) (by omega)
  have q2 := IntWalk.i64_in (f + n - 1) (by omega)
  go_enter Try.func69, Try.ntmps69
  go_wp2_with fail
  go_region_held3 (fun W' => Below w.heap.size w W' ∧ W'.cell? ⟨w.heap.size, 0, none⟩ = some (.int .i64 f) ∧ W'.cell? ⟨w.heap.size, 1, none⟩ = some (.slice A n c)) (exact ⟨by go_grown, by simp [go_sem, *], by simp [go_sem, *]⟩) (first | (go_at_call 38; (with_reducible refine (HN.out _).mono ?_); rintro ee w1 ⟨rfl, rfl⟩))
  go_wp2
  go_returns
  exact ⟨rfl, by go_grown⟩
set_option maxHeartbeats 1000000 in
theorem iLives_any (f : Int) (A : Option Addr) (n c : Nat) (xs : List Int) (age : Int) (w : World) (h : RdI w w.heap.size A n xs) (hf : 0 ≤ f ∧ f ≤ 100) (hn : n ≤ 120) (ha : f ≤ age ∧ age ≤ 1000) : Calls Try.prog 58 #[.agg #[.int .i64 f, .slice A n c], .int .i64 age] w fun e w' => e = .returned (.int .i64 (lv f n xs age)) ∧ Below w.heap.size w w' := by
  have HE := Lib.hid (fun W => end_any f A n c W hf (by omega))
  by_cases hlt : age < f + n
  · have HQ := lv_in (xs := xs) hlt
    have hk : age - f = ((age - f).toNat : Int) := by omega
    have hkn : (age - f).toNat < n := by omega
    generalize (age - f).toNat = k at *
    obtain ⟨ad, rfl, hb, kk⟩ := RdI.atG h hkn
    have hb4 : (ad.add k).block < w.heap.size := by rw [block_of_add]; exact hb
    generalize gv xs k = Z at *
    have KK := Lib.hid (fun W (hB : Below w.heap.size w W) => (hB.cell hb4).trans kk)
    clear h
    go_enter Try.func58, Try.ntmps58
    go_wp2_with ((go_at_call 69; (with_reducible refine (HE.out _).mono ?_); rintro ee w1 ⟨rfl, hb1⟩; obtain ⟨hc1, hf1⟩ := bcell hb1; have hB1 := bel_step (w := w) (by go_grown) hb1; have hz1 := hb1.size; (try simp at hz1); have hy1 : w.heap.size < w1.heap.size := by omega); have kk1 := KK.out _ hB1)
    go_returns
    exact ⟨by rw [HQ.out]; rfl, by go_grown⟩
  · have HQ := lv_out (xs := xs) hlt
    clear h
    go_enter Try.func58, Try.ntmps58
    go_wp2_with (go_at_call 69; (with_reducible refine (HE.out _).mono ?_); rintro ee w1 ⟨rfl, hb1⟩; obtain ⟨hc1, hf1⟩ := bcell hb1; have hB1 := bel_step (w := w) (by go_grown) hb1; have hz1 := hb1.size; (try simp at hz1); have hy1 : w.heap.size < w1.heap.size := by omega)
    go_returns
    exact ⟨by rw [HQ.out]; rfl, by go_grown⟩
set_option maxHeartbeats 1000000 in
theorem sLives_any (f : Int) (A : Option Addr) (n c : Nat) (xs : List Int) (age : Int) (w : World) (h : RdI w w.heap.size A n xs) (hf : 0 ≤ f ∧ f ≤ 100) (hn : n ≤ 120) (ha : f ≤ age ∧ age ≤ 1000) : Calls Try.prog 56 #[.agg #[.int .i64 f, .slice A n c], .int .i64 age] w fun e w' => e = .returned (.int .i64 (lv f n xs age)) ∧ Below w.heap.size w w' := by
  by_cases hlt : age < f + n
  · have HQ := lv_in (xs := xs) hlt
    have hk : age - f = ((age - f).toNat : Int) := by omega
    have hkn : (age - f).toNat < n := by omega
    generalize (age - f).toNat = k at *
    obtain ⟨ad, rfl, hb, kk⟩ := RdI.atG h hkn
    have hb4 : (ad.add k).block < w.heap.size := by rw [block_of_add]; exact hb
    generalize gv xs k = Z at *
    clear h
    go_enter Try.func56, Try.ntmps56
    go_wp2
    go_returns
    exact ⟨by rw [HQ.out]; rfl, by go_grown⟩
  · have HQ := lv_out (xs := xs) hlt
    clear h
    go_enter Try.func56, Try.ntmps56
    go_wp2
    go_returns
    exact ⟨by rw [HQ.out]; rfl, by go_grown⟩
end Go.Proofs.Ytmefjjamkebinaa
