/-
  Contracts of the functions of chapter 3: what a life table is.
-/
import Derived.Test.YtmefjjamkebinaaI3
set_option linter.unusedSimpArgs false
set_option linter.unusedVariables false
namespace Go.Proofs.Ytmefjjamkebinaa
open Go.RowKit
def gv (xs : List Int) (i : Nat) : Int := xs.getD i 0
theorem gv_at {xs : List Int} {k : Nat} {x : Int} (h : xs[k]? = some x) : gv xs k = x := by simp [gv, List.getD, h]
theorem RdI.atG {w : World} {B : Nat} {A : Option Addr} {n : Nat} {xs : List Int} {k : Nat} (h : RdI w B A n xs) (hk : k < n) :
    ∃ ad, A = some ad ∧ ad.block < B ∧ w.cell? (ad.add k) = some (.int .i64 (gv xs k)) := by
  obtain ⟨ad, z, h1, h2, h3, h4⟩ := RdI.atI h hk
  exact ⟨ad, h1, h2, by rw [gv_at h3]; exact h4⟩
/-- what a life table is -/
def okTP (f : Int) (n : Nat) (xs : List Int) : Prop :=
  (0 ≤ f ∧ f ≤ 100) ∧ (2 ≤ n ∧ n ≤ 120) ∧ gv xs 0 ≤ 1000000 ∧ gv xs (n - 1) = 0 ∧ f + n - 1 ≤ 150 ∧ ∀ i, i < n - 1 → 1 ≤ gv xs i ∧ (0 < i → gv xs i ≤ gv xs (i - 1))
noncomputable def okT (f : Int) (n : Nat) (xs : List Int) : Bool := @decide (okTP f n xs) (Classical.propDecidable _)
theorem okT_t {f : Int} {n : Nat} {xs : List Int} : okT f n xs = true ↔ okTP f n xs := by unfold okT; exact @decide_eq_true_iff _ (Classical.propDecidable _)
theorem okT_f {f : Int} {n : Nat} {xs : List Int} (h : ¬ okTP f n xs) : Hid (okT f n xs = false) := by
  show _ = _
  cases e : okT f n xs with
  | false => rfl
  | true => exact absurd (okT_t.1 e) h
theorem okT_y {f : Int} {n : Nat} {xs : List Int} (h : okTP f n xs) : Hid (okT f n xs = true) := okT_t.2 h
set_option maxHeartbeats 400000 in
theorem length_any (A : Option Addr) (n c : Nat) (w : World) (hn : n ≤ 1048576) : Calls Try.prog 38 #[.slice A n c] w fun e w' => e = .returned (.int .i64 (n : Int)) ∧ w = w' := by
  go_enter Try.func38, Try.ntmps38
  go_wp2
  go_ret
  exact ⟨rfl, rfl⟩
set_option maxHeartbeats 400000 in
theorem iIsT_f (f : Int) (A : Option Addr) (n c : Nat) (xs : List Int) (w : World) (h : RdI w w.heap.size A n xs) (hc : n ≤ c) (hcm : c ≤ maxLen) (hn : n ≤ 1048576) (h1 : ¬ (0 ≤ f ∧ f ≤ 100)) : Calls Try.prog 18 #[.agg #[.int .i64 f, .slice A n c]] w fun e w' => e = .returned (.bool (okT f n xs)) ∧ Below w.heap.size w w' := by
  have HQ := okT_f (f := f) (n := n) (xs := xs) (fun hh => h1 hh.1)
  have HN := Lib.hid (fun W => length_any A n c W hn)
  have HF := fun W => inRange_any f 0 100 W
  rw [inR_ff.2 (by omega)] at HF
  have HF := Lib.hid HF
  clear h h1
  go_enter Try.func18, Try.ntmps18
  go_wp2_with (first | (go_at_call 38; (with_reducible refine (HN.out _).mono ?_); rintro ee w1 ⟨rfl, rfl⟩) | (go_at_call 37; (with_reducible refine (HF.out _).mono ?_); rintro ee w2 ⟨rfl, rfl⟩))
  (go_returns; exact ⟨by rw [HQ.out]; rfl, by first | (go_grown; done) | exact below_drewN ((Below.refl _ _).alloc (Nat.le_refl _) _) _ | exact below_drewN (below_drewN ((Below.refl _ _).alloc (Nat.le_refl _) _) _) _⟩)
set_option maxHeartbeats 400000 in
theorem iIsT_n (f : Int) (A : Option Addr) (n c : Nat) (xs : List Int) (w : World) (h : RdI w w.heap.size A n xs) (hc : n ≤ c) (hcm : c ≤ maxLen) (hn : n ≤ 1048576) (h1 : 0 ≤ f ∧ f ≤ 100) (h2 : ¬ (2 ≤ n ∧ n ≤ 120)) : Calls Try.prog 18 #[.agg #[.int .i64 f, .slice A n c]] w fun e w' => e = .returned (.bool (okT f n xs)) ∧ Below w.heap.size w w' := by
  have HQ := okT_f (f := f) (n := n) (xs := xs) (fun hh => h2 hh.2.1)
  have HN := Lib.hid (fun W => length_any A n c W (by omega))
  have HF := fun W => inRange_any f 0 100 W
  rw [inR_iff.2 h1] at HF
  have HF := Lib.hid HF
  have HG := fun W => inRange_any n 2 120 W
  rw [inR_ff.2 (by omega)] at HG
  have HG := Lib.hid HG
  clear h h1 h2
  go_enter Try.func18, Try.ntmps18
  go_wp2_with (first | (go_at_call 38; (with_reducible refine (HN.out _).mono ?_); rintro ee w1 ⟨rfl, rfl⟩) | (go_at_call 37; (with_reducible refine (HF.out _).mono ?_); rintro ee w2 ⟨rfl, rfl⟩) | (go_at_call 37; (with_reducible refine (HG.out _).mono ?_); rintro ee w3 ⟨rfl, rfl⟩))
  (go_returns; exact ⟨by rw [HQ.out]; rfl, by first | (go_grown; done) | exact below_drewN ((Below.refl _ _).alloc (Nat.le_refl _) _) _ | exact below_drewN (below_drewN ((Below.refl _ _).alloc (Nat.le_refl _) _) _) _⟩)
set_option maxHeartbeats 1000000 in
theorem iIsT_3 (f : Int) (A : Option Addr) (n c : Nat) (xs : List Int) (w : World) (h : RdI w w.heap.size A n xs) (hc : n ≤ c) (hcm : c ≤ maxLen) (h1 : 0 ≤ f ∧ f ≤ 100) (h2 : 2 ≤ n ∧ n ≤ 120) (h3 : ¬ gv xs 0 ≤ 1000000) : Calls Try.prog 18 #[.agg #[.int .i64 f, .slice A n c]] w fun e w' => e = .returned (.bool (okT f n xs)) ∧ Below w.heap.size w w' := by
  have HQ := okT_f (f := f) (n := n) (xs := xs) (fun hh => h3 hh.2.2.1)
  have HN := Lib.hid (fun W => length_any A n c W (by omega))
  have HF := fun W => inRange_any f 0 100 W
  rw [inR_iff.2 h1] at HF
  have HF := Lib.hid HF
  have HG := fun W => inRange_any n 2 120 W
  rw [inR_iff.2 (by omega)] at HG
  have HG := Lib.hid HG
  obtain ⟨ad, rfl, hb, k0⟩ := RdI.atG h (k := 0) (by omega)
  obtain ⟨ad', e', hb', k1⟩ := RdI.atG h (k := n - 1) (by omega)
  cases e'
  rw [add_zero'] at k0
  have hb2 : (ad.add (n - 1)).block < w.heap.size := by rw [block_of_add]; exact hb
  have hn1 : ((n : Int) - 1) = ((n - 1 : Nat) : Int) := by omega
  clear h
  generalize gv xs 0 = X0 at *
  go_enter Try.func18, Try.ntmps18
  go_wp2_with (first | (go_at_call 38; (with_reducible refine (HN.out _).mono ?_); rintro ee w1 ⟨rfl, rfl⟩) | (go_at_call 37; (with_reducible refine (HF.out _).mono ?_); rintro ee w2 ⟨rfl, rfl⟩) | (go_at_call 37; (with_reducible refine (HG.out _).mono ?_); rintro ee w3 ⟨rfl, rfl⟩))
  (go_returns; exact ⟨by rw [HQ.out]; rfl, by first | (go_grown; done) | exact below_drewN ((Below.refl _ _).alloc (Nat.le_refl _) _) _ | exact below_drewN (below_drewN ((Below.refl _ _).alloc (Nat.le_refl _) _) _) _⟩)
set_option maxHeartbeats 1000000 in
theorem iIsT_4 (f : Int) (A : Option Addr) (n c : Nat) (xs : List Int) (w : World) (h : RdI w w.heap.size A n xs) (hc : n ≤ c) (hcm : c ≤ maxLen) (h1 : 0 ≤ f ∧ f ≤ 100) (h2 : 2 ≤ n ∧ n ≤ 120) (h3 : gv xs 0 ≤ 1000000) (h4 : ¬ gv xs (n - 1) = 0) : Calls Try.prog 18 #[.agg #[.int .i64 f, .slice A n c]] w fun e w' => e = .returned (.bool (okT f n xs)) ∧ Below w.heap.size w w' := by
  have HQ := okT_f (f := f) (n := n) (xs := xs) (fun hh => h4 hh.2.2.2.1)
  have HN := Lib.hid (fun W => length_any A n c W (by omega))
  have HF := fun W => inRange_any f 0 100 W
  rw [inR_iff.2 h1] at HF
  have HF := Lib.hid HF
  have HG := fun W => inRange_any n 2 120 W
  rw [inR_iff.2 (by omega)] at HG
  have HG := Lib.hid HG
  obtain ⟨ad, rfl, hb, k0⟩ := RdI.atG h (k := 0) (by omega)
  obtain ⟨ad', e', hb', k1⟩ := RdI.atG h (k := n - 1) (by omega)
  cases e'
  rw [add_zero'] at k0
  have hb2 : (ad.add (n - 1)).block < w.heap.size := by rw [block_of_add]; exact hb
  have hn1 : ((n : Int) - 1) = ((n - 1 : Nat) : Int) := by omega
  clear h
  generalize gv xs (n - 1) = X1 at *
  generalize gv xs 0 = X0 at *
  go_enter Try.func18, Try.ntmps18
  go_wp2_with (first | (go_at_call 38; (with_reducible refine (HN.out _).mono ?_); rintro ee w1 ⟨rfl, rfl⟩) | (go_at_call 37; (with_reducible refine (HF.out _).mono ?_); rintro ee w2 ⟨rfl, rfl⟩) | (go_at_call 37; (with_reducible refine (HG.out _).mono ?_); rintro ee w3 ⟨rfl, rfl⟩))
  (go_returns; exact ⟨by rw [HQ.out]; rfl, by first | (go_grown; done) | exact below_drewN ((Below.refl _ _).alloc (Nat.le_refl _) _) _ | exact below_drewN (below_drewN ((Below.refl _ _).alloc (Nat.le_refl _) _) _) _⟩)
set_option maxHeartbeats 1000000 in
theorem iIsT_5 (f : Int) (A : Option Addr) (n c : Nat) (xs : List Int) (w : World) (h : RdI w w.heap.size A n xs) (hc : n ≤ c) (hcm : c ≤ maxLen) (h1 : 0 ≤ f ∧ f ≤ 100) (h2 : 2 ≤ n ∧ n ≤ 120) (h3 : gv xs 0 ≤ 1000000) (h4 : gv xs (n - 1) = 0) (h5 : ¬ f + n - 1 ≤ 150) : Calls Try.prog 18 #[.agg #[.int .i64 f, .slice A n c]] w fun e w' => e = .returned (.bool (okT f n xs)) ∧ Below w.heap.size w w' := by
  have HQ := okT_f (f := f) (n := n) (xs := xs) (fun hh => h5 hh.2.2.2.2.1)
  have HN := Lib.hid (fun W => length_any A n c W (by omega))
  have HF := fun W => inRange_any f 0 100 W
  rw [inR_iff.2 h1] at HF
  have HF := Lib.hid HF
  have HG := fun W => inRange_any n 2 120 W
  rw [inR_iff.2 (by omega)] at HG
  have HG := Lib.hid HG
  obtain ⟨ad, rfl, hb, k0⟩ := RdI.atG h (k := 0) (by omega)
  obtain ⟨ad', e', hb', k1⟩ := RdI.atG h (k := n - 1) (by omega)
  cases e'
  rw [add_zero'] at k0
  have hb2 : (ad.add (n - 1)).block < w.heap.size := by rw [block_of_add]; exact hb
  have hn1 : ((n : Int) - 1) = ((n - 1 : Nat) : Int) := by omega
  rw [h4] at k1
  clear h h4
  generalize gv xs 0 = X0 at *
  go_enter Try.func18, Try.ntmps18
  go_wp2_with (first | (go_at_call 38; (with_reducible refine (HN.out _).mono ?_); rintro ee w1 ⟨rfl, rfl⟩) | (go_at_call 37; (with_reducible refine (HF.out _).mono ?_); rintro ee w2 ⟨rfl, rfl⟩) | (go_at_call 37; (with_reducible refine (HG.out _).mono ?_); rintro ee w3 ⟨rfl, rfl⟩))
  (go_returns; exact ⟨by rw [HQ.out]; rfl, by first | (go_grown; done) | exact below_drewN ((Below.refl _ _).alloc (Nat.le_refl _) _) _ | exact below_drewN (below_drewN ((Below.refl _ _).alloc (Nat.le_refl _) _) _) _⟩)
set_option maxHeartbeats 2000000 in
theorem iIsT_in (f : Int) (A : Option Addr) (n c : Nat) (xs : List Int) (w : World) (h : RdI w w.heap.size A n xs) (hc : n ≤ c) (hcm : c ≤ maxLen) (h1 : 0 ≤ f ∧ f ≤ 100) (h2 : 2 ≤ n ∧ n ≤ 120) (h3 : gv xs 0 ≤ 1000000) (h4 : gv xs (n - 1) = 0) (h5 : f + n - 1 ≤ 150) : Calls Try.prog 18 #[.agg #[.int .i64 f, .slice A n c]] w fun e w' => e = .returned (.bool (okT f n xs)) ∧ Below w.heap.size w w' := by
  have HN := Lib.hid (fun W => length_any A n c W (by omega))
  have HF := fun W => inRange_any f 0 100 W
  rw [inR_iff.2 h1] at HF
  have HF := Lib.hid HF
  have HG := fun W => inRange_any n 2 120 W
  rw [inR_iff.2 (by omega)] at HG
  have HG := Lib.hid HG
  have HX : Hid ((∀ i, i < n - 1 → 1 ≤ gv xs i ∧ (0 < i → gv xs i ≤ gv xs (i - 1))) → okTP f n xs) := fun hh => ⟨h1, h2, h3, h4, h5, hh⟩
  have HY : Hid (okTP f n xs → ∀ i, i < n - 1 → 1 ≤ gv xs i ∧ (0 < i → gv xs i ≤ gv xs (i - 1))) := fun hh => hh.2.2.2.2.2
  obtain ⟨ad, rfl, hb, k0⟩ := RdI.atG h (k := 0) (by omega)
  obtain ⟨ad', e', hb', k1⟩ := RdI.atG h (k := n - 1) (by omega)
  cases e'
  rw [add_zero'] at k0
  have hb2 : (ad.add (n - 1)).block < w.heap.size := by rw [block_of_add]; exact hb
  have hn1 : ((n : Int) - 1) = ((n - 1 : Nat) : Int) := by omega
  rw [h4] at k1
  have H := Lib.hid h
  unfold maxLen at hcm
  clear h h4
  generalize hX : gv xs 0 = X0 at *
  have HX0 := Lib.hid hX
  clear hX
  go_enter Try.func18, Try.ntmps18
  go_wp2_with (first | (go_at_call 38; (with_reducible refine (HN.out _).mono ?_); rintro ee w1 ⟨rfl, rfl⟩) | (go_at_call 37; (with_reducible refine (HF.out _).mono ?_); rintro ee w2 ⟨rfl, rfl⟩) | (go_at_call 37; (with_reducible refine (HG.out _).mono ?_); rintro ee w3 ⟨rfl, rfl⟩))
  go_loop [4, 5, 48] (fun x y i => ∃ k : Nat, k ≤ n - 1 ∧ i = .int .i64 k ∧ Hid (∀ i, i < k → 1 ≤ gv xs i ∧ (0 < i → gv xs i ≤ gv xs (i - 1)))) (fun _ _ i => n - (intOf i).toNat)
  case atStart => exact ⟨0, Nat.zero_le _, rfl, fun i hi => by omega⟩
  case round =>
    obtain ⟨k, hk, rfl, HB⟩ := hrel
    by_cases hlt : k < n - 1
    · obtain ⟨ad2, e2, hb3, kk⟩ := RdI.atG H.out (k := k) (by omega)
      cases e2
      have hb4 : (ad.add k).block < w.heap.size := by rw [block_of_add]; exact hb
      have hb5 : (ad.add (k - 1)).block < w.heap.size := by rw [block_of_add]; exact hb
      by_cases g1 : 1 ≤ gv xs k
      · by_cases g2 : 0 < k
        · obtain ⟨ad2, e2, hb6, kp⟩ := RdI.atG H.out (k := k - 1) (by omega)
          cases e2
          have hk1 : ((k : Int) - 1) = ((k - 1 : Nat) : Int) := by omega
          by_cases g3 : gv xs k ≤ gv xs (k - 1)
          · have HB2 : Hid (∀ i, i < k + 1 → 1 ≤ gv xs i ∧ (0 < i → gv xs i ≤ gv xs (i - 1))) := fun i hi => by
              rcases Nat.lt_or_ge i k with h | h
              · exact HB.out i h
              · obtain rfl : i = k := by omega
                exact ⟨g1, fun _ => g3⟩
            generalize gv xs k = Z at *
            generalize gv xs (k - 1) = Y at *
            go_wp2
            go_round
            case rel => exact ⟨k + 1, by omega, by go_num, HB2.out⟩
            case measure => simp [intOf]; omega
          · have HQ := okT_f (f := f) (n := n) (xs := xs) (fun hh => g3 ((HY.out hh k hlt).2 g2))
            generalize gv xs k = Z at *
            generalize gv xs (k - 1) = Y at *
            go_wp2
            (go_returns; exact ⟨by rw [HQ.out]; rfl, by first | (go_grown; done) | exact below_drewN ((Below.refl _ _).alloc (Nat.le_refl _) _) _ | exact below_drewN (below_drewN ((Below.refl _ _).alloc (Nat.le_refl _) _) _) _⟩)
        · obtain rfl : k = 0 := by omega
          have HB2 : Hid (∀ i, i < 0 + 1 → 1 ≤ gv xs i ∧ (0 < i → gv xs i ≤ gv xs (i - 1))) := fun i hi => by
            obtain rfl : i = 0 := by omega
            exact ⟨g1, fun h => by omega⟩
          have g1' : 1 ≤ X0 := by rw [← HX0.out]; exact g1
          clear kk g1 HX0
          go_wp2
          go_round
          case rel => exact ⟨0 + 1, by omega, by go_num, HB2.out⟩
          case measure => simp [intOf]; omega
      · have HQ := okT_f (f := f) (n := n) (xs := xs) (fun hh => g1 (HY.out hh k hlt).1)
        generalize gv xs k = Z at *
        go_wp2
        (go_returns; exact ⟨by rw [HQ.out]; rfl, by first | (go_grown; done) | exact below_drewN ((Below.refl _ _).alloc (Nat.le_refl _) _) _ | exact below_drewN (below_drewN ((Below.refl _ _).alloc (Nat.le_refl _) _) _) _⟩)
    · have HQ := okT_y (HX.out (fun i hi => HB.out i (by omega)))
      go_wp2
      (go_returns; exact ⟨by rw [HQ.out]; rfl, by first | (go_grown; done) | exact below_drewN ((Below.refl _ _).alloc (Nat.le_refl _) _) _ | exact below_drewN (below_drewN ((Below.refl _ _).alloc (Nat.le_refl _) _) _) _⟩)
theorem iIsT_any (f : Int) (A : Option Addr) (n c : Nat) (xs : List Int) (w : World) (h : RdI w w.heap.size A n xs) (hc : n ≤ c) (hcm : c ≤ maxLen) (hn : n ≤ 1048576) : Calls Try.prog 18 #[.agg #[.int .i64 f, .slice A n c]] w fun e w' => e = .returned (.bool (okT f n xs)) ∧ Below w.heap.size w w' := by
  by_cases h1 : 0 ≤ f ∧ f ≤ 100
  · by_cases h2 : 2 ≤ n ∧ n ≤ 120
    · by_cases h3 : gv xs 0 ≤ 1000000
      · by_cases h4 : gv xs (n - 1) = 0
        · by_cases h5 : f + n - 1 ≤ 150
          · exact iIsT_in f A n c xs w h hc hcm h1 h2 h3 h4 h5
          · exact iIsT_5 f A n c xs w h hc hcm h1 h2 h3 h4 h5
        · exact iIsT_4 f A n c xs w h hc hcm h1 h2 h3 h4
      · exact iIsT_3 f A n c xs w h hc hcm h1 h2 h3
    · exact iIsT_n f A n c xs w h hc hcm hn h1 h2
  · exact iIsT_f f A n c xs w h hc hcm hn h1
set_option maxHeartbeats 400000 in
theorem sIsT_n (f : Int) (A : Option Addr) (n c : Nat) (xs : List Int) (w : World) (h : RdI w w.heap.size A n xs) (hc : n ≤ c) (hcm : c ≤ maxLen) (hn : n ≤ 1048576) (h2 : ¬ (2 ≤ n ∧ n ≤ 120)) : Calls Try.prog 55 #[.agg #[.int .i64 f, .slice A n c]] w fun e w' => e = .returned (.bool (okT f n xs)) ∧ Below w.heap.size w w' := by
  have HQ := okT_f (f := f) (n := n) (xs := xs) (fun hh => h2 hh.2.1)
  clear h
  by_cases h3 : 2 ≤ n
  · have h4 : 120 < n := by omega
    clear h2
    go_enter Try.func55, Try.ntmps55
    go_wp2
    (go_returns; exact ⟨by rw [HQ.out]; rfl, by first | (go_grown; done) | exact below_drewN ((Below.refl _ _).alloc (Nat.le_refl _) _) _ | exact below_drewN (below_drewN ((Below.refl _ _).alloc (Nat.le_refl _) _) _) _⟩)
  · have h4 : n < 2 := by omega
    clear h2
    go_enter Try.func55, Try.ntmps55
    go_wp2
    (go_returns; exact ⟨by rw [HQ.out]; rfl, by first | (go_grown; done) | exact below_drewN ((Below.refl _ _).alloc (Nat.le_refl _) _) _ | exact below_drewN (below_drewN ((Below.refl _ _).alloc (Nat.le_refl _) _) _) _⟩)
set_option maxHeartbeats 400000 in
theorem sIsT_f (f : Int) (A : Option Addr) (n c : Nat) (xs : List Int) (w : World) (h : RdI w w.heap.size A n xs) (hc : n ≤ c) (hcm : c ≤ maxLen) (h1 : ¬ (0 ≤ f ∧ f ≤ 100)) (h2 : 2 ≤ n ∧ n ≤ 120) : Calls Try.prog 55 #[.agg #[.int .i64 f, .slice A n c]] w fun e w' => e = .returned (.bool (okT f n xs)) ∧ Below w.heap.size w w' := by
  have HQ := okT_f (f := f) (n := n) (xs := xs) (fun hh => h1 hh.1)
  have HF := fun W => sIn_any f 0 100 W
  rw [inR_ff.2 (by omega)] at HF
  have HF := Lib.hid HF
  clear h h1
  go_enter Try.func55, Try.ntmps55
  go_wp2_with (go_at_call 41; (with_reducible refine (HF.out _).mono ?_); rintro ee w1 ⟨rfl, rfl⟩)
  (go_returns; exact ⟨by rw [HQ.out]; rfl, by first | (go_grown; done) | exact below_drewN ((Below.refl _ _).alloc (Nat.le_refl _) _) _ | exact below_drewN (below_drewN ((Below.refl _ _).alloc (Nat.le_refl _) _) _) _⟩)
set_option maxHeartbeats 1000000 in
theorem sIsT_3 (f : Int) (A : Option Addr) (n c : Nat) (xs : List Int) (w : World) (h : RdI w w.heap.size A n xs) (hc : n ≤ c) (hcm : c ≤ maxLen) (h1 : 0 ≤ f ∧ f ≤ 100) (h2 : 2 ≤ n ∧ n ≤ 120) (h3 : ¬ (1 ≤ gv xs 0 ∧ gv xs 0 ≤ 1000000)) : Calls Try.prog 55 #[.agg #[.int .i64 f, .slice A n c]] w fun e w' => e = .returned (.bool (okT f n xs)) ∧ Below w.heap.size w w' := by
  have HQ := okT_f (f := f) (n := n) (xs := xs) (fun hh => h3 ⟨(hh.2.2.2.2.2 0 (by omega)).1, hh.2.2.1⟩)
  have HF := fun W => sIn_any f 0 100 W
  rw [inR_iff.2 h1] at HF
  have HF := Lib.hid HF
  have HG := fun W => sIn_any (gv xs 0) 1 1000000 W
  rw [inR_ff.2 (by omega)] at HG
  have HG := Lib.hid HG
  obtain ⟨ad, rfl, hb, k0⟩ := RdI.atG h (k := 0) (by omega)
  obtain ⟨ad', e', hb', k1⟩ := RdI.atG h (k := n - 1) (by omega)
  cases e'
  rw [add_zero'] at k0
  have hb2 : (ad.add (n - 1)).block < w.heap.size := by rw [block_of_add]; exact hb
  have hn1 : ((n : Int) - 1) = ((n - 1 : Nat) : Int) := by omega
  clear h h3
  generalize gv xs 0 = X0 at *
  go_enter Try.func55, Try.ntmps55
  go_wp2_with (first | (go_at_call 41; (with_reducible refine (HF.out _).mono ?_); rintro ee w1 ⟨rfl, rfl⟩) | (go_at_call 41; (with_reducible refine (HG.out _).mono ?_); rintro ee w2 ⟨rfl, rfl⟩))
  (go_returns; exact ⟨by rw [HQ.out]; rfl, by first | (go_grown; done) | exact below_drewN ((Below.refl _ _).alloc (Nat.le_refl _) _) _ | exact below_drewN (below_drewN ((Below.refl _ _).alloc (Nat.le_refl _) _) _) _⟩)
set_option maxHeartbeats 1000000 in
theorem sIsT_4 (f : Int) (A : Option Addr) (n c : Nat) (xs : List Int) (w : World) (h : RdI w w.heap.size A n xs) (hc : n ≤ c) (hcm : c ≤ maxLen) (h1 : 0 ≤ f ∧ f ≤ 100) (h2 : 2 ≤ n ∧ n ≤ 120) (h3 : 1 ≤ gv xs 0 ∧ gv xs 0 ≤ 1000000) (h4 : ¬ gv xs (n - 1) = 0) : Calls Try.prog 55 #[.agg #[.int .i64 f, .slice A n c]] w fun e w' => e = .returned (.bool (okT f n xs)) ∧ Below w.heap.size w w' := by
  have HQ := okT_f (f := f) (n := n) (xs := xs) (fun hh => h4 hh.2.2.2.1)
  have HF := fun W => sIn_any f 0 100 W
  rw [inR_iff.2 h1] at HF
  have HF := Lib.hid HF
  have HG := fun W => sIn_any (gv xs 0) 1 1000000 W
  rw [inR_iff.2 (by omega)] at HG
  have HG := Lib.hid HG
  obtain ⟨ad, rfl, hb, k0⟩ := RdI.atG h (k := 0) (by omega)
  obtain ⟨ad', e', hb', k1⟩ := RdI.atG h (k := n - 1) (by omega)
  cases e'
  rw [add_zero'] at k0
  have hb2 : (ad.add (n - 1)).block < w.heap.size := by rw [block_of_add]; exact hb
  have hn1 : ((n : Int) - 1) = ((n - 1 : Nat) : Int) := by omega
  clear h
  generalize gv xs (n - 1) = X1 at *
  generalize gv xs 0 = X0 at *
  go_enter Try.func55, Try.ntmps55
  go_wp2_with (first | (go_at_call 41; (with_reducible refine (HF.out _).mono ?_); rintro ee w1 ⟨rfl, rfl⟩) | (go_at_call 41; (with_reducible refine (HG.out _).mono ?_); rintro ee w2 ⟨rfl, rfl⟩))
  (go_returns; exact ⟨by rw [HQ.out]; rfl, by first | (go_grown; done) | exact below_drewN ((Below.refl _ _).alloc (Nat.le_refl _) _) _ | exact below_drewN (below_drewN ((Below.refl _ _).alloc (Nat.le_refl _) _) _) _⟩)
set_option maxHeartbeats 1000000 in
theorem sIsT_5 (f : Int) (A : Option Addr) (n c : Nat) (xs : List Int) (w : World) (h : RdI w w.heap.size A n xs) (hc : n ≤ c) (hcm : c ≤ maxLen) (h1 : 0 ≤ f ∧ f ≤ 100) (h2 : 2 ≤ n ∧ n ≤ 120) (h3 : 1 ≤ gv xs 0 ∧ gv xs 0 ≤ 1000000) (h4 : gv xs (n - 1) = 0) (h5 : ¬ f + n - 1 ≤ 150) : Calls Try.prog 55 #[.agg #[.int .i64 f, .slice A n c]] w fun e w' => e = .returned (.bool (okT f n xs)) ∧ Below w.heap.size w w' := by
  have HQ := okT_f (f := f) (n := n) (xs := xs) (fun hh => h5 hh.2.2.2.2.1)
  have HF := fun W => sIn_any f 0 100 W
  rw [inR_iff.2 h1] at HF
  have HF := Lib.hid HF
  have HG := fun W => sIn_any (gv xs 0) 1 1000000 W
  rw [inR_iff.2 (by omega)] at HG
  have HG := Lib.hid HG
  obtain ⟨ad, rfl, hb, k0⟩ := RdI.atG h (k := 0) (by omega)
  obtain ⟨ad', e', hb', k1⟩ := RdI.atG h (k := n - 1) (by omega)
  cases e'
  rw [add_zero'] at k0
  have hb2 : (ad.add (n - 1)).block < w.heap.size := by rw [block_of_add]; exact hb
  have hn1 : ((n : Int) - 1) = ((n - 1 : Nat) : Int) := by omega
  rw [h4] at k1
  clear h h4
  generalize gv xs 0 = X0 at *
  go_enter Try.func55, Try.ntmps55
  go_wp2_with (first | (go_at_call 41; (with_reducible refine (HF.out _).mono ?_); rintro ee w1 ⟨rfl, rfl⟩) | (go_at_call 41; (with_reducible refine (HG.out _).mono ?_); rintro ee w2 ⟨rfl, rfl⟩))
  (go_returns; exact ⟨by rw [HQ.out]; rfl, by first | (go_grown; done) | exact below_drewN ((Below.refl _ _).alloc (Nat.le_refl _) _) _ | exact below_drewN (below_drewN ((Below.refl _ _).alloc (Nat.le_refl _) _) _) _⟩)
set_option maxHeartbeats 2000000 in
theorem sIsT_in (f : Int) (A : Option Addr) (n c : Nat) (xs : List Int) (w : World) (h : RdI w w.heap.size A n xs) (hc : n ≤ c) (hcm : c ≤ maxLen) (h1 : 0 ≤ f ∧ f ≤ 100) (h2 : 2 ≤ n ∧ n ≤ 120) (h3 : 1 ≤ gv xs 0 ∧ gv xs 0 ≤ 1000000) (h4 : gv xs (n - 1) = 0) (h5 : f + n - 1 ≤ 150) : Calls Try.prog 55 #[.agg #[.int .i64 f, .slice A n c]] w fun e w' => e = .returned (.bool (okT f n xs)) ∧ Below w.heap.size w w' := by
  have HF := fun W => sIn_any f 0 100 W
  rw [inR_iff.2 h1] at HF
  have HF := Lib.hid HF
  have HG := fun W => sIn_any (gv xs 0) 1 1000000 W
  rw [inR_iff.2 (by omega)] at HG
  have HG := Lib.hid HG
  have HX : Hid ((∀ i, i < n - 1 → 1 ≤ gv xs i ∧ (0 < i → gv xs i ≤ gv xs (i - 1))) → okTP f n xs) := fun hh => ⟨h1, h2, h3.2, h4, h5, hh⟩
  have HY : Hid (okTP f n xs → ∀ i, i < n - 1 → 1 ≤ gv xs i ∧ (0 < i → gv xs i ≤ gv xs (i - 1))) := fun hh => hh.2.2.2.2.2
  obtain ⟨ad, rfl, hb, k0⟩ := RdI.atG h (k := 0) (by omega)
  obtain ⟨ad', e', hb', k1⟩ := RdI.atG h (k := n - 1) (by omega)
  cases e'
  rw [add_zero'] at k0
  have hb2 : (ad.add (n - 1)).block < w.heap.size := by rw [block_of_add]; exact hb
  have hn1 : ((n : Int) - 1) = ((n - 1 : Nat) : Int) := by omega
  have H4 := Lib.hid h4
  rw [h4] at k1
  have H := Lib.hid h
  have HB1 : Hid (∀ i, i < 1 → i < n - 1 → 1 ≤ gv xs i ∧ (0 < i → gv xs i ≤ gv xs (i - 1))) := fun i hi _ => by
    obtain rfl : i = 0 := by omega
    exact ⟨h3.1, fun h => by omega⟩
  unfold maxLen at hcm
  clear h h4
  generalize hX : gv xs 0 = X0 at *
  clear hX
  go_enter Try.func55, Try.ntmps55
  go_wp2_with (first | (go_at_call 41; (with_reducible refine (HF.out _).mono ?_); rintro ee w1 ⟨rfl, rfl⟩) | (go_at_call 41; (with_reducible refine (HG.out _).mono ?_); rintro ee w2 ⟨rfl, rfl⟩))
  go_loopw [4] (fun i wr => ∃ k : Nat, 1 ≤ k ∧ k ≤ n ∧ i = .int .i64 k ∧ Hid (∀ i, i < k → i < n - 1 → 1 ≤ gv xs i ∧ (0 < i → gv xs i ≤ gv xs (i - 1))) ∧ ∃ q, wr = (w.alloc (.cells #[.int .i64 f, .slice (some ad) n c] 26)).drewN q) (fun i _ => n - (intOf i).toNat)
  case atStart => exact ⟨1, by omega, by omega, rfl, HB1.out, 0, rfl⟩
  case round =>
    obtain ⟨k, hk1', hk, rfl, HB, q, rfl⟩ := hrel
    by_cases hlt : k < n
    · obtain ⟨ad2, e2, hb3, kk⟩ := RdI.atG H.out (k := k) (by omega)
      cases e2
      obtain ⟨ad2, e2, hb6, kp⟩ := RdI.atG H.out (k := k - 1) (by omega)
      cases e2
      have hb4 : (ad.add k).block < w.heap.size := by rw [block_of_add]; exact hb
      have hb5 : (ad.add (k - 1)).block < w.heap.size := by rw [block_of_add]; exact hb
      have hk1 : ((k : Int) - 1) = ((k - 1 : Nat) : Int) := by omega
      have hlt' : (k : Int) < (n : Int) := by omega
      by_cases g3 : gv xs k ≤ gv xs (k - 1)
      · have g4 : decide (gv xs (k - 1) < gv xs k) = false := decide_eq_false (by omega)
        by_cases g2 : k < n - 1
        · have g5 : decide ((k : Int) < ((n - 1 : Nat) : Int)) = true := decide_eq_true (by omega)
          by_cases g1 : 1 ≤ gv xs k
          · have HB2 : Hid (∀ i, i < k + 1 → i < n - 1 → 1 ≤ gv xs i ∧ (0 < i → gv xs i ≤ gv xs (i - 1))) := fun i hi hi2 => by
              rcases Nat.lt_or_ge i k with h | h
              · exact HB.out i h hi2
              · obtain rfl : i = k := by omega
                exact ⟨g1, fun _ => g3⟩
            generalize gv xs k = Z at *
            generalize gv xs (k - 1) = Y at *
            have g6 : decide (Z < 1) = false := decide_eq_false (by omega)
            go_wp2_with fail
            go_quiet (fail)
            go_wp2
            go_roundw
            case rel => exact ⟨k + 1, by omega, by omega, by go_num, HB2.out, _, rfl⟩
            case measure => simp [intOf]; omega
          · have HQ := okT_f (f := f) (n := n) (xs := xs) (fun hh => g1 (HY.out hh k g2).1)
            generalize gv xs k = Z at *
            generalize gv xs (k - 1) = Y at *
            have g6 : decide (Z < 1) = true := decide_eq_true (by omega)
            go_wp2_with fail
            go_quiet (fail)
            go_wp2
            (go_returns; exact ⟨by rw [HQ.out]; rfl, by first | (go_grown; done) | exact below_drewN ((Below.refl _ _).alloc (Nat.le_refl _) _) _ | exact below_drewN (below_drewN ((Below.refl _ _).alloc (Nat.le_refl _) _) _) _⟩)
        · obtain rfl : k = n - 1 := by omega
          have g5 : decide (((n - 1 : Nat) : Int) < ((n - 1 : Nat) : Int)) = false := decide_eq_false (by omega)
          have HB2 : Hid (∀ i, i < n - 1 + 1 → i < n - 1 → 1 ≤ gv xs i ∧ (0 < i → gv xs i ≤ gv xs (i - 1))) := fun i hi hi2 => HB.out i hi2 hi2
          rw [H4.out] at kk g3 g4
          clear H4
          generalize gv xs (n - 1 - 1) = Y at *
          go_wp2_with fail
          go_quiet (fail)
          go_wp2
          go_roundw
          case rel => exact ⟨n - 1 + 1, by omega, by omega, by go_num, HB2.out, _, rfl⟩
          case measure => simp [intOf]; omega
      · have g4 : decide (gv xs (k - 1) < gv xs k) = true := decide_eq_true (by omega)
        have HQ := okT_f (f := f) (n := n) (xs := xs) (fun hh => by
          rcases Nat.lt_or_ge k (n - 1) with h | h
          · exact g3 ((HY.out hh k h).2 (by omega))
          · obtain rfl : k = n - 1 := by omega
            have := H4.out
            have := (HY.out hh (n - 1 - 1) (by omega)).1
            omega)
        clear H4
        generalize gv xs k = Z at *
        generalize gv xs (k - 1) = Y at *
        go_wp2_with fail
        go_quiet (fail)
        go_wp2
        (go_returns; exact ⟨by rw [HQ.out]; rfl, by first | (go_grown; done) | exact below_drewN ((Below.refl _ _).alloc (Nat.le_refl _) _) _ | exact below_drewN (below_drewN ((Below.refl _ _).alloc (Nat.le_refl _) _) _) _⟩)
    · have HQ := okT_y (HX.out (fun i hi => HB.out i (by omega) hi))
      go_wp2
      (go_returns; exact ⟨by rw [HQ.out]; rfl, by first | (go_grown; done) | exact below_drewN ((Below.refl _ _).alloc (Nat.le_refl _) _) _ | exact below_drewN (below_drewN ((Below.refl _ _).alloc (Nat.le_refl _) _) _) _⟩)
theorem sIsT_any (f : Int) (A : Option Addr) (n c : Nat) (xs : List Int) (w : World) (h : RdI w w.heap.size A n xs) (hc : n ≤ c) (hcm : c ≤ maxLen) (hn : n ≤ 1048576) : Calls Try.prog 55 #[.agg #[.int .i64 f, .slice A n c]] w fun e w' => e = .returned (.bool (okT f n xs)) ∧ Below w.heap.size w w' := by
  by_cases h2 : 2 ≤ n ∧ n ≤ 120
  · by_cases h1 : 0 ≤ f ∧ f ≤ 100
    · by_cases h3 : 1 ≤ gv xs 0 ∧ gv xs 0 ≤ 1000000
      · by_cases h4 : gv xs (n - 1) = 0
        · by_cases h5 : f + n - 1 ≤ 150
          · exact sIsT_in f A n c xs w h hc hcm h1 h2 h3 h4 h5
          · exact sIsT_5 f A n c xs w h hc hcm h1 h2 h3 h4 h5
        · exact sIsT_4 f A n c xs w h hc hcm h1 h2 h3 h4
      · exact sIsT_3 f A n c xs w h hc hcm h1 h2 h3
    · exact sIsT_f f A n c xs w h hc hcm h1 h2
  · exact sIsT_n f A n c xs w h hc hcm hn h2
end Go.Proofs.Ytmefjjamkebinaa
