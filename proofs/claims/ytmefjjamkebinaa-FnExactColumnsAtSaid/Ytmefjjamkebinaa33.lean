/-
  Contracts of the columns, the reference's side, and of the codes.
-/
import Derived.Test.Ytmefjjamkebinaa32
import Derived.Test.YtmefjjamkebinaaR3
import Derived.Test.YtmefjjamkebinaaQ
set_option linter.unusedSimpArgs false
set_option linter.unusedVariables false
namespace Go.Proofs.Ytmefjjamkebinaa
open Go.RowKit
theorem lv_age {f : Int} {n : Nat} {xs : List Int} {age : Int} {k : Nat} (hk : age - f = (k : Int)) : lv f n xs age = lv f n xs (f + k) := by rw [show age = f + k by omega]
set_option maxHeartbeats 1000000 in
theorem sD_any (f : Int) (A : Option Addr) (n c : Nat) (xs : List Int) (r age : Int) (k : Nat) (w : World) (h : RdI w w.heap.size A n xs) (hT : okTP f n xs) (hr : 0 ≤ r ∧ r ≤ 200) (hk : age - f = (k : Int)) (h150 : age ≤ 150) : Calls Try.prog 49 #[.agg #[.int .i64 f, .slice A n c], .int .i64 r, .int .i64 age] w fun e w' => e = .returned (.int .i64 (cD f n xs r k)) ∧ Below w.heap.size w w' := by
  have hf := hT.1
  have hL := fun W (hB : Below w.heap.size w W) => sLives_any f A n c xs age W ((h.below hB).more hB.size) hT.1 hT.2.1.2 ⟨by omega, by omega⟩
  have HQ := Lib.hid (fun W => sDisc_any r k W hr (by omega))
  have v1 := lv_bd hT (age := age) (by omega)
  have v2 := dsc_bd hr k
  have q1 := IntWalk.i64_in (age - f) (by omega)
  have hcase : (120 < k ∧ Hid (cD f n xs r k = 0)) ∨ (k ≤ 120 ∧ Hid (cD f n xs r k = lv f n xs age * dsc r k)) := by
    rw [lv_age hk]
    unfold cD
    rcases Nat.lt_or_ge 120 k with h1 | h1
    · exact .inl ⟨h1, (by show _ = _; rw [if_neg (by omega)])⟩
    · exact .inr ⟨h1, (by show _ = _; rw [if_pos (by omega)])⟩
  have m1 := mul_bd15 v1 v2
  generalize cD f n xs r k = D at *
  generalize lv f n xs age = L at *
  generalize dsc r k = d at *
  have HL := Lib.hid hL
  have q2 := IntWalk.i64_in (L * d) (by omega)
  have BB := Lib.hid (Blk.new w 26 #[.int .i64 f, .slice A n c])
  have hB : Below w.heap.size w (w.alloc (.cells #[.int .i64 f, .slice A n c] 26)) := al_ _ _
  clear h hT hL
  rcases hcase with ⟨hc, e⟩ | ⟨hc, e⟩
  · go_enter Try.func49, Try.ntmps49
    go_wp2_with fail
    go_returns
    exact ⟨by rw [e.out]; rfl, hB⟩
  · have h0 : (L == 0) = true ∨ (L == 0) = false := by cases (L == 0) <;> simp
    rcases h0 with h0 | h0
    · have e2 : Hid (D = 0) := by have h1 := e.out; have h2 := eq_of_beq h0; rw [h2, Int.zero_mul] at h1; exact h1
      go_enter Try.func49, Try.ntmps49
      go_wp2_with (go_at_call 56; (with_reducible refine Calls.mono (HL.out _ hB) ?_); rintro ee wz ⟨rfl, hb⟩; replace hB := bel_step hB hb; replace BB := Lib.hid (blk_later BB.out hb); (try clear c0 c1); obtain ⟨c0, c1, -⟩ := cT2 BB.out; have hlB := BB.out.lt; clear hb)
      go_returns
      exact ⟨by rw [e2.out]; rfl, hB⟩
    · go_enter Try.func49, Try.ntmps49
      go_wp2_with (first | (go_at_call 56; (with_reducible refine Calls.mono (HL.out _ hB) ?_); rintro ee wz ⟨rfl, hb⟩; replace hB := bel_step hB hb; replace BB := Lib.hid (blk_later BB.out hb); (try clear c0 c1); obtain ⟨c0, c1, -⟩ := cT2 BB.out; have hlB := BB.out.lt; clear hb) | (go_at_call 64; (with_reducible refine Calls.mono (HQ.out _) ?_); rintro ee wz ⟨rfl, rfl⟩))
      go_returns
      exact ⟨by rw [e.out]; rfl, hB⟩
set_option maxHeartbeats 1000000 in
set_option maxRecDepth 100000 in
theorem sC_any (f : Int) (A : Option Addr) (n c : Nat) (xs : List Int) (r age : Int) (k : Nat) (w : World) (h : RdI w w.heap.size A n xs) (hT : okTP f n xs) (hr : 0 ≤ r ∧ r ≤ 200) (hk : age - f = (k : Int)) (h150 : age ≤ 150) : Calls Try.prog 51 #[.agg #[.int .i64 f, .slice A n c], .int .i64 r, .int .i64 age] w fun e w' => e = .returned (.int .i64 (cC f n xs r k)) ∧ Below w.heap.size w w' := by
  have hf := hT.1
  have hL := fun W (hB : Below w.heap.size w W) => sLives_any f A n c xs age W ((h.below hB).more hB.size) hT.1 hT.2.1.2 ⟨by omega, by omega⟩
  have hL2 := fun W (hB : Below w.heap.size w W) => sLives_any f A n c xs (age + 1) W ((h.below hB).more hB.size) hT.1 hT.2.1.2 ⟨by omega, by omega⟩
  have hQ : k + 1 ≤ 120 → ∀ W, Calls Try.prog 64 #[.int .i64 r, .int .i64 ((k : Int) + 1)] W fun e w' => e = .returned (.int .i64 (dsc r (k + 1))) ∧ W = w' := fun h W => sDisc_any r (k + 1) W hr (by omega)
  have v1 := lv_bd hT (age := age) (by omega)
  have v2 := lv_bd hT (age := age + 1) (by omega)
  have v3 := lv_dn hT (x := age) (by omega)
  have v4 := dsc_bd hr (k + 1)
  have q1 := IntWalk.i64_in (age - f) (by omega)
  have q3 := IntWalk.i64_in (age + 1) (by omega)
  have q4 := IntWalk.i64_in ((k : Int) + 1) (by omega)
  have hcase : (120 < k + 1 ∧ Hid (cC f n xs r k = 0)) ∨ (k + 1 ≤ 120 ∧ Hid (cC f n xs r k = (lv f n xs age - lv f n xs (age + 1)) * dsc r (k + 1))) := by
    rw [lv_age hk, show age + 1 = f + k + 1 by omega]
    unfold cC
    rcases Nat.lt_or_ge 120 (k + 1) with h1 | h1
    · exact .inl ⟨h1, (by show _ = _; rw [if_neg (by omega)])⟩
    · exact .inr ⟨h1, (by show _ = _; rw [if_pos (by omega)])⟩
  have m1 := mul_bd15 (a := lv f n xs age - lv f n xs (age + 1)) (by omega) v4
  generalize cC f n xs r k = D at *
  generalize lv f n xs age = L at *
  generalize lv f n xs (age + 1) = L' at *
  generalize dsc r (k + 1) = d at *
  have q5 := IntWalk.i64_in (L - L') (by omega)
  have HL := Lib.hid hL
  have HL2 := Lib.hid hL2
  have q2 := IntWalk.i64_in ((L - L') * d) (by omega)
  obtain ⟨W0, hW0⟩ : ∃ W0 : World, W0 = w.alloc (.cells #[.int .i64 f, .slice A n c] 26) := ⟨_, rfl⟩
  have BB := Lib.hid (Blk.new w 26 #[.int .i64 f, .slice A n c])
  have hB : Below w.heap.size w (w.alloc (.cells #[.int .i64 f, .slice A n c] 26)) := al_ _ _
  rw [← hW0] at hB BB
  obtain ⟨c0, c1, -⟩ := cT2 BB.out
  have x0 := fun X : InC W0 => X.cell c0
  have x1 := fun X : InC W0 => X.cell c1
  have hlB := BB.out.lt
  clear h hT hL hL2 c0 c1
  have HQ := Lib.hid hQ
  clear hQ
  replace hW0 := Lib.hid hW0
  go_enter Try.func51, Try.ntmps51
  go_upto_region 2 with fail
  rw [← hW0.out]
  clear hW0
  (refine wp_region_inC (by kernel_rfl) (by kernel_rfl) ?_; (repeat go_big_quiet_step ((first | (go_at_call 56; with_reducible exact Calls.inC (HL.out _ (bel_step hB (InC.h _)))) | (go_at_call 56; with_reducible exact Calls.inC (HL2.out _ (bel_step hB (InC.h _))))))); refine wpQuiet_nil ?_; rintro w1 ⟨⟨_, hb⟩, rfl⟩)
  replace hB := bel_step hB hb
  clear x0 x1 HL HL2 BB hb hlB
  rcases hcase with ⟨hc, e⟩ | ⟨hc, e⟩
  · go_wp2_with fail
    go_returns
    exact ⟨by rw [e.out]; rfl, hB⟩
  · have h0 : (L - L' == 0) = true ∨ (L - L' == 0) = false := by cases (L - L' == 0) <;> simp
    have HQ2 := HQ.out hc
    rcases h0 with h0 | h0
    · have e2 : Hid (D = 0) := by have h1 := e.out; have h2 := eq_of_beq h0; rw [h2, Int.zero_mul] at h1; exact h1
      go_wp2_with fail
      go_returns
      exact ⟨by rw [e2.out]; rfl, hB⟩
    · have HQ3 := Lib.hid HQ2
      clear HQ2
      go_wp2_with (go_at_call 64; (with_reducible refine Calls.mono (HQ3.out _) ?_); rintro ee wz ⟨rfl, rfl⟩)
      go_returns
      exact ⟨by rw [e.out]; rfl, hB⟩
theorem cD_end {f : Int} {n : Nat} {xs : List Int} {r : Int} (h : okTP f n xs) {k : Nat} (hk : n - 1 ≤ k) : cD f n xs r k = 0 := by
  have h0 : lv f n xs (f + k) = 0 := by
    by_cases h1 : f + k < f + n
    · have e1 : lv f n xs (f + k) = gv xs (f + k - f).toNat := if_pos h1
      rw [e1, show (f + k - f).toNat = n - 1 by omega]
      exact h.2.2.2.1
    · exact if_neg h1
  unfold cD
  rw [h0, Int.zero_mul]
  split <;> rfl
theorem cC_end {f : Int} {n : Nat} {xs : List Int} {r : Int} (h : okTP f n xs) {k : Nat} (hk : n - 1 ≤ k) : cC f n xs r k = 0 := by
  have h0 : lv f n xs (f + k) = 0 := by
    by_cases h1 : f + k < f + n
    · have e1 : lv f n xs (f + k) = gv xs (f + k - f).toNat := if_pos h1
      rw [e1, show (f + k - f).toNat = n - 1 by omega]
      exact h.2.2.2.1
    · exact if_neg h1
  have h2 : lv f n xs (f + k + 1) = 0 := if_neg (by omega)
  unfold cC
  rw [h0, h2, Int.sub_zero, Int.zero_mul]
  split <;> rfl
set_option maxHeartbeats 1000000 in
set_option maxRecDepth 100000 in
theorem sN_any (f : Int) (A : Option Addr) (n c : Nat) (xs : List Int) (r age : Int) (k : Nat) (w : World) (h : RdI w w.heap.size A n xs) (hT : okTP f n xs) (hr : 0 ≤ r ∧ r ≤ 200) (hk : age - f = (k : Int)) (h150 : age ≤ 150) (M : Nat) (hM : f = 151 - (M : Int)) : Calls Try.prog 50 #[.agg #[.int .i64 f, .slice A n c], .int .i64 r, .int .i64 age] w fun e w' => e = .returned (.int .i64 (sumF (cD f n xs r) (M - k) k)) ∧ Below w.heap.size w w' := by
  have hf := hT.1
  have hn := hT.2.1
  have hn5 := hT.2.2.2.2.1
  have HE := Lib.hid (fun W (hB : Below w.heap.size w W) => sEnd_any f A n c W hf (by omega))
  have HS := Lib.hid (fun (j : Nat) (z : Int) (e : z - f = (j : Int)) (hz : z ≤ 150) W (hB : Below w.heap.size w W) => sD_any f A n c xs r z j W ((h.below hB).more hB.size) hT hr e hz)
  have HZ := Lib.hid (fun (j : Nat) (hj : n - 1 ≤ j) => sumF_zero (g := cD f n xs r) (M - j) j (fun i h1 h2 => cD_end hT (by omega)))
  have bs := sumF_bd (fun i => cD_bd hT hr i) (M - k) k
  have HB := Lib.hid (fun j => sumF_bd (fun i => cD_bd hT hr i) (M - j) j)
  have HD := Lib.hid (fun j => cD_bd hT hr j)
  have HU : Hid (∀ j, j + 1 ≤ M → sumF (cD f n xs r) (M - j) j = cD f n xs r j + sumF (cD f n xs r) (M - (j + 1)) (j + 1)) := Lib.hid (fun j hj => by rw [show M - j = (M - (j + 1)) + 1 by omega]; rfl)
  have hS1 : sumF (cD f n xs r) (M - k) k ≤ 151000000000000000 := by
    have : ((M - k : Nat) : Int) * 1000000000000000 ≤ 151 * 1000000000000000 := by omega
    omega
  obtain ⟨S, hS⟩ : ∃ S, sumF (cD f n xs r) (M - k) k = S := ⟨_, rfl⟩
  rw [hS] at hS1 bs ⊢
  replace hS := Lib.hid hS
  replace hM := Lib.hid hM
  have BB := Lib.hid (Blk.new w 26 #[.int .i64 f, .slice A n c])
  have hB : Below w.heap.size w (w.alloc (.cells #[.int .i64 f, .slice A n c] 26)) := al_ _ _
  clear h hT bs
  go_enter Try.func50, Try.ntmps50
  go_wp2_with fail
  go_loopw [7, 8] (fun a x wr => ∃ (j : Nat) (s z : Int), a = .int .i64 s ∧ x = .int .i64 z ∧ z - f = (j : Int) ∧ z ≤ 150 ∧ Hid (s + sumF (cD f n xs r) (M - j) j = S) ∧ 0 ≤ s ∧ Below w.heap.size w wr ∧ Hid (Blk wr w.heap.size 26 #[.int .i64 f, .slice A n c])) (fun _ x _ => (150 - intOf x).toNat)
  case atStart => exact ⟨k, 0, age, rfl, rfl, hk, h150, by rw [Int.zero_add]; exact hS, Int.le_refl _, hB, BB⟩
  case round =>
    clear hB BB
    obtain ⟨j, s, z, rfl, rfl, hj, hz, hs, hs0, hB, BB⟩ := hrel
    obtain ⟨c0, c1, -⟩ := cT2 BB.out
    have hlB := BB.out.lt
    by_cases hlt : z < f + n - 1
    · have hd := HD.out j
      have hb2 := HB.out (j + 1)
      have hu := HU.out j (by have := hM.out; omega)
      have hs1 := hs.out
      rw [hu] at hs1
      have hs2 : s + cD f n xs r j + sumF (cD f n xs r) (M - (j + 1)) (j + 1) = S := by omega
      have hs3 : 0 ≤ s + cD f n xs r j ∧ s + cD f n xs r j ≤ 151000000000000000 := by omega
      have HS2 := Lib.hid (fun W hB => HS.out j z hj hz W hB)
      replace hs2 := Lib.hid hs2
      have q1 := IntWalk.i64_in (s + cD f n xs r j) (by omega)
      have q2 := IntWalk.i64_in (z + 1) (by omega)
      clear hu hs1 hs hd hb2
      generalize cD f n xs r j = D at *
      have hlt2 := decide_eq_true hlt
      go_wp2_with (first | (go_at_call 65; (with_reducible refine Calls.mono (HE.out _ hB) ?_); rintro ee wz ⟨rfl, hb⟩; replace hB := bel_step hB hb; replace BB := Lib.hid (blk_later BB.out hb); (try clear c0 c1); obtain ⟨c0, c1, -⟩ := cT2 BB.out; have hlB := BB.out.lt; clear hb) | (go_at_call 49; (with_reducible refine Calls.mono (HS2.out _ hB) ?_); rintro ee wz ⟨rfl, hb⟩; replace hB := bel_step hB hb; replace BB := Lib.hid (blk_later BB.out hb); (try clear c0 c1); obtain ⟨c0, c1, -⟩ := cT2 BB.out; have hlB := BB.out.lt; clear hb))
      go_roundw
      case rel => exact ⟨j + 1, s + D, z + 1, rfl, rfl, by omega, by omega, hs2, hs3.1, hB, BB⟩
      case measure => simp [intOf]; omega
    · have hz0 := HZ.out j (by omega)
      have hs1 := hs.out
      rw [hz0, Int.add_zero] at hs1
      replace hs1 := Lib.hid hs1
      clear hz0 hs
      go_wp2_with (go_at_call 65; (with_reducible refine Calls.mono (HE.out _ hB) ?_); rintro ee wz ⟨rfl, hb⟩; replace hB := bel_step hB hb; replace BB := Lib.hid (blk_later BB.out hb); (try clear c0 c1); obtain ⟨c0, c1, -⟩ := cT2 BB.out; have hlB := BB.out.lt; clear hb)
      go_returns
      exact ⟨by rw [← hs1.out]; rfl, hB⟩
set_option maxHeartbeats 1000000 in
set_option maxRecDepth 100000 in
theorem sM_any (f : Int) (A : Option Addr) (n c : Nat) (xs : List Int) (r age : Int) (k : Nat) (w : World) (h : RdI w w.heap.size A n xs) (hT : okTP f n xs) (hr : 0 ≤ r ∧ r ≤ 200) (hk : age - f = (k : Int)) (h150 : age ≤ 150) (M : Nat) (hM : f = 151 - (M : Int)) : Calls Try.prog 52 #[.agg #[.int .i64 f, .slice A n c], .int .i64 r, .int .i64 age] w fun e w' => e = .returned (.int .i64 (sumF (cC f n xs r) (M - k) k)) ∧ Below w.heap.size w w' := by
  have hf := hT.1
  have hn := hT.2.1
  have hn5 := hT.2.2.2.2.1
  have HE := Lib.hid (fun W (hB : Below w.heap.size w W) => sEnd_any f A n c W hf (by omega))
  have HS := Lib.hid (fun (j : Nat) (z : Int) (e : z - f = (j : Int)) (hz : z ≤ 150) W (hB : Below w.heap.size w W) => sC_any f A n c xs r z j W ((h.below hB).more hB.size) hT hr e hz)
  have HZ := Lib.hid (fun (j : Nat) (hj : n - 1 ≤ j) => sumF_zero (g := cC f n xs r) (M - j) j (fun i h1 h2 => cC_end hT (by omega)))
  have bs := sumF_bd (fun i => cC_bd hT hr i) (M - k) k
  have HB := Lib.hid (fun j => sumF_bd (fun i => cC_bd hT hr i) (M - j) j)
  have HD := Lib.hid (fun j => cC_bd hT hr j)
  have HU : Hid (∀ j, j + 1 ≤ M → sumF (cC f n xs r) (M - j) j = cC f n xs r j + sumF (cC f n xs r) (M - (j + 1)) (j + 1)) := Lib.hid (fun j hj => by rw [show M - j = (M - (j + 1)) + 1 by omega]; rfl)
  have hS1 : sumF (cC f n xs r) (M - k) k ≤ 151000000000000000 := by
    have : ((M - k : Nat) : Int) * 1000000000000000 ≤ 151 * 1000000000000000 := by omega
    omega
  obtain ⟨S, hS⟩ : ∃ S, sumF (cC f n xs r) (M - k) k = S := ⟨_, rfl⟩
  rw [hS] at hS1 bs ⊢
  replace hS := Lib.hid hS
  replace hM := Lib.hid hM
  have BB := Lib.hid (Blk.new w 26 #[.int .i64 f, .slice A n c])
  have hB : Below w.heap.size w (w.alloc (.cells #[.int .i64 f, .slice A n c] 26)) := al_ _ _
  clear h hT bs
  go_enter Try.func52, Try.ntmps52
  go_wp2_with fail
  go_loopw [7, 8] (fun a x wr => ∃ (j : Nat) (s z : Int), a = .int .i64 s ∧ x = .int .i64 z ∧ z - f = (j : Int) ∧ z ≤ 150 ∧ Hid (s + sumF (cC f n xs r) (M - j) j = S) ∧ 0 ≤ s ∧ Below w.heap.size w wr ∧ Hid (Blk wr w.heap.size 26 #[.int .i64 f, .slice A n c])) (fun _ x _ => (150 - intOf x).toNat)
  case atStart => exact ⟨k, 0, age, rfl, rfl, hk, h150, by rw [Int.zero_add]; exact hS, Int.le_refl _, hB, BB⟩
  case round =>
    clear hB BB
    obtain ⟨j, s, z, rfl, rfl, hj, hz, hs, hs0, hB, BB⟩ := hrel
    obtain ⟨c0, c1, -⟩ := cT2 BB.out
    have hlB := BB.out.lt
    by_cases hlt : z < f + n - 1
    · have hd := HD.out j
      have hb2 := HB.out (j + 1)
      have hu := HU.out j (by have := hM.out; omega)
      have hs1 := hs.out
      rw [hu] at hs1
      have hs2 : s + cC f n xs r j + sumF (cC f n xs r) (M - (j + 1)) (j + 1) = S := by omega
      have hs3 : 0 ≤ s + cC f n xs r j ∧ s + cC f n xs r j ≤ 151000000000000000 := by omega
      have HS2 := Lib.hid (fun W hB => HS.out j z hj hz W hB)
      replace hs2 := Lib.hid hs2
      have q1 := IntWalk.i64_in (s + cC f n xs r j) (by omega)
      have q2 := IntWalk.i64_in (z + 1) (by omega)
      clear hu hs1 hs hd hb2
      generalize cC f n xs r j = D at *
      have hlt2 := decide_eq_true hlt
      go_wp2_with (first | (go_at_call 65; (with_reducible refine Calls.mono (HE.out _ hB) ?_); rintro ee wz ⟨rfl, hb⟩; replace hB := bel_step hB hb; replace BB := Lib.hid (blk_later BB.out hb); (try clear c0 c1); obtain ⟨c0, c1, -⟩ := cT2 BB.out; have hlB := BB.out.lt; clear hb) | (go_at_call 51; (with_reducible refine Calls.mono (HS2.out _ hB) ?_); rintro ee wz ⟨rfl, hb⟩; replace hB := bel_step hB hb; replace BB := Lib.hid (blk_later BB.out hb); (try clear c0 c1); obtain ⟨c0, c1, -⟩ := cT2 BB.out; have hlB := BB.out.lt; clear hb))
      go_roundw
      case rel => exact ⟨j + 1, s + D, z + 1, rfl, rfl, by omega, by omega, hs2, hs3.1, hB, BB⟩
      case measure => simp [intOf]; omega
    · have hz0 := HZ.out j (by omega)
      have hs1 := hs.out
      rw [hz0, Int.add_zero] at hs1
      replace hs1 := Lib.hid hs1
      clear hz0 hs
      go_wp2_with (go_at_call 65; (with_reducible refine Calls.mono (HE.out _ hB) ?_); rintro ee wz ⟨rfl, hb⟩; replace hB := bel_step hB hb; replace BB := Lib.hid (blk_later BB.out hb); (try clear c0 c1); obtain ⟨c0, c1, -⟩ := cT2 BB.out; have hlB := BB.out.lt; clear hb)
      go_returns
      exact ⟨by rw [← hs1.out]; rfl, hB⟩
end Go.Proofs.Ytmefjjamkebinaa
