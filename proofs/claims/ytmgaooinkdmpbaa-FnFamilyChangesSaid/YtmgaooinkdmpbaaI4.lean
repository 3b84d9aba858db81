/-
  Contracts of the functions of chapter 14: the end of the pensions.
-/
import Derived.Test.YtmgaooinkdmpbaaH4
set_option linter.unusedSimpArgs false
set_option linter.unusedVariables false
namespace Go.Proofs.Ytmgaooinkdmpbaa
open Go.RowKit
def endK (e : Int) : List Int → Int
  | [] => e
  | b :: t => endK (max e (b + 192)) t
theorem endK_app (xs ys : List Int) : ∀ e, endK e (xs ++ ys) = endK (endK e xs) ys := by
  induction xs with
  | nil => intro e; rfl
  | cons x xs ih => intro e; exact ih _
theorem endK_take {e z : Int} {xs : List Int} {k : Nat} (h : xs[k]? = some z) : endK e (xs.take (k + 1)) = max (endK e (xs.take k)) (z + 192) := by
  obtain ⟨hk, he⟩ := List.getElem?_eq_some_iff.1 h
  rw [List.take_succ_eq_append_getElem hk, endK_app, he]
  rfl
theorem endK_bd {e d : Int} {n : Nat} {xs : List Int} (hl : xs.length = n) (h : kidsP d n xs) (he : 0 ≤ e ∧ e ≤ 36000) : ∀ k, k ≤ n → 0 ≤ endK e (xs.take k) ∧ endK e (xs.take k) ≤ 40000 := by
  intro k
  induction k with
  | zero => intro _; simp [endK]; omega
  | succ k ih =>
    intro hk
    have hx : xs[k]? = some (xs[k]'(by omega)) := List.getElem?_eq_getElem (by omega)
    rw [endK_take hx]
    have h1 := ih (by omega)
    have h2 := (h k (by omega)).1
    rw [gv_at hx] at h2
    omega
noncomputable def epE (d lf : Int) (xs : List Int) : Int := endK (max (d + 1) lf) xs
noncomputable def epC (d m wd lf : Int) (n : Nat) (xs : List Int) : Int :=
  if famT d m wd lf n xs = true then (if wd ≠ -1 ∧ lf = -1 then 4 else (if inR 0 35999 (epE d lf xs) = true then 0 else 3)) else 1
noncomputable def epV (d m wd lf : Int) (n : Nat) (xs : List Int) : Int := if epC d m wd lf n xs = 0 then epE d lf xs else 0
theorem ep_1 {d m wd lf : Int} {n : Nat} {xs : List Int} (h : famT d m wd lf n xs = false) : Hid (epV d m wd lf n xs = 0 ∧ epC d m wd lf n xs = 1) := by
  have h1 : epC d m wd lf n xs = 1 := by unfold epC; rw [h]; rfl
  exact ⟨by unfold epV; rw [h1]; rfl, h1⟩
theorem ep_4 {d m wd lf : Int} {n : Nat} {xs : List Int} (h : famT d m wd lf n xs = true) (h2 : wd ≠ -1) (h3 : lf = -1) : Hid (epV d m wd lf n xs = 0 ∧ epC d m wd lf n xs = 4) := by
  have h1 : epC d m wd lf n xs = 4 := by unfold epC; rw [if_pos h, if_pos ⟨h2, h3⟩]
  exact ⟨by unfold epV; rw [h1]; rfl, h1⟩
theorem ep_3 {d m wd lf : Int} {n : Nat} {xs : List Int} (h : famT d m wd lf n xs = true) (h2 : wd = -1 ∨ lf ≠ -1) (h3 : inR 0 35999 (epE d lf xs) = false) : Hid (epV d m wd lf n xs = 0 ∧ epC d m wd lf n xs = 3) := by
  have h1 : epC d m wd lf n xs = 3 := by unfold epC; rw [if_pos h, if_neg (by rintro ⟨a, b⟩; rcases h2 with h2 | h2 <;> contradiction), if_neg (by simp [h3])]
  exact ⟨by unfold epV; rw [h1]; rfl, h1⟩
theorem ep_0 {d m wd lf : Int} {n : Nat} {xs : List Int} (h : famT d m wd lf n xs = true) (h2 : wd = -1 ∨ lf ≠ -1) (h3 : inR 0 35999 (epE d lf xs) = true) : Hid (epV d m wd lf n xs = epE d lf xs ∧ epC d m wd lf n xs = 0) := by
  have h1 : epC d m wd lf n xs = 0 := by unfold epC; rw [if_pos h, if_neg (by rintro ⟨a, b⟩; rcases h2 with h2 | h2 <;> contradiction), if_pos h3]
  exact ⟨by unfold epV; rw [if_pos h1], h1⟩
set_option maxHeartbeats 4000000 in
theorem iEnd_any (d m wd lf : Int) (A : Option Addr) (n c : Nat) (xs : List Int) (w : World) (h : RdI w w.heap.size A n xs) (hc : n ≤ c) (hcm : c ≤ maxLen) (hn : n ≤ 1048576) : Calls Try.prog 32 #[.agg #[.int .i64 d, .int .i64 m, .int .i64 wd, .int .i64 lf, .slice A n c]] w fun ee w' => ee = .returned (.tuple #[.int .i64 (epV d m wd lf n xs), .int .i64 (epC d m wd lf n xs)]) ∧ Below w.heap.size w w' := by
  have HA := fun W hR => iFam_any d m wd lf A n c xs W hR hc hcm hn
  have H := Lib.hid h
  have hl := h.len
  have hW := al_ w (.cells #[.int .i64 d, .int .i64 m, .int .i64 wd, .int .i64 lf, .slice A n c] 26)
  have a_0 : ((w.alloc (.cells #[.int .i64 d, .int .i64 m, .int .i64 wd, .int .i64 lf, .slice A n c] 26))).cell? ⟨w.heap.size, 0, none⟩ = some (.int .i64 d) := (by simp [go_sem]); have a_1 : ((w.alloc (.cells #[.int .i64 d, .int .i64 m, .int .i64 wd, .int .i64 lf, .slice A n c] 26))).cell? ⟨w.heap.size, 1, none⟩ = some (.int .i64 m) := (by simp [go_sem]); have a_2 : ((w.alloc (.cells #[.int .i64 d, .int .i64 m, .int .i64 wd, .int .i64 lf, .slice A n c] 26))).cell? ⟨w.heap.size, 2, none⟩ = some (.int .i64 wd) := (by simp [go_sem]); have a_3 : ((w.alloc (.cells #[.int .i64 d, .int .i64 m, .int .i64 wd, .int .i64 lf, .slice A n c] 26))).cell? ⟨w.heap.size, 3, none⟩ = some (.int .i64 lf) := (by simp [go_sem]); have a_4 : ((w.alloc (.cells #[.int .i64 d, .int .i64 m, .int .i64 wd, .int .i64 lf, .slice A n c] 26))).cell? ⟨w.heap.size, 4, none⟩ = some (.slice A n c) := (by simp [go_sem])
  cases hf : famT d m wd lf n xs with
  | false =>
    have HQ := ep_1 hf
    rw [hf] at HA
    have HA := Lib.hid HA
    clear h hf
    go_enter Try.func32, Try.ntmps32
    go_wp2_with (go_at_call 24; (with_reducible refine Calls.mono (HA.out _ (H.out.later hW)) ?_); rintro ee w1 ⟨rfl, hb1⟩; have hB1 := bel_step hW hb1)
    go_returns
    exact ⟨by rw [HQ.out.1, HQ.out.2]; rfl, hB1⟩
  | true =>
    have hp := famT_t.1 hf
    rw [hf] at HA
    have HA := Lib.hid HA
    have hd1 := hp.1
    have hlf := hp.2.2.2.1
    have hn12 := hp.2.2.2.2.1
    have HKb := Lib.hid (endK_bd (e := max (d + 1) lf) hl hp.2.2.2.2.2.2.2 (by omega))
    have HK := Lib.hid hp.2.2.2.2.2.2.2
    have hcase : (wd ≠ -1 ∧ lf = -1) ∨ (wd = -1 ∨ lf ≠ -1) := by omega
    rcases hcase with ⟨g1, g2⟩ | hcase
    · have HQ := ep_4 hf g1 g2
      rcases eqC wd (-1) with ⟨a1, a2, a3⟩ | ⟨a1, a2, a3⟩
      · exact absurd a3.out g1
      · rcases eqC lf (-1) with ⟨b1, b2, b3⟩ | ⟨b1, b2, b3⟩
        · clear h hf hp g1 g2 hlf hd1 hl
          go_enter Try.func32, Try.ntmps32
          go_wp2_with ((go_at_call 24; (with_reducible refine Calls.mono (HA.out _ (H.out.later hW)) ?_); rintro ee w1 ⟨rfl, hb1⟩; have hB1 := bel_step hW hb1); have b_0 := keepC hb1 a_0; have b_1 := keepC hb1 a_1; have b_2 := keepC hb1 a_2; have b_3 := keepC hb1 a_3; have b_4 := keepC hb1 a_4)
          go_returns
          exact ⟨by rw [HQ.out.1, HQ.out.2]; rfl, hB1⟩
        · exact absurd g2 b3.out
    · have HQ3 := Lib.hid (fun e => ep_3 hf hcase e)
      have HQ0 := Lib.hid (fun e => ep_0 hf hcase e)
      have HEE : Hid (epE d lf xs = endK (max (d + 1) lf) xs) := rfl
      have HMM := Lib.hid (fun W => isMonth_any (epE d lf xs) W)
      have hl := Lib.hid hl
      have hlf2 : -1 ≤ lf ∧ lf ≤ 35999 := by omega
      clear h hf hp hlf
      have key : ((wd == -1) = true ∧ (wd != -1) = false) ∨ ((wd == -1) = false ∧ (wd != -1) = true ∧ (lf == -1) = false ∧ (lf != -1) = true) := by
        rcases eqC wd (-1) with ⟨a1, a2, a3⟩ | ⟨a1, a2, a3⟩
        · exact .inl ⟨a1, a2⟩
        · rcases eqC lf (-1) with ⟨b1, b2, b3⟩ | ⟨b1, b2, b3⟩
          · have := a3.out; have := b3.out; omega
          · exact .inr ⟨a1, a2, b1, b2⟩
      clear hcase
      rcases key with ⟨a1, a2⟩ | ⟨a1, a2, b1, b2⟩
      all_goals
        go_enter Try.func32, Try.ntmps32
        go_wp2_with ((go_at_call 24; (with_reducible refine Calls.mono (HA.out _ (H.out.later hW)) ?_); rintro ee w1 ⟨rfl, hb1⟩; have hB1 := bel_step hW hb1); have b_0 := keepC hb1 a_0; have b_1 := keepC hb1 a_1; have b_2 := keepC hb1 a_2; have b_3 := keepC hb1 a_3; have b_4 := keepC hb1 a_4)
      all_goals
        go_loop [4, 29] (fun e i => ∃ k : Nat, k ≤ n ∧ i = .int .i64 k ∧ e = .int .i64 (endK (max (d + 1) lf) (xs.take k))) (fun _ i => n - (intOf i).toNat)
        case atStart => exact ⟨0, Nat.zero_le _, rfl, by show _ = Value.int .i64 (max (d + 1) lf); congr 1; omega⟩
        case round =>
          obtain ⟨k, hk, rfl, rfl⟩ := hrel
          have hb0 := HKb.out k hk
          by_cases hlt : k < n
          · obtain ⟨ad, z, rfl, hb, hz, hx1⟩ := RdI.atI (H.out.later hB1) hlt
            have HT := Lib.hid (endK_take (e := max (d + 1) lf) hz)
            have hkz := (HK.out k hlt).1
            rw [gv_at hz] at hkz
            clear hz
            generalize endK (max (d + 1) lf) (xs.take k) = e0 at *
            go_wp2
            all_goals
              go_round
              case rel => exact ⟨k + 1, by omega, by go_num, by rw [HT.out]; congr 1; omega⟩
              case measure => simp [intOf]; omega
          · have HE : Hid (xs.take k = xs) := List.take_of_length_le (by rw [hl.out]; omega)
            have HXX : Hid (epE d lf xs = endK (max (d + 1) lf) (xs.take k)) := by show _ = _; rw [HEE.out, HE.out]
            have HM2 := HMM.out
            rw [HXX.out] at HM2
            cases hq : inR 0 35999 (endK (max (d + 1) lf) (xs.take k)) with
            | true =>
              have HQ := HQ0.out (by rw [HXX.out]; exact hq)
              rw [hq] at HM2
              clear hq
              go_wp2_with (go_at_call 60; (with_reducible refine (HM2 _).mono ?_); rintro ee w9 ⟨rfl, rfl⟩)
              go_returns
              exact ⟨by rw [HQ.out.1, HQ.out.2, HXX.out]; rfl, hB1⟩
            | false =>
              have HQ := HQ3.out (by rw [HXX.out]; exact hq)
              rw [hq] at HM2
              clear hq
              go_wp2_with (go_at_call 60; (with_reducible refine (HM2 _).mono ?_); rintro ee w9 ⟨rfl, rfl⟩)
              go_returns
              exact ⟨by rw [HQ.out.1, HQ.out.2]; rfl, hB1⟩
set_option maxHeartbeats 4000000 in
theorem sEnd_any (d m wd lf : Int) (A : Option Addr) (n c : Nat) (xs : List Int) (w : World) (h : RdI w w.heap.size A n xs) (hc : n ≤ c) (hcm : c ≤ maxLen) (hn : n ≤ 1048576) : Calls Try.prog 33 #[.agg #[.int .i64 d, .int .i64 m, .int .i64 wd, .int .i64 lf, .slice A n c]] w fun ee w' => ee = .returned (.tuple #[.int .i64 (epV d m wd lf n xs), .int .i64 (epC d m wd lf n xs)]) ∧ Below w.heap.size w w' := by
  have HA := fun W hR => sFam_any d m wd lf A n c xs W hR hc hcm hn
  have H := Lib.hid h
  have hl := h.len
  have hW := al_ w (.cells #[.int .i64 d, .int .i64 m, .int .i64 wd, .int .i64 lf, .slice A n c] 26)
  have a_0 : ((w.alloc (.cells #[.int .i64 d, .int .i64 m, .int .i64 wd, .int .i64 lf, .slice A n c] 26))).cell? ⟨w.heap.size, 0, none⟩ = some (.int .i64 d) := (by simp [go_sem]); have a_1 : ((w.alloc (.cells #[.int .i64 d, .int .i64 m, .int .i64 wd, .int .i64 lf, .slice A n c] 26))).cell? ⟨w.heap.size, 1, none⟩ = some (.int .i64 m) := (by simp [go_sem]); have a_2 : ((w.alloc (.cells #[.int .i64 d, .int .i64 m, .int .i64 wd, .int .i64 lf, .slice A n c] 26))).cell? ⟨w.heap.size, 2, none⟩ = some (.int .i64 wd) := (by simp [go_sem]); have a_3 : ((w.alloc (.cells #[.int .i64 d, .int .i64 m, .int .i64 wd, .int .i64 lf, .slice A n c] 26))).cell? ⟨w.heap.size, 3, none⟩ = some (.int .i64 lf) := (by simp [go_sem]); have a_4 : ((w.alloc (.cells #[.int .i64 d, .int .i64 m, .int .i64 wd, .int .i64 lf, .slice A n c] 26))).cell? ⟨w.heap.size, 4, none⟩ = some (.slice A n c) := (by simp [go_sem])
  cases hf : famT d m wd lf n xs with
  | false =>
    have HQ := ep_1 hf
    rw [hf] at HA
    have HA := Lib.hid HA
    clear h hf
    go_enter Try.func33, Try.ntmps33
    go_wp2_with (go_at_call 25; (with_reducible refine Calls.mono (HA.out _ (H.out.later hW)) ?_); rintro ee w1 ⟨rfl, hb1⟩; have hB1 := bel_step hW hb1)
    go_returns
    exact ⟨by rw [HQ.out.1, HQ.out.2]; rfl, hB1⟩
  | true =>
    have hp := famT_t.1 hf
    rw [hf] at HA
    have HA := Lib.hid HA
    have hd1 := hp.1
    have hlf := hp.2.2.2.1
    have hn12 := hp.2.2.2.2.1
    have HKb := Lib.hid (endK_bd (e := max (d + 1) lf) hl hp.2.2.2.2.2.2.2 (by omega))
    have HK := Lib.hid hp.2.2.2.2.2.2.2
    have hcase : (wd ≠ -1 ∧ lf = -1) ∨ (wd = -1 ∨ lf ≠ -1) := by omega
    rcases hcase with ⟨g1, g2⟩ | hcase
    · have HQ := ep_4 hf g1 g2
      rcases eqC wd (-1) with ⟨a1, a2, a3⟩ | ⟨a1, a2, a3⟩
      · exact absurd a3.out g1
      · rcases eqC lf (-1) with ⟨b1, b2, b3⟩ | ⟨b1, b2, b3⟩
        · clear h hf hp g1 g2 hlf hd1 hl
          go_enter Try.func33, Try.ntmps33
          go_wp2_with ((go_at_call 25; (with_reducible refine Calls.mono (HA.out _ (H.out.later hW)) ?_); rintro ee w1 ⟨rfl, hb1⟩; have hB1 := bel_step hW hb1); have b_0 := keepC hb1 a_0; have b_1 := keepC hb1 a_1; have b_2 := keepC hb1 a_2; have b_3 := keepC hb1 a_3; have b_4 := keepC hb1 a_4)
          go_returns
          exact ⟨by rw [HQ.out.1, HQ.out.2]; rfl, hB1⟩
        · exact absurd g2 b3.out
    · have HQ3 := Lib.hid (fun e => ep_3 hf hcase e)
      have HQ0 := Lib.hid (fun e => ep_0 hf hcase e)
      have HEE : Hid (epE d lf xs = endK (max (d + 1) lf) xs) := rfl
      have HMM := Lib.hid (fun W => l02Month_any (epE d lf xs) W)
      have hl := Lib.hid hl
      have hlf2 : -1 ≤ lf ∧ lf ≤ 35999 := by omega
      clear h hf hp hlf
      have key : ((wd == -1) = true ∧ (wd != -1) = false) ∨ ((wd == -1) = false ∧ (wd != -1) = true ∧ (lf == -1) = false ∧ (lf != -1) = true) := by
        rcases eqC wd (-1) with ⟨a1, a2, a3⟩ | ⟨a1, a2, a3⟩
        · exact .inl ⟨a1, a2⟩
        · rcases eqC lf (-1) with ⟨b1, b2, b3⟩ | ⟨b1, b2, b3⟩
          · have := a3.out; have := b3.out; omega
          · exact .inr ⟨a1, a2, b1, b2⟩
      clear hcase
      rcases key with ⟨a1, a2⟩ | ⟨a1, a2, b1, b2⟩
      all_goals
        go_enter Try.func33, Try.ntmps33
        go_wp2_with ((go_at_call 25; (with_reducible refine Calls.mono (HA.out _ (H.out.later hW)) ?_); rintro ee w1 ⟨rfl, hb1⟩; have hB1 := bel_step hW hb1); have b_0 := keepC hb1 a_0; have b_1 := keepC hb1 a_1; have b_2 := keepC hb1 a_2; have b_3 := keepC hb1 a_3; have b_4 := keepC hb1 a_4)
      all_goals
        go_loop [4, 5] (fun e i => ∃ k : Nat, k ≤ n ∧ i = .int .i64 k ∧ e = .int .i64 (endK (max (d + 1) lf) (xs.take k))) (fun _ i => n - (intOf i).toNat)
        case atStart => exact ⟨0, Nat.zero_le _, rfl, by show _ = Value.int .i64 (max (d + 1) lf); congr 1; omega⟩
        case round =>
          obtain ⟨k, hk, rfl, rfl⟩ := hrel
          have hb0 := HKb.out k hk
          by_cases hlt : k < n
          · obtain ⟨ad, z, rfl, hb, hz, hx1⟩ := RdI.atI (H.out.later hB1) hlt
            have HT := Lib.hid (endK_take (e := max (d + 1) lf) hz)
            have hkz := (HK.out k hlt).1
            rw [gv_at hz] at hkz
            clear hz
            generalize endK (max (d + 1) lf) (xs.take k) = e0 at *
            go_wp2
            all_goals
              go_round
              case rel => exact ⟨k + 1, by omega, by go_num, by rw [HT.out]; congr 1; omega⟩
              case measure => simp [intOf]; omega
          · have HE : Hid (xs.take k = xs) := List.take_of_length_le (by rw [hl.out]; omega)
            have HXX : Hid (epE d lf xs = endK (max (d + 1) lf) (xs.take k)) := by show _ = _; rw [HEE.out, HE.out]
            have HM2 := HMM.out
            rw [HXX.out] at HM2
            cases hq : inR 0 35999 (endK (max (d + 1) lf) (xs.take k)) with
            | true =>
              have HQ := HQ0.out (by rw [HXX.out]; exact hq)
              rw [hq] at HM2
              clear hq
              go_wp2_with (go_at_call 38; (with_reducible refine (HM2 _).mono ?_); rintro ee w9 ⟨rfl, rfl⟩)
              go_returns
              exact ⟨by rw [HQ.out.1, HQ.out.2, HXX.out]; rfl, hB1⟩
            | false =>
              have HQ := HQ3.out (by rw [HXX.out]; exact hq)
              rw [hq] at HM2
              clear hq
              go_wp2_with (go_at_call 38; (with_reducible refine (HM2 _).mono ?_); rintro ee w9 ⟨rfl, rfl⟩)
              go_returns
              exact ⟨by rw [HQ.out.1, HQ.out.2]; rfl, hB1⟩
end Go.Proofs.Ytmgaooinkdmpbaa
