/-
  The walk of a law of chapter 16, FnArrears: the law returns true and turns nothing that was there. No condition.
-/
import Derived.Test.YtnklpdckclgilaaI16
import Derived.Test.YtnklpdckclgilaaQ16
import Derived.Test.Ytnklpdckclgilaa04
set_option linter.unusedSimpArgs false
set_option linter.unusedVariables false
namespace Go.Proofs.Ytnklpdckclgilaa
open Go.ChangeShapes Go.WideShapes Go.ChangeAt Go.RowKit Go.Deep
theorem worF_max {j cb m s : Int} {xs : List (Int × Int)} (h1 : inR 0 35999 j = true) (h2 : inR 1 1000000 cb = true) (h3 : inR j 35999 m = true) (h4 : areP j xs = true) : ∀ k : Nat, 0 < k → j + (k : Int) ≤ m + 1 → (∃ i : Nat, i < k ∧ worF j cb xs s k = (arrL j cb (j + (i : Int)) xs, j + (i : Int))) ∧ ∀ i : Nat, i < k → arrL j cb (j + (i : Int)) xs ≤ (worF j cb xs s k).1 := by
  intro k
  have h3' := inR_iff.1 h3
  induction k with
  | zero => intro h; omega
  | succ k ih =>
    intro _ hk
    have h6 := arrL_bd (m := j + (k : Int)) h1 h2 (inR_iff.2 (by omega)) h4
    by_cases h0 : k = 0
    · subst h0
      have e : worF j cb xs s (0 + 1) = (arrL j cb (j + ((0 : Nat) : Int)) xs, j + ((0 : Nat) : Int)) := if_pos (show (-1 : Int) < arrL j cb (j + ((0 : Nat) : Int)) xs by omega)
      rw [e]
      exact ⟨⟨0, by omega, rfl⟩, fun i hi => by (obtain rfl : i = 0 := (by omega)); exact Int.le_refl _⟩
    · obtain ⟨⟨i0, hi0, e0⟩, hmax⟩ := ih (by omega) (by omega)
      by_cases hq : (worF j cb xs s k).1 < arrL j cb (j + (k : Int)) xs
      · have e : worF j cb xs s (k + 1) = (arrL j cb (j + (k : Int)) xs, j + (k : Int)) := if_pos hq
        rw [e]
        refine ⟨⟨k, by omega, rfl⟩, fun i hi => ?_⟩
        rcases Nat.lt_or_ge i k with c | c
        · have := hmax i c
          show _ ≤ arrL j cb (j + (k : Int)) xs
          omega
        · obtain rfl : i = k := by omega
          exact Int.le_refl _
      · have e : worF j cb xs s (k + 1) = worF j cb xs s k := if_neg hq
        rw [e]
        refine ⟨⟨i0, by omega, e0⟩, fun i hi => ?_⟩
        rcases Nat.lt_or_ge i k with c | c
        · exact hmax i c
        · obtain rfl : i = k := by omega
          omega
theorem mem_at {j cb m M : Int} {xs : List (Int × Int)} (h : memC j cb m xs = 0) (h1 : j ≤ M) (h2 : M ≤ m) : memC j cb M xs = 0 := by
  rcases memC_cases j cb m xs with ⟨_, hj, hc, hmm, ha⟩ | h9 | h9
  · have := inR_iff.1 hmm
    unfold memC
    rw [if_pos ⟨hj, hc, inR_iff.2 (by omega)⟩, if_pos ha]
  · rw [h] at h9; cases h9
  · rw [h] at h9; cases h9
theorem memV_at {j cb m M v : Int} {xs : List (Int × Int)} (h : memC j cb m xs = 0) (h1 : j ≤ M) (h2 : M ≤ m) : memV j cb M xs v = v := by
  unfold memV
  rw [if_pos (mem_at h h1 h2)]
/-- the worst arrears are the greatest ones -/
theorem wor_law {j cb m : Int} {xs : List (Int × Int)} (h : memC j cb m xs = 0) : (j ≤ worM j cb m xs ∧ worM j cb m xs ≤ m) ∧ arrL j cb (worM j cb m xs) xs = worV j cb m xs ∧ (∀ q : Int, 0 ≤ q → q < m - j + 1 → arrL j cb (j + q) xs ≤ worV j cb m xs) ∧ (0 ≤ j ∧ j ≤ 35999) ∧ (j ≤ m ∧ m ≤ 35999) := by
  rcases memC_cases j cb m xs with ⟨_, hj, hc, hmm, ha⟩ | h9 | h9
  · have hmj := inR_iff.1 hmm
    have hT : (monN j m : Int) = m - j + 1 := by unfold monN; omega
    obtain ⟨⟨i, hi, e⟩, hmax⟩ := worF_max (s := j) hj hc hmm ha (monN j m) (by omega) (by omega)
    have e1 : worV j cb m xs = (worF j cb xs j (monN j m)).1 := if_pos h
    have e2 : worM j cb m xs = (worF j cb xs j (monN j m)).2 := if_pos h
    rw [e1, e2, e]
    refine ⟨⟨by show j ≤ j + (i : Int); omega, by show j + (i : Int) ≤ m; omega⟩, rfl, fun q h0 h1 => ?_, inR_iff.1 hj, hmj⟩
    have := hmax q.toNat (by omega)
    rw [e, show ((q.toNat : Nat) : Int) = q by omega] at this
    exact this
  · rw [h] at h9; cases h9
  · rw [h] at h9; cases h9
theorem revF_zero (j cb : Int) (xs : List (Int × Int)) : ∀ k : Nat, revF j cb xs 0 k = 0
  | 0 => rfl
  | k + 1 => by
    have e : revF j cb xs 0 (k + 1) = revF j cb xs 0 k + upD (arrL j cb (j + (k : Int)) xs * 0) 1000 := rfl
    rw [e, revF_zero j cb xs k, Int.mul_zero]
    rfl
theorem rev_law {j cb m r : Int} {xs : List (Int × Int)} (h : revC j cb m xs r = 0) : memC j cb m xs = 0 ∧ arrL j cb m xs ≤ revV j cb m xs r ∧ (0 < r ∨ (r = 0 ∧ revV j cb m xs r = arrL j cb m xs)) := by
  have e : revV j cb m xs r = arrL j cb m xs + revF j cb xs r (m - j).toNat := if_pos h
  rcases revC_cases j cb m xs r with ⟨_, h0, hr, hj, hc, hmm, ha⟩ | ⟨_, h9⟩ | ⟨_, h9, h8⟩
  · have hr' := inR_iff.1 hr
    have hmj := inR_iff.1 hmm
    have hb := revF_bd hj hc hmm ha hr' (m - j).toNat (by omega)
    refine ⟨h0, by omega, ?_⟩
    rcases Int.lt_or_le 0 r with c | c
    · exact .inl c
    · have e0 : r = 0 := by omega
      refine .inr ⟨e0, ?_⟩
      rw [e, e0, revF_zero]
      omega
  · rw [h] at h9; cases h9
  · rw [h] at h9; exact absurd h9.symm h8
set_option maxHeartbeats 4000000 in
set_option maxRecDepth 100000 in
theorem fnArrears_walk (A : Option Addr) (n c : Nat) (bs : List Int) (w : World) (h : RdB w w.heap.size A n bs) (hby : ∀ b ∈ bs, 0 ≤ b ∧ b ≤ 255) (hmx : n ≤ maxLen) : Calls Try.prog 7 #[.slice A n c] w fun e' w' => e' = .returned (.bool true) ∧ Below w.heap.size w w' := by
  have HBig := fun W => big_any A n c W hmx
  by_cases hn : n ≤ 4096
  · have HCW : Hid (∀ W, Below w.heap.size w W → Code' W.heap.size W A n) := fun W hB => ⟨hn, bs, (h.below hB).more hB.size, hby⟩
    rw [decide_eq_false (show ¬ 4096 < n by omega)] at HBig
    clear h hby
    go_enter Try.func7, Try.ntmps7
    go_wp2_with (first | (go_at_call 17; (with_reducible refine (HBig _).mono ?_); rintro ee w0 ⟨rfl, rfl⟩) | (go_at_call 28; (with_reducible refine Calls.mono (drawRev_any A n c _ (HCW.out _ (Below.refl _ _))) ?_); rintro ee w1 ⟨j, cb, mo, r, A1, m1, c1, xs, rfl, hR1, hm1, hb1⟩; have R := Lib.hid hR1; have hB := hb1; clear hR1 hb1))
    have H1 := fun W hR => iRevivalCost_any j cb A1 m1 c1 xs mo r W hR (by omega)
    have H2 := fun W hR => sRevivalCost_any j cb A1 m1 c1 xs mo r W hR (by omega)
    have H3 := fun W hR => iWorstArrears_any j cb A1 m1 c1 xs mo W hR (by omega)
    have H4 := fun W hR => sWorstArrears_any j cb A1 m1 c1 xs mo W hR (by omega)
    have H5 := Lib.hid (fun W hR (M : Int) (h0 : memC j cb mo xs = 0) (h1 : j ≤ M) (h2 : M ≤ mo) => show Calls Try.prog 21 #[.int .i64 j, .int .i64 cb, .slice A1 m1 c1, .int .i64 M] W fun ee w' => ee = .returned (.tuple #[.int .i64 (arrL j cb M xs), .int .i64 0]) ∧ Below W.heap.size W w' from by
      have := iArrearsIn_any j cb A1 m1 c1 xs M W hR (by omega)
      rw [mem_at h0 h1 h2, memV_at h0 h1 h2] at this
      exact this)
    have hW := wor_law (j := j) (cb := cb) (m := mo) (xs := xs)
    have hV := rev_law (j := j) (cb := cb) (m := mo) (xs := xs) (r := r)
    generalize worV j cb mo xs = wv at *
    generalize worM j cb mo xs = wm at *
    generalize revV j cb mo xs r = rv at *
    generalize revC j cb mo xs r = rc at *
    generalize hkc : memC j cb mo xs = kc at *
    replace H1 := Lib.hid H1
    replace H2 := Lib.hid H2
    replace H3 := Lib.hid H3
    replace H4 := Lib.hid H4
    replace hW := Lib.hid hW
    replace hV := Lib.hid hV
    clear hkc
    go_wp2_with (first | (go_at_call 16; (with_reducible refine Calls.mono (H1.out _ R.out) ?_); rintro ee wz ⟨rfl, hb⟩; replace hB := bel_step hB hb; (try replace R := Lib.hid (R.out.later hb)); (try replace Y := Lib.hid (Y.out.later hb)); clear hb) | (go_at_call 15; (with_reducible refine Calls.mono (H2.out _ R.out) ?_); rintro ee wz ⟨rfl, hb⟩; replace hB := bel_step hB hb; (try replace R := Lib.hid (R.out.later hb)); (try replace Y := Lib.hid (Y.out.later hb)); clear hb) | (go_at_call 14; (with_reducible refine Calls.mono (H3.out _ R.out) ?_); rintro ee wz ⟨rfl, hb⟩; replace hB := bel_step hB hb; (try replace R := Lib.hid (R.out.later hb)); (try replace Y := Lib.hid (Y.out.later hb)); clear hb) | (go_at_call 13; (with_reducible refine Calls.mono (H4.out _ R.out) ?_); rintro ee wz ⟨rfl, hb⟩; replace hB := bel_step hB hb; (try replace R := Lib.hid (R.out.later hb)); (try replace Y := Lib.hid (Y.out.later hb)); clear hb) | (go_at_call 29; (with_reducible refine Calls.mono (drawUnt_any A n c _ (HCW.out _ hB)) ?_); rintro ee w2 ⟨j2, cb2, A2, m2, c2, ys, rfl, hR2, hm2, hb⟩; replace hB := bel_step hB hb; (try replace R := Lib.hid (R.out.later hb)); (try replace Y := Lib.hid (Y.out.later hb)); have Y := Lib.hid hR2; clear hR2 hb))
    clear H1 H2 H3 H4
    have K1 := fun W hR => iPaidUntil_any j2 cb2 A2 m2 c2 ys W hR (by omega)
    have K2 := fun W hR => sPaidUntil_any j2 cb2 A2 m2 c2 ys W hR (by omega)
    generalize untV j2 cb2 ys = tv2 at *
    generalize untC j2 cb2 ys = tc2 at *
    replace K1 := Lib.hid K1
    replace K2 := Lib.hid K2
    by_cases h0 : kc = 0
    · subst h0
      obtain ⟨hw1, hw2, hw3, hj, hmj⟩ := hW.out rfl
      have HX1 := Lib.hid (fun W hR => (hw2 ▸ H5.out W hR wm rfl hw1.1 hw1.2 : Calls Try.prog 21 #[.int .i64 j, .int .i64 cb, .slice A1 m1 c1, .int .i64 wm] W fun ee w' => ee = .returned (.tuple #[.int .i64 wv, .int .i64 0]) ∧ Below W.heap.size W w'))
      have HX2 := Lib.hid (fun W hR (q : Int) (hq : 0 ≤ q ∧ q < mo - j + 1) => H5.out W hR (j + q) rfl (by omega) (by omega))
      have HX3 := fun W hR => H5.out W hR mo rfl hmj.1 (Int.le_refl _)
      have hq3 := Lib.hid (fun (q : Int) (hq : 0 ≤ q ∧ q < mo - j + 1) => hw3 q hq.1 hq.2)
      have hVV : (rc != 0) = true ∨ (rc = 0 ∧ arrL j cb mo xs ≤ rv ∧ (0 < r ∨ (r = 0 ∧ rv = arrL j cb mo xs))) := by
        by_cases e : rc = 0
        · exact .inr ⟨e, (hV.out e).2⟩
        · exact .inl (by simpa using e)
      generalize arrL j cb mo xs = am at *
      replace HX3 := Lib.hid HX3
      clear hW hV H5 hw2 hw3
      rcases hVV with hV | ⟨rfl, hV1, hV2 | ⟨rfl, rfl⟩⟩
      all_goals
        go_wp2_with (first | (go_at_call 30; (with_reducible refine Calls.mono (K1.out _ Y.out) ?_); rintro ee wz ⟨rfl, hb⟩; replace hB := bel_step hB hb; (try replace R := Lib.hid (R.out.later hb)); (try replace Y := Lib.hid (Y.out.later hb)); clear hb) | (go_at_call 31; (with_reducible refine Calls.mono (K2.out _ Y.out) ?_); rintro ee wz ⟨rfl, hb⟩; replace hB := bel_step hB hb; (try replace R := Lib.hid (R.out.later hb)); (try replace Y := Lib.hid (Y.out.later hb)); clear hb) | (go_at_call 21; (with_reducible refine Calls.mono (HX1.out _ R.out) ?_); rintro ee wz ⟨rfl, hb⟩; replace hB := bel_step hB hb; (try replace R := Lib.hid (R.out.later hb)); (try replace Y := Lib.hid (Y.out.later hb)); clear hb) | (go_at_call 32; (with_reducible refine Calls.mono (roll_any A n c _ 1601 (HCW.out _ hB)) ?_); rintro ee w11 ⟨gd, Ad, nd, cd, sd, rfl, hgd, hkd, hcd, hb⟩; have KD := Lib.hid hkd; have CD := Lib.hid hcd; have hzd := hB.size; have hgd1 : w.heap.size ≤ gd := (by omega); have RB := Lib.hid (R.out.below hb); have hsz := hb.size; replace hB := bel_step hB hb; (try replace R := Lib.hid (R.out.later hb)); (try replace Y := Lib.hid (Y.out.later hb)); have hltd := KD.out.lt; clear hkd hcd hb) | (go_at_call 33; (with_reducible refine Calls.mono (below_any gd Ad nd cd sd _ _ _ KD.out CD.out hgd (by omega)) ?_); rintro ee w12 ⟨q, rfl, hq, hg⟩; have hle := hq3.out q hq; have hle1 : decide (wv < arrL j cb (j + q) xs) = false := decide_eq_false (by omega); have hle2 : decide (arrL j cb (j + q) xs > wv) = false := decide_eq_false (by omega); replace hB := belowG hB hg hgd1 hB.size; replace R := Lib.hid ((RB.out.grown hg hsz (fun k e => (by cases e; exact hgd))).more (Nat.le_trans hsz hg.size)); clear hg KD CD Y RB) | (go_at_call 21; (with_reducible refine Calls.mono (HX2.out _ R.out q hq) ?_); rintro ee wz ⟨rfl, hb⟩; replace hB := bel_step hB hb; (try replace R := Lib.hid (R.out.later hb)); (try replace Y := Lib.hid (Y.out.later hb)); clear hb) | (go_at_call 21; (with_reducible refine Calls.mono (HX3.out _ R.out) ?_); rintro ee wz ⟨rfl, hb⟩; replace hB := bel_step hB hb; (try replace R := Lib.hid (R.out.later hb)); (try replace Y := Lib.hid (Y.out.later hb)); clear hb))
        go_ret
        exact ⟨rfl, hB⟩
    · have h1 : (kc == 0) = false := by simpa using h0
      have h2 : (rc != 0) = true := by
        have : rc ≠ 0 := fun e => h0 (hV.out e).1
        simpa using this
      clear hW hV H5 h0
      go_wp2_with (first | (go_at_call 30; (with_reducible refine Calls.mono (K1.out _ Y.out) ?_); rintro ee wz ⟨rfl, hb⟩; replace hB := bel_step hB hb; (try replace R := Lib.hid (R.out.later hb)); (try replace Y := Lib.hid (Y.out.later hb)); clear hb) | (go_at_call 31; (with_reducible refine Calls.mono (K2.out _ Y.out) ?_); rintro ee wz ⟨rfl, hb⟩; replace hB := bel_step hB hb; (try replace R := Lib.hid (R.out.later hb)); (try replace Y := Lib.hid (Y.out.later hb)); clear hb))
      go_ret
      exact ⟨rfl, hB⟩
  · rw [decide_eq_true (show 4096 < n by omega)] at HBig
    clear h
    go_enter Try.func7, Try.ntmps7
    go_wp2_with (go_at_call 17; (with_reducible refine (HBig _).mono ?_); rintro ee w0 ⟨rfl, rfl⟩)
    go_ret
    exact ⟨rfl, Below.refl _ _⟩
end Go.Proofs.Ytnklpdckclgilaa
