/-
  The walk of a law of chapter 16, FnContributions: the law returns true and turns nothing that was there. No condition.
-/
import Derived.Test.YtnklpdckclgilaaN16
import Derived.Test.Ytnklpdckclgilaa04
set_option linter.unusedSimpArgs false
set_option linter.unusedVariables false
namespace Go.Proofs.Ytnklpdckclgilaa
open Go.ChangeShapes Go.WideShapes Go.ChangeAt Go.RowKit Go.Deep
set_option maxHeartbeats 4000000 in
set_option maxRecDepth 100000 in
theorem fnContributions_walk (A : Option Addr) (n c : Nat) (bs : List Int) (w : World) (h : RdB w w.heap.size A n bs) (hby : ∀ b ∈ bs, 0 ≤ b ∧ b ≤ 255) (hmx : n ≤ maxLen) : Calls Try.prog 6 #[.slice A n c] w fun e' w' => e' = .returned (.bool true) ∧ Below w.heap.size w w' := by
  have HBig := fun W => big_any A n c W hmx
  by_cases hn : n ≤ 4096
  · have HCW : Hid (∀ W, Below w.heap.size w W → Code' W.heap.size W A n) := fun W hB => ⟨hn, bs, (h.below hB).more hB.size, hby⟩
    rw [decide_eq_false (show ¬ 4096 < n by omega)] at HBig
    clear h hby
    go_enter Try.func6, Try.ntmps6
    go_wp2_with (first | (go_at_call 17; (with_reducible refine (HBig _).mono ?_); rintro ee w0 ⟨rfl, rfl⟩) | (go_at_call 18; (with_reducible refine Calls.mono (drawBal_any A n c _ (HCW.out _ (Below.refl _ _))) ?_); rintro ee w1 ⟨j, cb, mo, A1, m1, c1, xs, rfl, hR1, hm1, hA1, hb1⟩; have R := Lib.hid hR1; have hB := hb1; clear hR1 hb1))
    replace hA1 := Lib.hid hA1
    have hl1 := Lib.hid R.out.len
    have H1 := fun W hR => iBalanceIn_any j cb A1 m1 c1 xs mo W hR (by omega)
    have H2 := fun W hR => sBalanceIn_any j cb A1 m1 c1 xs mo W hR (by omega)
    have H3 := fun W hR => iArrearsIn_any j cb A1 m1 c1 xs mo W hR (by omega)
    have H4 := fun W hR => sArrearsIn_any j cb A1 m1 c1 xs mo W hR (by omega)
    have H5 := fun W hR => iLapsesIn_any j cb A1 m1 c1 xs mo W hR (by omega)
    have H6 := fun W hR => sLapsesIn_any j cb A1 m1 c1 xs mo W hR (by omega)
    have H7 := fun W hR => iTotalPaid_any j A1 m1 c1 xs j (mo + 1) W hR (by omega)
    have H8 := Lib.hid (fun W A' n' c' hR hm => iLapsesIn_any j cb A' n' c' ((j, 1) :: xs) mo W hR hm)
    have hcase : (memC j cb mo xs != 0) = true ∨ (memC j cb mo xs = 0 ∧ memV j cb mo xs (balL j cb mo xs) = balL j cb mo xs ∧ memV j cb mo xs (arrL j cb mo xs) = arrL j cb mo xs ∧ (0 ≤ j ∧ j ≤ 35999) ∧ (1 ≤ cb ∧ cb ≤ 1000000) ∧ (j ≤ mo ∧ mo ≤ 35999) ∧ (-36000000000 ≤ balL j cb mo xs ∧ balL j cb mo xs ≤ 10000000000) ∧ ((balL j cb mo xs ≤ 0 ∧ arrL j cb mo xs = -balL j cb mo xs) ∨ (0 < balL j cb mo xs ∧ arrL j cb mo xs = 0)) ∧ (0 ≤ cb * (mo - j + 1) ∧ cb * (mo - j + 1) ≤ 36000000000)) := by
      rcases memC_cases j cb mo xs with ⟨h0, hj, hc, hmm, ha⟩ | h0 | h0
      · refine .inr ⟨h0, by unfold memV; rw [if_pos h0], by unfold memV; rw [if_pos h0], inR_iff.1 hj, inR_iff.1 hc, inR_iff.1 hmm, balL_bd hj hc hmm ha, ?_, bal_bd hj hc hmm⟩
        unfold arrL
        split
        · exact .inl ⟨by assumption, rfl⟩
        · exact .inr ⟨by omega, rfl⟩
      · exact .inl (by rw [h0]; rfl)
      · exact .inl (by rw [h0]; rfl)
    have HT := Lib.hid (fun h hm => tot_bal (j := j) (cb := cb) (m := mo) (xs := xs) h hm)
    have HL := Lib.hid (fun h hm => lap_more (j := j) (cb := cb) (m := mo) (xs := xs) h hm)
    generalize memV j cb mo xs (balL j cb mo xs) = vb at *
    generalize memV j cb mo xs (arrL j cb mo xs) = va at *
    generalize balL j cb mo xs = b at *
    generalize arrL j cb mo xs = a at *
    generalize memC j cb mo xs = kc at *
    generalize lapV j cb mo xs = lv at *
    generalize lapC j cb mo xs = lc at *
    generalize lapV j cb mo ((j, 1) :: xs) = lv2 at *
    generalize lapC j cb mo ((j, 1) :: xs) = lc2 at *
    generalize totV j j (mo + 1) xs = tv at *
    generalize totC j j (mo + 1) xs = tc at *
    replace H1 := Lib.hid H1
    replace H2 := Lib.hid H2
    replace H3 := Lib.hid H3
    replace H4 := Lib.hid H4
    replace H5 := Lib.hid H5
    replace H6 := Lib.hid H6
    replace H7 := Lib.hid H7
    replace hcase := Lib.hid hcase
    go_wp2_with (first | (go_at_call 19; (with_reducible refine Calls.mono (H1.out _ R.out) ?_); rintro ee wz ⟨rfl, hb⟩; replace hB := bel_step hB hb; (try replace R := Lib.hid (R.out.later hb)); (try replace Y := Lib.hid (Y.out.later hb)); clear hb) | (go_at_call 20; (with_reducible refine Calls.mono (H2.out _ R.out) ?_); rintro ee wz ⟨rfl, hb⟩; replace hB := bel_step hB hb; (try replace R := Lib.hid (R.out.later hb)); (try replace Y := Lib.hid (Y.out.later hb)); clear hb) | (go_at_call 21; (with_reducible refine Calls.mono (H3.out _ R.out) ?_); rintro ee wz ⟨rfl, hb⟩; replace hB := bel_step hB hb; (try replace R := Lib.hid (R.out.later hb)); (try replace Y := Lib.hid (Y.out.later hb)); clear hb) | (go_at_call 22; (with_reducible refine Calls.mono (H4.out _ R.out) ?_); rintro ee wz ⟨rfl, hb⟩; replace hB := bel_step hB hb; (try replace R := Lib.hid (R.out.later hb)); (try replace Y := Lib.hid (Y.out.later hb)); clear hb) | (go_at_call 11; (with_reducible refine Calls.mono (H5.out _ R.out) ?_); rintro ee wz ⟨rfl, hb⟩; replace hB := bel_step hB hb; (try replace R := Lib.hid (R.out.later hb)); (try replace Y := Lib.hid (Y.out.later hb)); clear hb) | (go_at_call 9; (with_reducible refine Calls.mono (H6.out _ R.out) ?_); rintro ee wz ⟨rfl, hb⟩; replace hB := bel_step hB hb; (try replace R := Lib.hid (R.out.later hb)); (try replace Y := Lib.hid (Y.out.later hb)); clear hb) | (go_at_call 23; (with_reducible refine Calls.mono (drawTot_any A n c _ (HCW.out _ hB)) ?_); rintro ee w2 ⟨j2, f2, mo2, A2, m2, c2, ys, rfl, hR2, hm2, hb⟩; replace hB := bel_step hB hb; (try replace R := Lib.hid (R.out.later hb)); (try replace Y := Lib.hid (Y.out.later hb)); have Y := Lib.hid hR2; clear hR2 hb))
    clear H1 H2 H3 H4 H5 H6 HCW
    have K1 := fun W hR => iTotalPaid_any j2 A2 m2 c2 ys f2 mo2 W hR (by omega)
    have K2 := fun W hR => sTotalPaid_any j2 A2 m2 c2 ys f2 mo2 W hR (by omega)
    have K3 := fun W hR => iAreP_any j2 A2 m2 c2 ys W hR (by omega)
    have K4 := fun W hR => sAreP_any j2 A2 m2 c2 ys W hR (by omega)
    generalize totV j2 f2 mo2 ys = tv2 at *
    generalize totC j2 f2 mo2 ys = tc2 at *
    generalize areP j2 ys = ap at *
    replace K1 := Lib.hid K1
    replace K2 := Lib.hid K2
    replace K3 := Lib.hid K3
    replace K4 := Lib.hid K4
    rcases hcase.out with h0 | ⟨h0, e1, e2, hj, hc, hmj, hb, hab, hX⟩
    · clear hcase HT HL
      go_wp2_with (first | (go_at_call 24; (with_reducible refine Calls.mono (K1.out _ Y.out) ?_); rintro ee wz ⟨rfl, hb⟩; replace hB := bel_step hB hb; (try replace R := Lib.hid (R.out.later hb)); (try replace Y := Lib.hid (Y.out.later hb)); clear hb) | (go_at_call 25; (with_reducible refine Calls.mono (K2.out _ Y.out) ?_); rintro ee wz ⟨rfl, hb⟩; replace hB := bel_step hB hb; (try replace R := Lib.hid (R.out.later hb)); (try replace Y := Lib.hid (Y.out.later hb)); clear hb) | (go_at_call 26; (with_reducible refine Calls.mono (K3.out _ Y.out) ?_); rintro ee wz ⟨rfl, hb⟩; replace hB := bel_step hB hb; (try replace R := Lib.hid (R.out.later hb)); (try replace Y := Lib.hid (Y.out.later hb)); clear hb) | (go_at_call 27; (with_reducible refine Calls.mono (K4.out _ Y.out) ?_); rintro ee wz ⟨rfl, hb⟩; replace hB := bel_step hB hb; (try replace R := Lib.hid (R.out.later hb)); (try replace Y := Lib.hid (Y.out.later hb)); clear hb))
      go_ret
      exact ⟨rfl, hB⟩
    · subst h0 e1 e2
      clear hcase
      have HT := HT.out rfl
      have hva : (vb < 0 ∧ va = -vb) ∨ (0 ≤ vb ∧ va = 0) := by omega
      have hTT : (¬ mo + 1 < 36000) ∨ (mo + 1 < 36000 ∧ tc = 0 ∧ (tv - cb * (mo - j + 1) != vb) = false ∧ 0 ≤ tv ∧ tv ≤ 10000000000) := by
        by_cases hq : mo + 1 < 36000
        · have := HT hq
          exact .inr ⟨hq, this.1, by rw [this.2.1]; simp, this.2.2⟩
        · exact .inl hq
      have hLL : (((m1 : Nat) : Int) == 100) = true ∨ ((((m1 : Nat) : Int) == 100) = false ∧ m1 < 100 ∧ ((lc = 4 ∧ lc2 = 4) ∨ (lc = 0 ∧ lc2 = 4) ∨ (lc = 0 ∧ lc2 = 0 ∧ lv ≤ lv2))) := by
        by_cases hlen : m1 = 100
        · exact .inl (by rw [beq_iff_eq]; omega)
        · exact .inr ⟨by rw [beq_eq_false_iff_ne]; omega, by omega, HL.out rfl (by have := hl1.out; omega)⟩
      clear HT HL hab
      rcases hva with ⟨hv, rfl⟩ | ⟨hv, rfl⟩ <;> rcases hTT with hq | ⟨hq, rfl, hq2, hq3, hq4⟩ <;> rcases hLL with hlen | ⟨hlen, hlt, ⟨rfl, rfl⟩ | ⟨rfl, rfl⟩ | ⟨rfl, rfl, hle⟩⟩
      all_goals
        replace H7 := Lib.hid H7
        (try have hle1 : decide (lv ≤ lv2) = true := decide_eq_true hle)
        (try have hle2 : decide (lv2 ≥ lv) = true := decide_eq_true hle)
        go_wp2_with (first | (go_at_call 24; (with_reducible refine Calls.mono (K1.out _ Y.out) ?_); rintro ee wz ⟨rfl, hb⟩; replace hB := bel_step hB hb; (try replace R := Lib.hid (R.out.later hb)); (try replace Y := Lib.hid (Y.out.later hb)); clear hb) | (go_at_call 25; (with_reducible refine Calls.mono (K2.out _ Y.out) ?_); rintro ee wz ⟨rfl, hb⟩; replace hB := bel_step hB hb; (try replace R := Lib.hid (R.out.later hb)); (try replace Y := Lib.hid (Y.out.later hb)); clear hb) | (go_at_call 26; (with_reducible refine Calls.mono (K3.out _ Y.out) ?_); rintro ee wz ⟨rfl, hb⟩; replace hB := bel_step hB hb; (try replace R := Lib.hid (R.out.later hb)); (try replace Y := Lib.hid (Y.out.later hb)); clear hb) | (go_at_call 27; (with_reducible refine Calls.mono (K4.out _ Y.out) ?_); rintro ee wz ⟨rfl, hb⟩; replace hB := bel_step hB hb; (try replace R := Lib.hid (R.out.later hb)); (try replace Y := Lib.hid (Y.out.later hb)); clear hb) | (go_at_call 24; (with_reducible refine Calls.mono (H7.out.out _ R.out) ?_); rintro ee wz ⟨rfl, hb⟩; replace hB := bel_step hB hb; (try replace R := Lib.hid (R.out.later hb)); (try replace Y := Lib.hid (Y.out.later hb)); clear hb) | (at_builtin; refine wpl_app_pays rfl _ _ rfl w.heap.size [(j, 1)] _ (by rfl) (ownOneP _ _ hB.size j 1) _ A1 m1 c1 xs (by rfl) (R.out.cur _) hA1.out (by simp; omega) (by have := hB.size; simp; omega) ?_; intro v' w3 ho hg; obtain ⟨A3, m3, c3, rfl⟩ := ho.sl; have hz3 := hB.size; replace hB := (hB.alloc hz3 (.cells #[.int .i64 j, .int .i64 1] 43)).grown hg (by simp; omega) (fun k e => (by simp only [Value.ownBlock, Option.some.injEq] at e; omega)); obtain ⟨e3, hr3⟩ := ho.rd; have e4 := hl1.out; have hm3 : m3 ≤ 1048576 := (by simp at e3; omega); have X : Hid (RdP w3 w3.heap.size A3 m3 ((j, 1) :: xs)) := Lib.hid hr3; clear ho hg hr3 e3 e4) | (go_at_call 11; (with_reducible refine Calls.mono (H8.out _ _ _ _ X.out hm3) ?_); rintro ee wz ⟨rfl, hb⟩; replace hB := bel_step hB hb; (try replace R := Lib.hid (R.out.later hb)); (try replace Y := Lib.hid (Y.out.later hb)); clear hb))
        all_goals go_ret
        all_goals exact ⟨rfl, hB⟩
  · rw [decide_eq_true (show 4096 < n by omega)] at HBig
    clear h
    go_enter Try.func6, Try.ntmps6
    go_wp2_with (go_at_call 17; (with_reducible refine (HBig _).mono ?_); rintro ee w0 ⟨rfl, rfl⟩)
    go_ret
    exact ⟨rfl, Below.refl _ _⟩
end Go.Proofs.Ytnklpdckclgilaa
