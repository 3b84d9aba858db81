/-
  Contracts of the functions of chapter 16, fourth part: until when a member has paid.
-/
import Derived.Test.YtnklpdckclgilaaE16
set_option linter.unusedSimpArgs false
set_option linter.unusedVariables false
namespace Go.Proofs.Ytnklpdckclgilaa
open Go.RowKit
/-- until when a member has paid, if the arguments are valid -/
def untL (j cb : Int) (xs : List (Int × Int)) : Int := j + paidL (inR j 35999) xs / cb
def untC (j cb : Int) (xs : List (Int × Int)) : Int := if memC j cb j xs = 0 then (if inR 0 35999 (untL j cb xs) = true then 0 else 3) else memC j cb j xs
def untV (j cb : Int) (xs : List (Int × Int)) : Int := if untC j cb xs = 0 then untL j cb xs else 0
theorem unt_0 {j cb : Int} {xs : List (Int × Int)} (h : memC j cb j xs = 0) (h2 : inR 0 35999 (untL j cb xs) = true) : Hid (untC j cb xs = 0 ∧ untV j cb xs = untL j cb xs) := by
  have h1 : untC j cb xs = 0 := by unfold untC; rw [if_pos h, if_pos h2]
  exact ⟨h1, by unfold untV; rw [if_pos h1]⟩
theorem unt_3 {j cb : Int} {xs : List (Int × Int)} (h : memC j cb j xs = 0) (h2 : inR 0 35999 (untL j cb xs) = false) : Hid (untC j cb xs = 3 ∧ untV j cb xs = 0) := by
  have h1 : untC j cb xs = 3 := by unfold untC; rw [if_pos h, if_neg (by simp [h2])]
  exact ⟨h1, by unfold untV; rw [h1]; rfl⟩
theorem unt_1 {j cb : Int} {xs : List (Int × Int)} (h : memC j cb j xs = 1) : Hid (untC j cb xs = 1 ∧ untV j cb xs = 0) := by
  have h1 : untC j cb xs = 1 := by unfold untC; rw [h]; rfl
  exact ⟨h1, by unfold untV; rw [h1]; rfl⟩
theorem unt_2 {j cb : Int} {xs : List (Int × Int)} (h : memC j cb j xs = 2) : Hid (untC j cb xs = 2 ∧ untV j cb xs = 0) := by
  have h1 : untC j cb xs = 2 := by unfold untC; rw [h]; rfl
  exact ⟨h1, by unfold untV; rw [h1]; rfl⟩
theorem div_bd {p cb : Int} (hp : 0 ≤ p ∧ p ≤ 10000000000) (hc : 1 ≤ cb) : 0 ≤ p / cb ∧ p / cb ≤ 10000000000 :=
  ⟨Int.ediv_nonneg hp.1 (by omega), Int.le_trans (Int.ediv_le_self _ hp.1) hp.2⟩
set_option maxHeartbeats 4000000 in
theorem sPaidUntil_any (j cb : Int) (A : Option Addr) (n c : Nat) (xs : List (Int × Int)) (w : World) (h : RdP w w.heap.size A n xs) (hm : n ≤ 1048576) : Calls Try.prog 31 #[.int .i64 j, .int .i64 cb, .slice A n c] w fun ee w' => ee = .returned (.tuple #[.int .i64 (untV j cb xs), .int .i64 (untC j cb xs)]) ∧ Below w.heap.size w w' := by
  have H1 := sMem_any j cb A n c xs j w h hm
  rcases memC_cases j cb j xs with ⟨h0, hj, hc, hmm, ha⟩ | h0 | h0
  all_goals rw [h0] at H1
  · skip
    have hl := h.len
    have hn := (areP_split ha).2.1
    have HP := Lib.hid (fun W hR => l16Paid_any j 36000 A n c xs W hR (areP_okA ha) (by omega) (by omega))
    have hp := paid_total_bd (p := inR j 35999) (areP_okA ha) hl (by omega)
    have hc1 := (inR_iff.1 hc).1
    have hj1 := inR_iff.1 hj
    have hd := div_bd hp hc1
    have HM := fun W => l02Month_any (untL j cb xs) W
    have HU : Hid (untL j cb xs = j + paidL (inR j 35999) xs / cb) := rfl
    have H1 := Lib.hid H1
    have H := Lib.hid h
    cases hq : inR 0 35999 (untL j cb xs) with
    | true =>
      have HQ := unt_0 h0 hq
      rw [hq] at HM
      rw [HU.out] at HM HQ
      have HM := Lib.hid HM
      clear h h0 hj hc hmm ha hq hn hl HU
      go_enter Try.func31, Try.ntmps31
      go_wp2_with (go_at_call 34; (with_reducible refine (H1.out).mono ?_); rintro ee w1 ⟨rfl, hb1⟩; have hB1 := bel_step (w := w) (by go_grown) hb1; have hs1 := hB1.size)
      go_wp2_with (go_at_call 54; (with_reducible refine (HP.out _ (H.out.later hb1)).mono ?_); rintro ee w2 ⟨rfl, rfl⟩)
      go_wp2_with (go_at_call 53; (with_reducible refine (HM.out _).mono ?_); rintro ee w3 ⟨rfl, rfl⟩)
      (go_returns; exact ⟨by rw [HQ.out.1, HQ.out.2]; rfl, by go_grown⟩)
    | false =>
      have HQ := unt_3 h0 hq
      rw [hq] at HM
      rw [HU.out] at HM
      have HM := Lib.hid HM
      clear h h0 hj hc hmm ha hq hn hl HU
      go_enter Try.func31, Try.ntmps31
      go_wp2_with (go_at_call 34; (with_reducible refine (H1.out).mono ?_); rintro ee w1 ⟨rfl, hb1⟩; have hB1 := bel_step (w := w) (by go_grown) hb1; have hs1 := hB1.size)
      go_wp2_with (go_at_call 54; (with_reducible refine (HP.out _ (H.out.later hb1)).mono ?_); rintro ee w2 ⟨rfl, rfl⟩)
      go_wp2_with (go_at_call 53; (with_reducible refine (HM.out _).mono ?_); rintro ee w3 ⟨rfl, rfl⟩)
      (go_returns; exact ⟨by rw [HQ.out.1, HQ.out.2]; rfl, by go_grown⟩)
  · have HQ := unt_1 h0
    have H1 := Lib.hid H1
    clear h0 h
    go_enter Try.func31, Try.ntmps31
    go_wp2_with (go_at_call 34; (with_reducible refine (H1.out).mono ?_); rintro ee w1 ⟨rfl, hb1⟩; have hB1 := bel_step (w := w) (by go_grown) hb1; have hs1 := hB1.size)
    (go_returns; exact ⟨by rw [HQ.out.1, HQ.out.2]; rfl, by go_grown⟩)
  · have HQ := unt_2 h0
    have H1 := Lib.hid H1
    clear h0 h
    go_enter Try.func31, Try.ntmps31
    go_wp2_with (go_at_call 34; (with_reducible refine (H1.out).mono ?_); rintro ee w1 ⟨rfl, hb1⟩; have hB1 := bel_step (w := w) (by go_grown) hb1; have hs1 := hB1.size)
    (go_returns; exact ⟨by rw [HQ.out.1, HQ.out.2]; rfl, by go_grown⟩)
set_option maxHeartbeats 4000000 in
theorem iPaidUntil_any (j cb : Int) (A : Option Addr) (n c : Nat) (xs : List (Int × Int)) (w : World) (h : RdP w w.heap.size A n xs) (hm : n ≤ 1048576) : Calls Try.prog 30 #[.int .i64 j, .int .i64 cb, .slice A n c] w fun ee w' => ee = .returned (.tuple #[.int .i64 (untV j cb xs), .int .i64 (untC j cb xs)]) ∧ Below w.heap.size w w' := by
  have H1 := iMem_any j cb A n c xs j w h hm
  rcases memC_cases j cb j xs with ⟨h0, hj, hc, hmm, ha⟩ | h0 | h0
  all_goals rw [h0] at H1
  · skip
    have hl := Lib.hid h.len
    have hn : n ≤ 100 := by have := (areP_split ha).2.1; have := h.len; omega
    have hok := areP_okA ha
    have hp := paid_total_bd (p := inR j 35999) hok h.len hn
    have hC : Hid (paidL (fun _ => true) xs = paidL (inR j 35999) xs) := paidL_congr (fun i x a hi => by
      have h7 := payOk_all (areP_split ha).2.2 i x a hi
      have h8 := inR_iff.1 h7.1
      exact (inR_iff.2 ⟨h7.2.1, h8.2⟩).symm)
    have hc1 := (inR_iff.1 hc).1
    have hj1 := inR_iff.1 hj
    have hd := div_bd hp hc1
    have HM := fun W => isMonth_any (untL j cb xs) W
    have HU : Hid (untL j cb xs = j + paidL (inR j 35999) xs / cb) := rfl
    have HB := Lib.hid (fun k hk => paid_bd (p := fun _ => true) hok k (by rw [hl.out]; exact hk))
    have HO := Lib.hid hok
    have H1 := Lib.hid H1
    have H := Lib.hid h
    clear hok
    have hend : ∃ b, inR 0 35999 (untL j cb xs) = b := ⟨_, rfl⟩
    obtain ⟨b, hq⟩ := hend
    rw [hq] at HM
    rw [HU.out] at HM
    have HQ : Hid (b = true ∧ untC j cb xs = 0 ∧ untV j cb xs = j + paidL (inR j 35999) xs / cb ∨ b = false ∧ untC j cb xs = 3 ∧ untV j cb xs = 0) := by
      cases b with
      | true => exact .inl ⟨rfl, (unt_0 h0 hq).out.1, (unt_0 h0 hq).out.2⟩
      | false => exact .inr ⟨rfl, (unt_3 h0 hq).out.1, (unt_3 h0 hq).out.2⟩
    have HM := Lib.hid HM
    clear h h0 hj hc hmm ha hq HU
    go_enter Try.func30, Try.ntmps30
    go_wp2_with (go_at_call 37; (with_reducible refine (H1.out).mono ?_); rintro ee w1 ⟨rfl, hb1⟩; have hB1 := bel_step (w := w) (by go_grown) hb1; have hs1 := hB1.size)
    go_loopw [9, 23] (fun s i wr => ∃ k : Nat, k ≤ n ∧ i = .int .i64 k ∧ s = .int .i64 (paidL (fun _ => true) (xs.take k)) ∧ Below w.heap.size w wr) (fun _ i _ => n - (intOf i).toNat)
    case atStart => exact ⟨0, Nat.zero_le _, rfl, rfl, hB1⟩
    case round =>
      obtain ⟨k, hk, rfl, rfl, hR⟩ := hrel
      obtain ⟨hb0, hb1⟩ := HB.out k hk
      have hs := hR.size
      by_cases hlt : k < n
      · obtain ⟨ad, x, a, rfl, hb, hz, hx, hy⟩ := RdP.atP (H.out.below hR) hlt
        obtain ⟨ha1, ha2⟩ := HO.out _ _ _ hz
        have HTk := paidL_take (fun _ => true) hz
        rw [if_pos rfl] at HTk
        have HT2 := Lib.hid HTk
        clear hz HTk
        go_wp2
        go_roundw
        case rel => exact ⟨k + 1, by omega, by go_num, by rw [HT2.out], by go_grown⟩
        case measure => simp [intOf]; omega
      · have HE := takes hl (Nat.not_lt.1 hlt)
        rw [HE.out, hC.out]
        clear hb0 hb1
        cases b with
        | true =>
          go_wp2_with (go_at_call 52; (with_reducible refine (HM.out _).mono ?_); rintro ee w3 ⟨rfl, rfl⟩)
          go_returns
          rcases HQ.out with ⟨_, h1, h2⟩ | ⟨h1, _⟩
          · exact ⟨by rw [h1, h2]; rfl, by go_grown⟩
          · cases h1
        | false =>
          go_wp2_with (go_at_call 52; (with_reducible refine (HM.out _).mono ?_); rintro ee w3 ⟨rfl, rfl⟩)
          go_returns
          rcases HQ.out with ⟨h1, _⟩ | ⟨_, h1, h2⟩
          · cases h1
          · exact ⟨by rw [h1, h2]; rfl, by go_grown⟩
  · have HQ := unt_1 h0
    have H1 := Lib.hid H1
    clear h0 h
    go_enter Try.func30, Try.ntmps30
    go_wp2_with (go_at_call 37; (with_reducible refine (H1.out).mono ?_); rintro ee w1 ⟨rfl, hb1⟩; have hB1 := bel_step (w := w) (by go_grown) hb1; have hs1 := hB1.size)
    (go_returns; exact ⟨by rw [HQ.out.1, HQ.out.2]; rfl, by go_grown⟩)
  · have HQ := unt_2 h0
    have H1 := Lib.hid H1
    clear h0 h
    go_enter Try.func30, Try.ntmps30
    go_wp2_with (go_at_call 37; (with_reducible refine (H1.out).mono ?_); rintro ee w1 ⟨rfl, hb1⟩; have hB1 := bel_step (w := w) (by go_grown) hb1; have hs1 := hB1.size)
    (go_returns; exact ⟨by rw [HQ.out.1, HQ.out.2]; rfl, by go_grown⟩)
end Go.Proofs.Ytnklpdckclgilaa
