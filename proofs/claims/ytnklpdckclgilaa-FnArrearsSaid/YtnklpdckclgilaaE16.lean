/-
  Contracts of the functions of chapter 16, third part: what was paid in a time, the balance and the arrears in a month.
-/
import Derived.Test.YtnklpdckclgilaaD16
set_option linter.unusedSimpArgs false
set_option linter.unusedVariables false
namespace Go.Proofs.Ytnklpdckclgilaa
open Go.RowKit
theorem takes {xs : List (Int × Int)} {n k : Nat} (hl : Hid (xs.length = n)) (hk : n ≤ k) : Hid (xs.take k = xs) := List.take_of_length_le (by have := hl.out; omega)
def totC (j f t : Int) (xs : List (Int × Int)) : Int := if inR 0 35999 j = true ∧ inR 0 35999 f = true ∧ inR 0 35999 t = true then (if areP j xs = true then 0 else 1) else 2
def totV (j f t : Int) (xs : List (Int × Int)) : Int := if totC j f t xs = 0 then paidL (inR f (t - 1)) xs else 0
theorem totC_2 {j f t : Int} {xs : List (Int × Int)} (h : ¬ (inR 0 35999 j = true ∧ inR 0 35999 f = true ∧ inR 0 35999 t = true)) : Hid (totC j f t xs = 2 ∧ totV j f t xs = 0) := by
  have h1 : totC j f t xs = 2 := by unfold totC; rw [if_neg h]
  exact ⟨h1, by unfold totV; rw [h1]; rfl⟩
theorem totC_1 {j f t : Int} {xs : List (Int × Int)} (h : inR 0 35999 j = true ∧ inR 0 35999 f = true ∧ inR 0 35999 t = true) (h2 : areP j xs = false) : Hid (totC j f t xs = 1 ∧ totV j f t xs = 0) := by
  have h1 : totC j f t xs = 1 := by unfold totC; rw [if_pos h, if_neg (by simp [h2])]
  exact ⟨h1, by unfold totV; rw [h1]; rfl⟩
theorem totC_0 {j f t : Int} {xs : List (Int × Int)} (h : inR 0 35999 j = true ∧ inR 0 35999 f = true ∧ inR 0 35999 t = true) (h2 : areP j xs = true) : Hid (totC j f t xs = 0 ∧ totV j f t xs = paidL (inR f (t - 1)) xs) := by
  have h1 : totC j f t xs = 0 := by unfold totC; rw [if_pos h, if_pos h2]
  exact ⟨h1, by unfold totV; rw [if_pos h1]⟩
set_option maxHeartbeats 4000000 in
theorem iTotalPaid_any (j : Int) (A : Option Addr) (n c : Nat) (xs : List (Int × Int)) (f t : Int) (w : World) (h : RdP w w.heap.size A n xs) (hm : n ≤ 1048576) : Calls Try.prog 24 #[.int .i64 j, .slice A n c, .int .i64 f, .int .i64 t] w fun ee w' => ee = .returned (.tuple #[.int .i64 (totV j f t xs), .int .i64 (totC j f t xs)]) ∧ Below w.heap.size w w' := by
  have HA := fun W hR => iAreP_any j A n c xs W hR hm
  have HJ := fun W => isMonth_any j W
  have HF := fun W => isMonth_any f W
  have HT := fun W => isMonth_any t W
  have H := Lib.hid h
  have hl := Lib.hid h.len
  clear h
  cases h1 : inR 0 35999 j with
  | false =>
    have HQ := totC_2 (f := f) (t := t) (xs := xs) (j := j) (by simp [h1])
    rw [h1] at HJ
    have HJ := Lib.hid HJ
    clear h1 HF HT HA
    go_enter Try.func24, Try.ntmps24
    go_wp2_with (go_at_call 52; (with_reducible refine (HJ.out _).mono ?_); rintro ee w1 ⟨rfl, rfl⟩)
    (go_returns; exact ⟨by rw [HQ.out.1, HQ.out.2]; rfl, by go_grown⟩)
  | true =>
    rw [h1] at HJ
    have HJ := Lib.hid HJ
    cases h2 : inR 0 35999 f with
    | false =>
      have HQ := totC_2 (f := f) (t := t) (xs := xs) (j := j) (by simp [h2])
      rw [h2] at HF
      have HF := Lib.hid HF
      clear h1 h2 HT HA
      go_enter Try.func24, Try.ntmps24
      go_wp2_with (first | (go_at_call 52; (with_reducible refine (HJ.out _).mono ?_); rintro ee w1 ⟨rfl, rfl⟩) | (go_at_call 52; (with_reducible refine (HF.out _).mono ?_); rintro ee w1 ⟨rfl, rfl⟩))
      (go_returns; exact ⟨by rw [HQ.out.1, HQ.out.2]; rfl, by go_grown⟩)
    | true =>
      rw [h2] at HF
      have HF := Lib.hid HF
      cases h3 : inR 0 35999 t with
      | false =>
        have HQ := totC_2 (f := f) (t := t) (xs := xs) (j := j) (by simp [h3])
        rw [h3] at HT
        have HT := Lib.hid HT
        clear h1 h2 h3 HA
        go_enter Try.func24, Try.ntmps24
        go_wp2_with (first | (go_at_call 52; (with_reducible refine (HJ.out _).mono ?_); rintro ee w1 ⟨rfl, rfl⟩) | (go_at_call 52; (with_reducible refine (HF.out _).mono ?_); rintro ee w1 ⟨rfl, rfl⟩) | (go_at_call 52; (with_reducible refine (HT.out _).mono ?_); rintro ee w1 ⟨rfl, rfl⟩))
        (go_returns; exact ⟨by rw [HQ.out.1, HQ.out.2]; rfl, by go_grown⟩)
      | true =>
        rw [h3] at HT
        have HT := Lib.hid HT
        cases h6 : areP j xs with
        | false =>
          have HQ := totC_1 (xs := xs) ⟨h1, h2, h3⟩ h6
          rw [h6] at HA
          have HA := Lib.hid HA
          clear h1 h2 h3 h6
          go_enter Try.func24, Try.ntmps24
          go_wp2_with (first | (go_at_call 52; (with_reducible refine (HJ.out _).mono ?_); rintro ee w1 ⟨rfl, rfl⟩) | (go_at_call 52; (with_reducible refine (HF.out _).mono ?_); rintro ee w1 ⟨rfl, rfl⟩) | (go_at_call 52; (with_reducible refine (HT.out _).mono ?_); rintro ee w1 ⟨rfl, rfl⟩) | (go_at_call 26; (with_reducible refine (HA.out _ H.out).mono ?_); rintro ee w2 ⟨rfl, hb2⟩; have hB2 := bel_step (w := w) (by go_grown) hb2; have hs2 := hB2.size))
          (go_returns; exact ⟨by rw [HQ.out.1, HQ.out.2]; rfl, by go_grown⟩)
        | true =>
          have HQ := totC_0 (xs := xs) ⟨h1, h2, h3⟩ h6
          have hok := areP_okA h6
          have hlen := (areP_split h6).2.1
          have hn : n ≤ 100 := by have := hl.out; omega
          have ht := inR_iff.1 h3
          rw [h6] at HA
          have HA := Lib.hid HA
          clear h1 h2 h3 h6 hlen
          have HB := Lib.hid (fun k hk => paid_bd (p := inR f (t - 1)) hok k (by rw [hl.out]; exact hk))
          have HO := Lib.hid hok
          clear hok
          go_enter Try.func24, Try.ntmps24
          go_wp2_with (first | (go_at_call 52; (with_reducible refine (HJ.out _).mono ?_); rintro ee w1 ⟨rfl, rfl⟩) | (go_at_call 52; (with_reducible refine (HF.out _).mono ?_); rintro ee w1 ⟨rfl, rfl⟩) | (go_at_call 52; (with_reducible refine (HT.out _).mono ?_); rintro ee w1 ⟨rfl, rfl⟩) | (go_at_call 26; (with_reducible refine (HA.out _ H.out).mono ?_); rintro ee w2 ⟨rfl, hb2⟩; have hB2 := bel_step (w := w) (by go_grown) hb2; have hs2 := hB2.size))
          go_loopw [10, 34] (fun s i wr => ∃ k : Nat, k ≤ n ∧ i = .int .i64 k ∧ s = .int .i64 (paidL (inR f (t - 1)) (xs.take k)) ∧ Below w.heap.size w wr) (fun _ i _ => n - (intOf i).toNat)
          case atStart => exact ⟨0, Nat.zero_le _, rfl, rfl, hB2⟩
          case round =>
            obtain ⟨k, hk, rfl, rfl, hR⟩ := hrel
            obtain ⟨hb0, hb1⟩ := HB.out k hk
            have hs := hR.size
            by_cases hlt : k < n
            · obtain ⟨ad, m, a, rfl, hb, hz, hx, hy⟩ := RdP.atP (H.out.below hR) hlt
              obtain ⟨ha1, ha2⟩ := HO.out _ _ _ hz
              have HTk := paidL_take (inR f (t - 1)) hz
              have HM := Lib.hid (fun W => inRange_any m f (t - 1) W)
              clear hz
              cases hq : inR f (t - 1) m with
              | true =>
                rw [hq] at HM
                rw [hq, if_pos rfl] at HTk
                have HT2 := Lib.hid HTk
                clear hq HTk
                go_wp2_with (go_at_call 44; (with_reducible refine (HM.out _).mono ?_); rintro ee w1 ⟨rfl, rfl⟩)
                go_roundw
                case rel => exact ⟨k + 1, by omega, by go_num, by rw [HT2.out], by go_grown⟩
                case measure => simp [intOf]; omega
              | false =>
                rw [hq] at HM
                rw [hq, if_neg (by simp), Int.add_zero] at HTk
                have HT2 := Lib.hid HTk
                clear hq HTk
                go_wp2_with (go_at_call 44; (with_reducible refine (HM.out _).mono ?_); rintro ee w1 ⟨rfl, rfl⟩)
                go_roundw
                case rel => exact ⟨k + 1, by omega, by go_num, by rw [HT2.out], by go_grown⟩
                case measure => simp [intOf]; omega
            · have HE := takes hl (Nat.not_lt.1 hlt)
              go_wp2
              go_returns
              exact ⟨by rw [HQ.out.1, HQ.out.2, HE.out]; rfl, by go_grown⟩
set_option maxHeartbeats 4000000 in
theorem sTotalPaid_any (j : Int) (A : Option Addr) (n c : Nat) (xs : List (Int × Int)) (f t : Int) (w : World) (h : RdP w w.heap.size A n xs) (hm : n ≤ 1048576) : Calls Try.prog 25 #[.int .i64 j, .slice A n c, .int .i64 f, .int .i64 t] w fun ee w' => ee = .returned (.tuple #[.int .i64 (totV j f t xs), .int .i64 (totC j f t xs)]) ∧ Below w.heap.size w w' := by
  have HA := fun W hR => sAreP_any j A n c xs W hR hm
  have HJ := fun W => l02Month_any j W
  have HF := fun W => l02Month_any f W
  have HT := fun W => l02Month_any t W
  have H := Lib.hid h
  have hl := Lib.hid h.len
  clear h
  cases h1 : inR 0 35999 j with
  | false =>
    have HQ := totC_2 (f := f) (t := t) (xs := xs) (j := j) (by simp [h1])
    rw [h1] at HJ
    have HJ := Lib.hid HJ
    clear h1 HF HT HA
    go_enter Try.func25, Try.ntmps25
    go_wp2_with (go_at_call 53; (with_reducible refine (HJ.out _).mono ?_); rintro ee w1 ⟨rfl, rfl⟩)
    (go_returns; exact ⟨by rw [HQ.out.1, HQ.out.2]; rfl, by go_grown⟩)
  | true =>
    rw [h1] at HJ
    have HJ := Lib.hid HJ
    cases h2 : inR 0 35999 f with
    | false =>
      have HQ := totC_2 (f := f) (t := t) (xs := xs) (j := j) (by simp [h2])
      rw [h2] at HF
      have HF := Lib.hid HF
      clear h1 h2 HT HA
      go_enter Try.func25, Try.ntmps25
      go_wp2_with (first | (go_at_call 53; (with_reducible refine (HJ.out _).mono ?_); rintro ee w1 ⟨rfl, rfl⟩) | (go_at_call 53; (with_reducible refine (HF.out _).mono ?_); rintro ee w1 ⟨rfl, rfl⟩))
      (go_returns; exact ⟨by rw [HQ.out.1, HQ.out.2]; rfl, by go_grown⟩)
    | true =>
      rw [h2] at HF
      have HF := Lib.hid HF
      cases h3 : inR 0 35999 t with
      | false =>
        have HQ := totC_2 (f := f) (t := t) (xs := xs) (j := j) (by simp [h3])
        rw [h3] at HT
        have HT := Lib.hid HT
        clear h1 h2 h3 HA
        go_enter Try.func25, Try.ntmps25
        go_wp2_with (first | (go_at_call 53; (with_reducible refine (HJ.out _).mono ?_); rintro ee w1 ⟨rfl, rfl⟩) | (go_at_call 53; (with_reducible refine (HF.out _).mono ?_); rintro ee w1 ⟨rfl, rfl⟩) | (go_at_call 53; (with_reducible refine (HT.out _).mono ?_); rintro ee w1 ⟨rfl, rfl⟩))
        (go_returns; exact ⟨by rw [HQ.out.1, HQ.out.2]; rfl, by go_grown⟩)
      | true =>
        rw [h3] at HT
        have HT := Lib.hid HT
        cases h6 : areP j xs with
        | false =>
          have HQ := totC_1 (xs := xs) ⟨h1, h2, h3⟩ h6
          rw [h6] at HA
          have HA := Lib.hid HA
          clear h1 h2 h3 h6
          go_enter Try.func25, Try.ntmps25
          go_wp2_with (first | (go_at_call 53; (with_reducible refine (HJ.out _).mono ?_); rintro ee w1 ⟨rfl, rfl⟩) | (go_at_call 53; (with_reducible refine (HF.out _).mono ?_); rintro ee w1 ⟨rfl, rfl⟩) | (go_at_call 53; (with_reducible refine (HT.out _).mono ?_); rintro ee w1 ⟨rfl, rfl⟩) | (go_at_call 27; (with_reducible refine (HA.out _ H.out).mono ?_); rintro ee w2 ⟨rfl, hb2⟩; have hB2 := bel_step (w := w) (by go_grown) hb2; have hs2 := hB2.size))
          (go_returns; exact ⟨by rw [HQ.out.1, HQ.out.2]; rfl, by go_grown⟩)
        | true =>
          have HQ := totC_0 (xs := xs) ⟨h1, h2, h3⟩ h6
          have hok := areP_okA h6
          have hlen := (areP_split h6).2.1
          have hn : n ≤ 100 := by have := hl.out; omega
          have ht := inR_iff.1 h3
          rw [h6] at HA
          have HA := Lib.hid HA
          clear h1 h2 h3 h6 hlen
          have HP := Lib.hid (fun W hR => l16Paid_any f t A n c xs W hR hok hn (by omega))
          clear hok
          go_enter Try.func25, Try.ntmps25
          go_wp2_with (first | (go_at_call 53; (with_reducible refine (HJ.out _).mono ?_); rintro ee w1 ⟨rfl, rfl⟩) | (go_at_call 53; (with_reducible refine (HF.out _).mono ?_); rintro ee w1 ⟨rfl, rfl⟩) | (go_at_call 53; (with_reducible refine (HT.out _).mono ?_); rintro ee w1 ⟨rfl, rfl⟩) | (go_at_call 27; (with_reducible refine (HA.out _ H.out).mono ?_); rintro ee w2 ⟨rfl, hb2⟩; have hB2 := bel_step (w := w) (by go_grown) hb2; have hs2 := hB2.size) | (go_at_call 54; (with_reducible refine (HP.out _ (H.out.later hb2)).mono ?_); rintro ee w1 ⟨rfl, rfl⟩))
          (go_returns; exact ⟨by rw [HQ.out.1, HQ.out.2]; rfl, by go_grown⟩)
/-- the balance in a month -/
def balL (j cb m : Int) (xs : List (Int × Int)) : Int := paidL (inR j m) xs - cb * (m - j + 1)
theorem bal_bd {j cb m : Int} (h1 : inR 0 35999 j = true) (h2 : inR 1 1000000 cb = true) (h3 : inR j 35999 m = true) : 0 ≤ cb * (m - j + 1) ∧ cb * (m - j + 1) ≤ 36000000000 := by
  rw [inR_iff] at h1 h2 h3
  exact ⟨Int.mul_nonneg (by omega) (by omega), Int.le_trans (Int.mul_le_mul h2.2 (by omega : m - j + 1 ≤ 36000) (by omega) (by omega)) (by omega)⟩
theorem paid_total_bd {p : Int → Bool} {xs : List (Int × Int)} {n : Nat} (h : okA xs) (hl : xs.length = n) (hn : n ≤ 100) : 0 ≤ paidL p xs ∧ paidL p xs ≤ 10000000000 := by
  have := paid_bd (p := p) h xs.length (Nat.le_refl _)
  rw [List.take_length] at this
  omega
set_option maxHeartbeats 2000000 in
theorem sBal_any (j cb m : Int) (A : Option Addr) (n c : Nat) (xs : List (Int × Int)) (w : World) (h : RdP w w.heap.size A n xs) (h1 : inR 0 35999 j = true) (h2 : inR 1 1000000 cb = true) (h3 : inR j 35999 m = true) (h4 : areP j xs = true) :
    Calls Try.prog 50 #[.int .i64 j, .int .i64 cb, .slice A n c, .int .i64 m] w fun ee w' => ee = .returned (.int .i64 (balL j cb m xs)) ∧ w = w' := by
  have hl := h.len
  have hn := (areP_split h4).2.1
  have hok := areP_okA h4
  have hb := bal_bd h1 h2 h3
  have hp := paid_total_bd (p := inR j m) hok hl (by omega)
  rw [inR_iff] at h1 h2 h3
  have HP := l16Paid_any j (m + 1) A n c xs w h hok (by omega) (by omega)
  rw [Int.add_sub_cancel] at HP
  have HP := Lib.hid HP
  clear h h4 hl hn hok
  go_enter Try.func50, Try.ntmps50
  go_wp2_with (go_at_call 54; (with_reducible refine (HP.out).mono ?_); rintro ee w1 ⟨rfl, rfl⟩)
  go_ret
  exact ⟨rfl, rfl⟩
set_option maxHeartbeats 2000000 in
theorem iBal_any (j cb m : Int) (A : Option Addr) (n c : Nat) (xs : List (Int × Int)) (w : World) (h : RdP w w.heap.size A n xs) (h1 : inR 0 35999 j = true) (h2 : inR 1 1000000 cb = true) (h3 : inR j 35999 m = true) (h4 : areP j xs = true) :
    Calls Try.prog 49 #[.int .i64 j, .int .i64 cb, .slice A n c, .int .i64 m] w fun ee w' => ee = .returned (.int .i64 (balL j cb m xs)) ∧ Below w.heap.size w w' := by
  have hl := Lib.hid h.len
  have hn : n ≤ 100 := by have := (areP_split h4).2.1; have := h.len; omega
  have hok := areP_okA h4
  have hb := bal_bd h1 h2 h3
  have hC : paidL (inR j m) xs = paidL (fun x => decide (x ≤ m)) xs := paidL_congr (fun i x a hi => by
    have := (payOk_all (areP_split h4).2.2 i x a hi).2.1
    unfold inR
    simp [this])
  have hneg : -cb * (m - j + 1) = -(cb * (m - j + 1)) := Int.neg_mul _ _
  have HD : Hid (balL j cb m xs = -(cb * (m - j + 1)) + paidL (fun x => decide (x ≤ m)) xs) := by show _ = _; unfold balL; rw [hC]; omega
  rw [inR_iff] at h1 h2 h3
  have hb2 : -36000000000 ≤ -cb * (m - j + 1) ∧ -cb * (m - j + 1) ≤ 0 := by rw [hneg]; omega
  have HB := Lib.hid (fun k hk => paid_bd (p := fun x => decide (x ≤ m)) hok k (by rw [hl.out]; exact hk))
  have HO := Lib.hid hok
  have H := Lib.hid h
  have HN := Lib.hid hneg
  clear hok hC h4 h hneg
  go_enter Try.func49, Try.ntmps49
  go_wp2
  generalize -cb * (m - j + 1) = S0 at *
  go_loopw [9, 21] (fun s i wr => ∃ k : Nat, k ≤ n ∧ i = .int .i64 k ∧ s = .int .i64 (S0 + paidL (fun x => decide (x ≤ m)) (xs.take k)) ∧ Below w.heap.size w wr) (fun _ i _ => n - (intOf i).toNat)
  case atStart => exact ⟨0, Nat.zero_le _, rfl, by simp [paidL], Below.refl _ _⟩
  case round =>
    obtain ⟨k, hk, rfl, rfl, hR⟩ := hrel
    obtain ⟨hb0, hb1⟩ := HB.out k hk
    have hs := hR.size
    by_cases hlt : k < n
    · obtain ⟨ad, x, a, rfl, hb, hz, hx, hy⟩ := RdP.atP (H.out.below hR) hlt
      obtain ⟨ha1, ha2⟩ := HO.out _ _ _ hz
      have HTk := paidL_take (fun x => decide (x ≤ m)) hz
      clear hz
      by_cases hq : x ≤ m
      · rw [if_pos (by simpa using hq)] at HTk
        have HT2 := Lib.hid HTk
        clear HTk
        go_wp2
        go_roundw
        case rel => exact ⟨k + 1, by omega, by go_num, by rw [HT2.out, Int.add_assoc], by go_grown⟩
        case measure => simp [intOf]; omega
      · rw [if_neg (by simpa using hq), Int.add_zero] at HTk
        have HT2 := Lib.hid HTk
        clear HTk
        go_wp2
        go_roundw
        case rel => exact ⟨k + 1, by omega, by go_num, by rw [HT2.out], by go_grown⟩
        case measure => simp [intOf]; omega
    · have HE := takes hl (Nat.not_lt.1 hlt)
      go_wp2
      go_ret
      exact ⟨by rw [HD.out, ← HN.out, HE.out]; rfl, by go_grown⟩
/-- what the functions of a member and a month return: 'f' where the code is 0 -/
def memV (j cb m : Int) (xs : List (Int × Int)) (v : Int) : Int := if memC j cb m xs = 0 then v else 0
theorem memC_cases (j cb m : Int) (xs : List (Int × Int)) : (memC j cb m xs = 0 ∧ inR 0 35999 j = true ∧ inR 1 1000000 cb = true ∧ inR j 35999 m = true ∧ areP j xs = true) ∨ memC j cb m xs = 1 ∨ memC j cb m xs = 2 := by
  unfold memC
  by_cases h : inR 0 35999 j = true ∧ inR 1 1000000 cb = true ∧ inR j 35999 m = true
  · rw [if_pos h]
    by_cases h2 : areP j xs = true
    · rw [if_pos h2]; exact .inl ⟨rfl, h.1, h.2.1, h.2.2, h2⟩
    · rw [if_neg h2]; exact .inr (.inl rfl)
  · rw [if_neg h]; exact .inr (.inr rfl)
set_option maxHeartbeats 2000000 in
theorem iBalanceIn_any (j cb : Int) (A : Option Addr) (n c : Nat) (xs : List (Int × Int)) (m : Int) (w : World) (h : RdP w w.heap.size A n xs) (hm : n ≤ 1048576) : Calls Try.prog 19 #[.int .i64 j, .int .i64 cb, .slice A n c, .int .i64 m] w fun ee w' => ee = .returned (.tuple #[.int .i64 (memV j cb m xs (balL j cb m xs)), .int .i64 (memC j cb m xs)]) ∧ Below w.heap.size w w' := by
  have H1 := iMem_any j cb A n c xs m w h hm
  unfold memV
  rcases memC_cases j cb m xs with ⟨h0, hj, hc, hmm, ha⟩ | h0 | h0
  all_goals rw [h0] at H1 ⊢
  · have H2 := Lib.hid (fun W hR => iBal_any j cb m A n c xs W hR hj hc hmm ha)
    have H1 := Lib.hid H1
    have H := Lib.hid h
    clear h h0 hj hc hmm ha
    rw [if_pos rfl]
    go_enter Try.func19, Try.ntmps19
    go_wp2_with (go_at_call 37; (with_reducible refine (H1.out).mono ?_); rintro ee w1 ⟨rfl, hb1⟩; have hB1 := bel_step (w := w) (by go_grown) hb1; have hs1 := hB1.size)
    go_wp2_with (go_at_call 49; (with_reducible refine (H2.out _ (H.out.later hb1)).mono ?_); rintro ee w2 ⟨rfl, hb2⟩; have hB2 := bel_step (w := w) (by go_grown) hb2; have hs2 := hB2.size)
    go_returns
    exact ⟨rfl, by go_grown⟩
  all_goals
    have H1 := Lib.hid H1
    rw [if_neg (by decide)]
    clear h0 h
    go_enter Try.func19, Try.ntmps19
    go_wp2_with (go_at_call 37; (with_reducible refine (H1.out).mono ?_); rintro ee w1 ⟨rfl, hb1⟩; have hB1 := bel_step (w := w) (by go_grown) hb1; have hs1 := hB1.size)
    go_returns
    exact ⟨rfl, by go_grown⟩
set_option maxHeartbeats 2000000 in
theorem sBalanceIn_any (j cb : Int) (A : Option Addr) (n c : Nat) (xs : List (Int × Int)) (m : Int) (w : World) (h : RdP w w.heap.size A n xs) (hm : n ≤ 1048576) : Calls Try.prog 20 #[.int .i64 j, .int .i64 cb, .slice A n c, .int .i64 m] w fun ee w' => ee = .returned (.tuple #[.int .i64 (memV j cb m xs (balL j cb m xs)), .int .i64 (memC j cb m xs)]) ∧ Below w.heap.size w w' := by
  have H1 := sMem_any j cb A n c xs m w h hm
  unfold memV
  rcases memC_cases j cb m xs with ⟨h0, hj, hc, hmm, ha⟩ | h0 | h0
  all_goals rw [h0] at H1 ⊢
  · have H2 := Lib.hid (fun W hR => sBal_any j cb m A n c xs W hR hj hc hmm ha)
    have H1 := Lib.hid H1
    have H := Lib.hid h
    clear h h0 hj hc hmm ha
    rw [if_pos rfl]
    go_enter Try.func20, Try.ntmps20
    go_wp2_with (go_at_call 34; (with_reducible refine (H1.out).mono ?_); rintro ee w1 ⟨rfl, hb1⟩; have hB1 := bel_step (w := w) (by go_grown) hb1; have hs1 := hB1.size)
    go_wp2_with (go_at_call 50; (with_reducible refine (H2.out _ (H.out.later hb1)).mono ?_); rintro ee w2 ⟨rfl, rfl⟩)
    go_returns
    exact ⟨rfl, by go_grown⟩
  all_goals
    have H1 := Lib.hid H1
    rw [if_neg (by decide)]
    clear h0 h
    go_enter Try.func20, Try.ntmps20
    go_wp2_with (go_at_call 34; (with_reducible refine (H1.out).mono ?_); rintro ee w1 ⟨rfl, hb1⟩; have hB1 := bel_step (w := w) (by go_grown) hb1; have hs1 := hB1.size)
    go_returns
    exact ⟨rfl, by go_grown⟩
/-- the arrears in a month -/
def arrL (j cb m : Int) (xs : List (Int × Int)) : Int := if balL j cb m xs ≤ 0 then -balL j cb m xs else 0
theorem balL_bd {j cb m : Int} {xs : List (Int × Int)} (h1 : inR 0 35999 j = true) (h2 : inR 1 1000000 cb = true) (h3 : inR j 35999 m = true) (h4 : areP j xs = true) : -36000000000 ≤ balL j cb m xs ∧ balL j cb m xs ≤ 10000000000 := by
  have hb := bal_bd h1 h2 h3
  have hp := paid_total_bd (p := inR j m) (areP_okA h4) rfl (areP_split h4).2.1
  unfold balL
  omega
theorem arrL_neg {j cb m : Int} {xs : List (Int × Int)} (h : balL j cb m xs ≤ 0) : Hid (arrL j cb m xs = -balL j cb m xs) := by show _ = _; unfold arrL; rw [if_pos h]
theorem arrL_pos {j cb m : Int} {xs : List (Int × Int)} (h : ¬ balL j cb m xs ≤ 0) : Hid (arrL j cb m xs = 0) := by show _ = _; unfold arrL; rw [if_neg h]
set_option maxHeartbeats 2000000 in
theorem sArr_any (j cb m : Int) (A : Option Addr) (n c : Nat) (xs : List (Int × Int)) (w : World) (h : RdP w w.heap.size A n xs) (h1 : inR 0 35999 j = true) (h2 : inR 1 1000000 cb = true) (h3 : inR j 35999 m = true) (h4 : areP j xs = true) :
    Calls Try.prog 35 #[.int .i64 j, .int .i64 cb, .slice A n c, .int .i64 m] w fun ee w' => ee = .returned (.int .i64 (arrL j cb m xs)) ∧ w = w' := by
  have H1 := sBal_any j cb m A n c xs w h h1 h2 h3 h4
  have hb := balL_bd h1 h2 h3 h4
  by_cases hn : balL j cb m xs ≤ 0
  · have HQ := arrL_neg hn
    generalize balL j cb m xs = b at *
    have H1 := Lib.hid H1
    clear h h1 h2 h3 h4
    go_enter Try.func35, Try.ntmps35
    go_wp2_with (go_at_call 50; (with_reducible refine (H1.out).mono ?_); rintro ee w1 ⟨rfl, rfl⟩)
    all_goals go_ret
    all_goals first | exact ⟨by rw [HQ.out]; rfl, rfl⟩ | exact ⟨by rw [HQ.out]; exact ret_int (by omega), rfl⟩
  · have HQ := arrL_pos hn
    generalize balL j cb m xs = b at *
    have H1 := Lib.hid H1
    clear h h1 h2 h3 h4
    go_enter Try.func35, Try.ntmps35
    go_wp2_with (go_at_call 50; (with_reducible refine (H1.out).mono ?_); rintro ee w1 ⟨rfl, rfl⟩)
    all_goals go_ret
    all_goals first | exact ⟨by rw [HQ.out]; rfl, rfl⟩ | exact ⟨by rw [HQ.out]; exact ret_int (by omega), rfl⟩
set_option maxHeartbeats 2000000 in
theorem sArrearsIn_any (j cb : Int) (A : Option Addr) (n c : Nat) (xs : List (Int × Int)) (m : Int) (w : World) (h : RdP w w.heap.size A n xs) (hm : n ≤ 1048576) : Calls Try.prog 22 #[.int .i64 j, .int .i64 cb, .slice A n c, .int .i64 m] w fun ee w' => ee = .returned (.tuple #[.int .i64 (memV j cb m xs (arrL j cb m xs)), .int .i64 (memC j cb m xs)]) ∧ Below w.heap.size w w' := by
  have H1 := sMem_any j cb A n c xs m w h hm
  unfold memV
  rcases memC_cases j cb m xs with ⟨h0, hj, hc, hmm, ha⟩ | h0 | h0
  all_goals rw [h0] at H1 ⊢
  · rw [if_pos rfl]
    have H2 := Lib.hid (fun W hR => sArr_any j cb m A n c xs W hR hj hc hmm ha)
    have H1 := Lib.hid H1
    have H := Lib.hid h
    clear h h0 hj hc hmm ha
    go_enter Try.func22, Try.ntmps22
    go_wp2_with (go_at_call 34; (with_reducible refine (H1.out).mono ?_); rintro ee w1 ⟨rfl, hb1⟩; have hB1 := bel_step (w := w) (by go_grown) hb1; have hs1 := hB1.size)
    go_wp2_with (go_at_call 35; (with_reducible refine (H2.out _ (H.out.later hb1)).mono ?_); rintro ee w2 ⟨rfl, rfl⟩)
    go_returns
    exact ⟨rfl, by go_grown⟩
  all_goals
    have H1 := Lib.hid H1
    rw [if_neg (by decide)]
    clear h0 h
    go_enter Try.func22, Try.ntmps22
    go_wp2_with (go_at_call 34; (with_reducible refine (H1.out).mono ?_); rintro ee w1 ⟨rfl, hb1⟩; have hB1 := bel_step (w := w) (by go_grown) hb1; have hs1 := hB1.size)
    go_returns
    exact ⟨rfl, by go_grown⟩
set_option maxHeartbeats 2000000 in
theorem iArrearsIn_any (j cb : Int) (A : Option Addr) (n c : Nat) (xs : List (Int × Int)) (m : Int) (w : World) (h : RdP w w.heap.size A n xs) (hm : n ≤ 1048576) : Calls Try.prog 21 #[.int .i64 j, .int .i64 cb, .slice A n c, .int .i64 m] w fun ee w' => ee = .returned (.tuple #[.int .i64 (memV j cb m xs (arrL j cb m xs)), .int .i64 (memC j cb m xs)]) ∧ Below w.heap.size w w' := by
  have H1 := iMem_any j cb A n c xs m w h hm
  unfold memV
  rcases memC_cases j cb m xs with ⟨h0, hj, hc, hmm, ha⟩ | h0 | h0
  all_goals rw [h0] at H1 ⊢
  · rw [if_pos rfl]
    have H2 := fun W hR => iBal_any j cb m A n c xs W hR hj hc hmm ha
    have hb := balL_bd hj hc hmm ha
    have H1 := Lib.hid H1
    have H := Lib.hid h
    by_cases hn : balL j cb m xs ≤ 0
    · have HQ := arrL_neg hn
      generalize balL j cb m xs = b at *
      have H2 := Lib.hid H2
      clear h h0 hj hc hmm ha
      go_enter Try.func21, Try.ntmps21
      go_wp2_with (go_at_call 37; (with_reducible refine (H1.out).mono ?_); rintro ee w1 ⟨rfl, hb1⟩; have hB1 := bel_step (w := w) (by go_grown) hb1; have hs1 := hB1.size)
      go_wp2_with (go_at_call 49; (with_reducible refine (H2.out _ (H.out.later hb1)).mono ?_); rintro ee w2 ⟨rfl, hb2⟩; have hB2 := bel_step (w := w) (by go_grown) hb2; have hs2 := hB2.size)
      all_goals go_returns
      all_goals first | exact ⟨by rw [HQ.out]; rfl, by go_grown⟩ | exact ⟨by rw [HQ.out, show b = 0 from by omega]; rfl, by go_grown⟩
    · have HQ := arrL_pos hn
      generalize balL j cb m xs = b at *
      have H2 := Lib.hid H2
      clear h h0 hj hc hmm ha
      go_enter Try.func21, Try.ntmps21
      go_wp2_with (go_at_call 37; (with_reducible refine (H1.out).mono ?_); rintro ee w1 ⟨rfl, hb1⟩; have hB1 := bel_step (w := w) (by go_grown) hb1; have hs1 := hB1.size)
      go_wp2_with (go_at_call 49; (with_reducible refine (H2.out _ (H.out.later hb1)).mono ?_); rintro ee w2 ⟨rfl, hb2⟩; have hB2 := bel_step (w := w) (by go_grown) hb2; have hs2 := hB2.size)
      all_goals go_returns
      all_goals first | exact ⟨by rw [HQ.out]; rfl, by go_grown⟩ | exact ⟨by rw [HQ.out, show b = 0 from by omega]; rfl, by go_grown⟩
  all_goals
    have H1 := Lib.hid H1
    rw [if_neg (by decide)]
    clear h0 h
    go_enter Try.func21, Try.ntmps21
    go_wp2_with (go_at_call 37; (with_reducible refine (H1.out).mono ?_); rintro ee w1 ⟨rfl, hb1⟩; have hB1 := bel_step (w := w) (by go_grown) hb1; have hs1 := hB1.size)
    go_returns
    exact ⟨rfl, by go_grown⟩
end Go.Proofs.Ytnklpdckclgilaa
