/-
  Contracts of the functions of chapter 15: the day on which the pay is exhausted.
-/
import Derived.Test.YtldemcdocpdkfaaD5
set_option linter.unusedSimpArgs false
set_option linter.unusedVariables false
namespace Go.Proofs.Ytldemcdocpdkfaa
open Go.RowKit
theorem exh_bad {xs : List (Int × Int)} (h : areS xs = false) : exhC xs = 1 := by unfold exhC; rw [if_neg (by simp [h])]
theorem exh_none {xs : List (Int × Int)} (h : areS xs = true) (h2 : exhD xs = none) : exhC xs = 4 ∧ exhV xs = 0 := by
  unfold exhC exhV
  rw [if_pos h, h2]
  exact ⟨rfl, rfl⟩
theorem exh_some {xs : List (Int × Int)} {d : Int} (h : areS xs = true) (h2 : exhD xs = some d) : exhC xs = 0 ∧ exhV xs = d := by
  unfold exhC exhV
  rw [if_pos h, h2]
  exact ⟨rfl, rfl⟩
def exW (xs : List (Int × Int)) : Int := if areS xs = true then exhV xs else 0
set_option maxHeartbeats 2000000 in
theorem iExh_any (A : Option Addr) (n c : Nat) (xs : List (Int × Int)) (w : World) (h : RdP w w.heap.size A n xs) (hm : n ≤ 1048576) : Calls Try.prog 21 #[.slice A n c] w fun ee w' => ee = .returned (.tuple #[.int .i64 (exW xs), .int .i64 (exhC xs)]) ∧ Below w.heap.size w w' := by
  have HA := fun W hR => iAreS_any A n c xs W hR hm
  have H := Lib.hid h
  have hl := h.len
  cases ha : areS xs with
  | false =>
    have HQ : Hid (exhC xs = 1 ∧ exW xs = 0) := ⟨exh_bad ha, if_neg (by simp [ha])⟩
    rw [ha] at HA
    have HA := Lib.hid HA
    clear h hl
    go_enter Try.func21, Try.ntmps21
    go_wp2_with (go_at_call 16; (with_reducible refine Calls.mono (HA.out _ H.out) ?_); rintro ee w1 ⟨rfl, hb1⟩; have hB1 := bel_step (Below.refl _ _) hb1)
    go_returns
    exact ⟨by rw [HQ.out.1, HQ.out.2]; rfl, hB1⟩
  | true =>
    have HV : Hid (exW xs = exhV xs) := if_pos ha
    have HNo := Lib.hid (fun e => exh_none ha e)
    have HSo := Lib.hid (fun d e => exh_some (d := d) ha e)
    have HD : Hid (exhD xs = exhF xs 0 n) := by show _ = _; unfold exhD; rw [hl]
    rw [ha] at HA
    have hn := (areS_split ha).1
    rw [hl] at hn
    have HB := Lib.hid (befN_bd ha)
    have HX := Lib.hid (fun (i : Nat) (f t : Int) (hi : xs[i]? = some (f, t)) => areS_at ha hi)
    have hl := Lib.hid hl
    have HA := Lib.hid HA
    have HG := Lib.hid (fun W hR k hk => iBeg_any A n c xs W hR k hk hn ha)
    clear h ha
    go_enter Try.func21, Try.ntmps21
    go_wp2_with (go_at_call 16; (with_reducible refine Calls.mono (HA.out _ H.out) ?_); rintro ee w1 ⟨rfl, hb1⟩; have hB1 := bel_step (Below.refl _ _) hb1)
    go_loopw [4, 13] (fun b i wr => ∃ k : Nat, k ≤ n ∧ i = .int .i64 k ∧ b = .int .i64 (befN xs k) ∧ Below w.heap.size w wr ∧ Hid (exhD xs = exhF xs k (n - k))) (fun _ i _ => n - (intOf i).toNat)
    case atStart => exact ⟨0, Nat.zero_le _, rfl, rfl, hB1, HD.out⟩
    case round =>
      obtain ⟨k, hk, rfl, rfl, hR, HP⟩ := hrel
      have hb0 := HB.out k (by rw [hl.out]; exact hk)
      by_cases hlt : k < n
      · obtain ⟨ad, f, t, rfl, hb, hz, hx, hy⟩ := RdP.atP (H.out.below hR) hlt
        have hft := HX.out _ _ _ hz
        have HN := befN_succ hz
        have HT := Lib.hid (exhF_hit' hz hlt)
        have HM := Lib.hid (exhF_miss' (xs := xs) hlt)
        have HGk := fun W hR => HG.out W hR k hlt
        clear hz
        cases hq : begB xs k
        case' true => rw [befB_t hq, Int.zero_add] at HN
        case' false => rw [befB_f hq] at HN
        all_goals
          rw [hq] at HGk
          rw [HN] at HT HM
          have HNh := Lib.hid HN
          have HGk := Lib.hid HGk
          clear hq HN
        · by_cases h3 : 367 < befN xs k + (t - f)
          · have HQ := Lib.hid (HSo.out _ (HP.out.trans (HT.out h3)))
            generalize befN xs k = b0 at *
            go_wp2_with (go_at_call 51; (with_reducible refine Calls.mono (HGk.out _ (H.out.later (hR.alloc hR.size _))) ?_); rintro ee w2 ⟨rfl, hb2⟩; have hB2 := bel_step (hR.alloc hR.size _) hb2; obtain ⟨hc2, hf2⟩ := bcell hb2)
            go_returns
            exact ⟨by rw [HQ.out.1, HV.out, HQ.out.2]; rfl, hB2⟩
          · have HQ := Lib.hid (HM.out h3)
            generalize befN xs k = b0 at *
            go_wp2_with (go_at_call 51; (with_reducible refine Calls.mono (HGk.out _ (H.out.later (hR.alloc hR.size _))) ?_); rintro ee w2 ⟨rfl, hb2⟩; have hB2 := bel_step (hR.alloc hR.size _) hb2; obtain ⟨hc2, hf2⟩ := bcell hb2)
            go_roundw
            case rel => exact ⟨k + 1, by omega, by go_num, by rw [HNh.out], hB2, HP.out.trans HQ.out⟩
            case measure => simp [intOf]; omega
        · by_cases h3 : 367 < t - f
          · have HQ := Lib.hid (HSo.out _ (HP.out.trans (HT.out h3)))
            go_wp2_with (go_at_call 51; (with_reducible refine Calls.mono (HGk.out _ (H.out.later (hR.alloc hR.size _))) ?_); rintro ee w2 ⟨rfl, hb2⟩; have hB2 := bel_step (hR.alloc hR.size _) hb2; obtain ⟨hc2, hf2⟩ := bcell hb2)
            go_returns
            exact ⟨by rw [HQ.out.1, HV.out, HQ.out.2]; rfl, hB2⟩
          · have HQ := Lib.hid (HM.out h3)
            go_wp2_with (go_at_call 51; (with_reducible refine Calls.mono (HGk.out _ (H.out.later (hR.alloc hR.size _))) ?_); rintro ee w2 ⟨rfl, hb2⟩; have hB2 := bel_step (hR.alloc hR.size _) hb2; obtain ⟨hc2, hf2⟩ := bcell hb2)
            go_roundw
            case rel => exact ⟨k + 1, by omega, by go_num, by rw [HNh.out], hB2, HP.out.trans HQ.out⟩
            case measure => simp [intOf]; omega
      · have HE := Lib.hid (HNo.out (by rw [HP.out, show n - k = 0 by omega]; rfl))
        go_wp2
        go_returns
        exact ⟨by rw [HE.out.1, HV.out, HE.out.2]; rfl, hR⟩
set_option maxHeartbeats 2000000 in
theorem sExh_any (A : Option Addr) (n c : Nat) (xs : List (Int × Int)) (w : World) (h : RdP w w.heap.size A n xs) (hm : n ≤ 1048576) : Calls Try.prog 20 #[.slice A n c] w fun ee w' => ee = .returned (.tuple #[.int .i64 (exW xs), .int .i64 (exhC xs)]) ∧ Below w.heap.size w w' := by
  have HA := fun W hR => sAreS_any A n c xs W hR hm
  have H := Lib.hid h
  have hl := h.len
  cases ha : areS xs with
  | false =>
    have HQ : Hid (exhC xs = 1 ∧ exW xs = 0) := ⟨exh_bad ha, if_neg (by simp [ha])⟩
    rw [ha] at HA
    have HA := Lib.hid HA
    clear h hl
    go_enter Try.func20, Try.ntmps20
    go_wp2_with (go_at_call 14; (with_reducible refine Calls.mono (HA.out _ H.out) ?_); rintro ee w1 ⟨rfl, hb1⟩; have hB1 := bel_step (Below.refl _ _) hb1)
    go_returns
    exact ⟨by rw [HQ.out.1, HQ.out.2]; rfl, hB1⟩
  | true =>
    have HV : Hid (exW xs = exhV xs) := if_pos ha
    have HNo := Lib.hid (fun e => exh_none ha e)
    have HSo := Lib.hid (fun d e => exh_some (d := d) ha e)
    have HD : Hid (exhD xs = exhF xs 0 n) := by show _ = _; unfold exhD; rw [hl]
    rw [ha] at HA
    have hn := (areS_split ha).1
    rw [hl] at hn
    have HB := Lib.hid (befN_bd ha)
    have HX := Lib.hid (fun (i : Nat) (f t : Int) (hi : xs[i]? = some (f, t)) => areS_at ha hi)
    have hl := Lib.hid hl
    have HA := Lib.hid HA
    have HU := Lib.hid (fun (k : Nat) (f t : Int) (hi : xs[k]? = some (f, t)) => numD_last ha hi)
    have HF := Lib.hid (fun (k : Nat) (f t : Int) (hi : xs[k]? = some (f, t)) => numD_first ha hi)
    have HG := Lib.hid (fun W hR d hd => sNum_any A n c xs W hR d hn hd ha)
    clear h ha
    go_enter Try.func20, Try.ntmps20
    go_wp2_with (go_at_call 14; (with_reducible refine Calls.mono (HA.out _ H.out) ?_); rintro ee w1 ⟨rfl, hb1⟩; have hB1 := bel_step (Below.refl _ _) hb1)
    go_loopw [5] (fun i wr => ∃ k : Nat, k ≤ n ∧ i = .int .i64 k ∧ befN xs k ≤ 367 ∧ Below w.heap.size w wr ∧ Hid (exhD xs = exhF xs k (n - k))) (fun i _ => n - (intOf i).toNat)
    case atStart => exact ⟨0, Nat.zero_le _, rfl, by simp [befN], hB1, HD.out⟩
    case round =>
      obtain ⟨k, hk, rfl, hle, hR, HP⟩ := hrel
      have hb0 := HB.out k (by rw [hl.out]; exact hk)
      by_cases hlt : k < n
      · obtain ⟨ad, f, t, rfl, hb, hz, hx, hy⟩ := RdP.atP (H.out.below hR) hlt
        have hft := HX.out _ _ _ hz
        have HN := befN_succ hz
        have HT := Lib.hid (exhF_hit' hz hlt)
        have HM := Lib.hid (exhF_miss' (xs := xs) hlt)
        have G1 := fun W hR => HG.out W hR (t - 1) (by omega)
        have G2 := fun W hR => HG.out W hR f (by omega)
        rw [HU.out k f t hz] at G1
        rw [HF.out k f t hz] at G2
        have hlt' : (k : Int) < (n : Int) := by omega
        have hbb : 0 ≤ befB xs k ∧ befB xs k ≤ 367 := by unfold befB; split <;> omega
        clear hz
        generalize befN xs k = b0 at *
        generalize befB xs k = b2 at *
        by_cases h3 : 367 < befN xs (k + 1)
        · have HQ := Lib.hid (HSo.out _ (HP.out.trans (HT.out h3)))
          generalize befN xs (k + 1) = b1 at *
          have hN1 : b1 ≤ b2 + (t - f) ∧ b2 + (t - f) ≤ b1 := by omega
          clear HN
          have G1 := Lib.hid G1
          have G2 := Lib.hid G2
          have tok1 : True := trivial
          go_wp2_with (first | (clear tok1; (go_at_call 50; (with_reducible refine Calls.mono (G1.out _ (H.out.later hR)) ?_); rintro ee w2 ⟨rfl, hb2⟩; have hB2 := bel_step hR hb2); have kx := keepC hb2 hx) | ((go_at_call 50; (with_reducible refine Calls.mono (G2.out _ (H.out.later hB2)) ?_); rintro ee w3 ⟨rfl, hb3⟩; have hB3 := bel_step hB2 hb3); have ky := keepC hb3 kx))
          all_goals go_returns
          all_goals exact ⟨by rw [HQ.out.1, HV.out, HQ.out.2]; exact ret_two (by omega) rfl, hB3⟩
        · have HQ := Lib.hid (HM.out h3)
          have H4 : Hid (befN xs (k + 1) ≤ 367) := Int.not_lt.1 h3
          generalize befN xs (k + 1) = b1 at G1 h3
          clear HN
          have G1 := Lib.hid G1
          go_wp2_with ((go_at_call 50; (with_reducible refine Calls.mono (G1.out _ (H.out.later hR)) ?_); rintro ee w2 ⟨rfl, hb2⟩; have hB2 := bel_step hR hb2))
          go_roundw
          case rel => exact ⟨k + 1, by omega, by go_num, H4.out, hB2, HP.out.trans HQ.out⟩
          case measure => simp [intOf]; omega
      · have HE := Lib.hid (HNo.out (by rw [HP.out, show n - k = 0 by omega]; rfl))
        go_wp2
        go_returns
        exact ⟨by rw [HE.out.1, HV.out, HE.out.2]; rfl, hR⟩
end Go.Proofs.Ytldemcdocpdkfaa
