/-
  Contracts of the functions of chapter 15: cases, the days, the day on which the pay is exhausted.
-/
import Derived.Test.YtldemcdocpdkfaaB5
set_option linter.unusedSimpArgs false
set_option linter.unusedVariables false
namespace Go.Proofs.Ytldemcdocpdkfaa
open Go.RowKit
set_option maxHeartbeats 1000000 in
theorem iBeg_any (A : Option Addr) (n c : Nat) (xs : List (Int × Int)) (w : World) (h : RdP w w.heap.size A n xs) (k : Nat) (hk : k < n) (hn : n ≤ 20) (ha : areS xs = true) : Calls Try.prog 51 #[.slice A n c, .int .i64 (k : Int)] w fun ee w' => ee = .returned (.bool (begB xs k)) ∧ Below w.heap.size w w' := by
  obtain ⟨ad, f, t, rfl, hb, hz, hx, hy⟩ := RdP.atP h hk
  have hf := areS_at ha hz
  have HB := Lib.hid (begB_at hz)
  have hkn : (k : Int) < (n : Int) := by omega
  by_cases h0 : 0 < k
  · obtain ⟨ad2, f', t', e2, hb2, hz2, hx2, hy2⟩ := RdP.atP h (k := k - 1) (by omega)
    cases e2
    have hf2 := areS_at ha hz2
    have HL := Lib.hid (lastT_pos h0 hz2)
    have c0 : ∀ x : InC w, x.w.cell? (ad.add (k * 2)) = some (.int .i64 f) := fun x => x.cell hx
    have c1 : ∀ x : InC w, x.w.cell? ⟨(ad.add ((k - 1) * 2)).block, (ad.add ((k - 1) * 2)).off + 1, none⟩ = some (.int .i64 t') := fun x => x.cell hy2
    have hk1 : ((k : Int) - 1) = ((k - 1 : Nat) : Int) := by omega
    have q1 := IntWalk.i64_in (f - t') (by omega)
    have g0 : ((k : Int) == 0) = false := by simp; omega
    clear hz hx hy hz2 hx2 hy2 h
    go_enter Try.func51, Try.ntmps51
    go_wp2_with fail
    (refine wp_region_inC (by kernel_rfl) (by kernel_rfl) ?_; (repeat go_big_quiet_step (fail)); refine wpQuiet_nil ?_; rintro w1 ⟨⟨_, hb1⟩, rfl⟩)
    go_wp2
    go_ret
    exact ⟨by rw [HB.out, HL.out]; first | rfl | exact ret_bool (by rw [← decide_not]; exact decide_eq_decide.2 (by omega)), hb1⟩
  · have e : k = 0 := by omega
    have HV : Hid (begB xs k = true) := by
      show _ = _
      rw [HB.out, e, lastT_zero]
      exact decide_eq_true (by omega)
    subst e
    clear hz hx hy h HB
    go_enter Try.func51, Try.ntmps51
    go_wp2_with fail
    (refine wp_region_inC (by kernel_rfl) (by kernel_rfl) ?_; (repeat go_big_quiet_step (fail)); refine wpQuiet_nil ?_; rintro w1 ⟨⟨_, hb1⟩, rfl⟩)
    go_wp2
    go_ret
    exact ⟨by rw [HV.out]; rfl, hb1⟩
set_option maxHeartbeats 1000000 in
theorem sBeg_any (A : Option Addr) (n c : Nat) (xs : List (Int × Int)) (w : World) (h : RdP w w.heap.size A n xs) (k : Nat) (hk : k < n) (hn : n ≤ 20) (ha : areS xs = true) : Calls Try.prog 52 #[.slice A n c, .int .i64 (k : Int)] w fun ee w' => ee = .returned (.bool (!begB xs k)) ∧ Below w.heap.size w w' := by
  obtain ⟨ad, f, t, rfl, hb, hz, hx, hy⟩ := RdP.atP h hk
  have hf := areS_at ha hz
  have HB := Lib.hid (begB_at hz)
  have hkn : (k : Int) < (n : Int) := by omega
  by_cases h0 : 0 < k
  · obtain ⟨ad2, f', t', e2, hb2, hz2, hx2, hy2⟩ := RdP.atP h (k := k - 1) (by omega)
    cases e2
    have hf2 := areS_at ha hz2
    have HL := Lib.hid (lastT_pos h0 hz2)
    have c0 : ∀ x : InC w, x.w.cell? (ad.add (k * 2)) = some (.int .i64 f) := fun x => x.cell hx
    have c1 : ∀ x : InC w, x.w.cell? ⟨(ad.add ((k - 1) * 2)).block, (ad.add ((k - 1) * 2)).off + 1, none⟩ = some (.int .i64 t') := fun x => x.cell hy2
    have hk1 : ((k : Int) - 1) = ((k - 1 : Nat) : Int) := by omega
    have q1 := IntWalk.i64_in (f - t') (by omega)
    have g0 : decide (0 < (k : Int)) = true := by simp; omega
    clear hz hx hy hz2 hx2 hy2 h
    go_enter Try.func52, Try.ntmps52
    go_wp2_with fail
    (refine wp_region_inC (by kernel_rfl) (by kernel_rfl) ?_; (repeat go_big_quiet_step (fail)); refine wpQuiet_nil ?_; rintro w1 ⟨⟨_, hb1⟩, rfl⟩)
    go_wp2
    go_ret
    exact ⟨by rw [HB.out, HL.out]; first | rfl | exact ret_bool (by rw [← decide_not]; exact decide_eq_decide.2 (by omega)), hb1⟩
  · have e : k = 0 := by omega
    have HV : Hid (begB xs k = true) := by
      show _ = _
      rw [HB.out, e, lastT_zero]
      exact decide_eq_true (by omega)
    subst e
    clear hz hx hy h HB
    go_enter Try.func52, Try.ntmps52
    go_wp2_with fail
    (refine wp_region_inC (by kernel_rfl) (by kernel_rfl) ?_; (repeat go_big_quiet_step (fail)); refine wpQuiet_nil ?_; rintro w1 ⟨⟨_, hb1⟩, rfl⟩)
    go_wp2
    go_ret
    exact ⟨by rw [HV.out]; rfl, hb1⟩
theorem len_eq {A : Option Addr} {n : Nat} {xs : List (Int × Int)} {w : World} (h : RdP w w.heap.size A n xs) : xs.length = n := h.len
theorem numF_hit' {xs : List (Int × Int)} {k n : Nat} {f t day : Int} (h : xs[k]? = some (f, t)) (hk : k < n) (hd : inR f (t - 1) day = true) : numF xs day k (n - k) = befB xs k + day - f + 1 := by
  rw [show n - k = (n - k - 1) + 1 by omega]; exact numF_hit h hd
theorem numF_miss' {xs : List (Int × Int)} {k n : Nat} {f t day : Int} (h : xs[k]? = some (f, t)) (hk : k < n) (hd : inR f (t - 1) day = false) : numF xs day k (n - k) = numF xs day (k + 1) (n - (k + 1)) := by
  rw [show n - k = (n - (k + 1)) + 1 by omega]; exact numF_miss h hd
theorem exhF_hit' {xs : List (Int × Int)} {k n : Nat} {f t : Int} (h : xs[k]? = some (f, t)) (hk : k < n) (hd : 367 < befN xs (k + 1)) : exhF xs k (n - k) = some (t - (befN xs (k + 1) - 367)) := by
  rw [show n - k = (n - k - 1) + 1 by omega]; exact exhF_hit h hd
theorem exhF_miss' {xs : List (Int × Int)} {k n : Nat} (hk : k < n) (hd : ¬ 367 < befN xs (k + 1)) : exhF xs k (n - k) = exhF xs (k + 1) (n - (k + 1)) := by
  rw [show n - k = (n - (k + 1)) + 1 by omega]; exact exhF_miss hd
def sicC (xs : List (Int × Int)) : Int := if areS xs = true then 0 else 1
def sicV (xs : List (Int × Int)) : Int := if areS xs = true then daysL xs else 0
set_option maxHeartbeats 1000000 in
theorem iSick_any (A : Option Addr) (n c : Nat) (xs : List (Int × Int)) (w : World) (h : RdP w w.heap.size A n xs) (hm : n ≤ 1048576) : Calls Try.prog 19 #[.slice A n c] w fun ee w' => ee = .returned (.tuple #[.int .i64 (sicV xs), .int .i64 (sicC xs)]) ∧ Below w.heap.size w w' := by
  have HA := fun W hR => iAreS_any A n c xs W hR hm
  have H := Lib.hid h
  have hl := h.len
  cases ha : areS xs with
  | false =>
    have HQ : Hid (sicC xs = 1 ∧ sicV xs = 0) := by show _ ∧ _; unfold sicC sicV; rw [ha]; simp
    rw [ha] at HA
    have HA := Lib.hid HA
    clear h hl
    go_enter Try.func19, Try.ntmps19
    go_wp2_with (go_at_call 16; (with_reducible refine Calls.mono (HA.out _ H.out) ?_); rintro ee w1 ⟨rfl, hb1⟩; have hB1 := bel_step (Below.refl _ _) hb1)
    go_returns
    exact ⟨by rw [HQ.out.1, HQ.out.2]; rfl, hB1⟩
  | true =>
    have HQ : Hid (sicC xs = 0 ∧ sicV xs = daysL xs) := by show _ ∧ _; unfold sicC sicV; rw [ha]; simp
    rw [ha] at HA
    have hn := (areS_split ha).1
    rw [hl] at hn
    have HB := Lib.hid (daysL_bd ha)
    have HX := Lib.hid (fun (i : Nat) (f t : Int) (hi : xs[i]? = some (f, t)) => areS_at ha hi)
    have hl := Lib.hid hl
    have HA := Lib.hid HA
    clear h ha
    go_enter Try.func19, Try.ntmps19
    go_wp2_with (go_at_call 16; (with_reducible refine Calls.mono (HA.out _ H.out) ?_); rintro ee w1 ⟨rfl, hb1⟩; have hB1 := bel_step (Below.refl _ _) hb1)
    go_loopw [4, 12] (fun s i wr => ∃ k : Nat, k ≤ n ∧ i = .int .i64 k ∧ s = .int .i64 (daysL (xs.take k)) ∧ Below w.heap.size w wr) (fun _ i _ => n - (intOf i).toNat)
    case atStart => exact ⟨0, Nat.zero_le _, rfl, rfl, hB1⟩
    case round =>
      obtain ⟨k, hk, rfl, rfl, hR⟩ := hrel
      obtain ⟨hb0, hb1⟩ := HB.out k (by rw [hl.out]; exact hk)
      by_cases hlt : k < n
      · obtain ⟨ad, f, t, rfl, hb, hz, hx, hy⟩ := RdP.atP (H.out.below hR) hlt
        have hft := HX.out _ _ _ hz
        have HT := Lib.hid (daysL_take hz)
        clear hz
        go_wp2
        go_roundw
        case rel => exact ⟨k + 1, by omega, by go_num, by rw [HT.out], (hR.alloc hR.size _)⟩
        case measure => simp [intOf]; omega
      · have HE : Hid (xs.take k = xs) := List.take_of_length_le (by rw [hl.out]; omega)
        go_wp2
        go_returns
        exact ⟨by rw [HQ.out.1, HQ.out.2, HE.out]; rfl, hR⟩
set_option maxHeartbeats 1000000 in
theorem sSick_any (A : Option Addr) (n c : Nat) (xs : List (Int × Int)) (w : World) (h : RdP w w.heap.size A n xs) (hm : n ≤ 1048576) : Calls Try.prog 18 #[.slice A n c] w fun ee w' => ee = .returned (.tuple #[.int .i64 (sicV xs), .int .i64 (sicC xs)]) ∧ Below w.heap.size w w' := by
  have HA := fun W hR => sAreS_any A n c xs W hR hm
  have H := Lib.hid h
  have hl := h.len
  cases ha : areS xs with
  | false =>
    have HQ : Hid (sicC xs = 1 ∧ sicV xs = 0) := by show _ ∧ _; unfold sicC sicV; rw [ha]; simp
    rw [ha] at HA
    have HA := Lib.hid HA
    clear h hl
    go_enter Try.func18, Try.ntmps18
    go_wp2_with (go_at_call 14; (with_reducible refine Calls.mono (HA.out _ H.out) ?_); rintro ee w1 ⟨rfl, hb1⟩; have hB1 := bel_step (Below.refl _ _) hb1)
    go_returns
    exact ⟨by rw [HQ.out.1, HQ.out.2]; rfl, hB1⟩
  | true =>
    have HQ : Hid (sicC xs = 0 ∧ sicV xs = daysL xs) := by show _ ∧ _; unfold sicC sicV; rw [ha]; simp
    rw [ha] at HA
    have hn := (areS_split ha).1
    rw [hl] at hn
    have HB := Lib.hid (daysL_bd ha)
    have HX := Lib.hid (fun (i : Nat) (f t : Int) (hi : xs[i]? = some (f, t)) => areS_at ha hi)
    have hl := Lib.hid hl
    have HA := Lib.hid HA
    clear h ha
    go_enter Try.func18, Try.ntmps18
    go_wp2_with (go_at_call 14; (with_reducible refine Calls.mono (HA.out _ H.out) ?_); rintro ee w1 ⟨rfl, hb1⟩; have hB1 := bel_step (Below.refl _ _) hb1)
    go_loopw [4, 5] (fun s i wr => ∃ k : Nat, k ≤ n ∧ i = .int .i64 k ∧ s = .int .i64 (daysL (xs.take k)) ∧ Below w.heap.size w wr) (fun _ i _ => n - (intOf i).toNat)
    case atStart => exact ⟨0, Nat.zero_le _, rfl, rfl, hB1⟩
    case round =>
      obtain ⟨k, hk, rfl, rfl, hR⟩ := hrel
      obtain ⟨hb0, hb1⟩ := HB.out k (by rw [hl.out]; exact hk)
      by_cases hlt : k < n
      · obtain ⟨ad, f, t, rfl, hb, hz, hx, hy⟩ := RdP.atP (H.out.below hR) hlt
        have hft := HX.out _ _ _ hz
        have HT := Lib.hid (daysL_take hz)
        have c0 : ∀ x : InC wr, x.w.cell? (ad.add (k * 2)) = some (.int .i64 f) := fun x => x.cell hx
        have c1 : ∀ x : InC wr, x.w.cell? ⟨(ad.add (k * 2)).block, (ad.add (k * 2)).off + 1, none⟩ = some (.int .i64 t) := fun x => x.cell hy
        have hlt' : (k : Int) < (n : Int) := by omega
        have q1 := IntWalk.i64_in (daysL (xs.take k) + t) (by omega)
        have q2 := IntWalk.i64_in (daysL (xs.take k) + t - f) (by omega)
        clear hz hx hy
        go_wp2_with fail
        (refine wp_region_inC (by kernel_rfl) (by kernel_rfl) ?_; (repeat go_big_quiet_step (fail)); refine wpQuiet_nil ?_; rintro w2 ⟨⟨_, hb2⟩, rfl⟩)
        go_wp2
        go_roundw
        case rel => exact ⟨k + 1, by omega, by go_num, by rw [HT.out, Int.add_sub_assoc], bel_step hR hb2⟩
        case measure => simp [intOf]; omega
      · have HE : Hid (xs.take k = xs) := List.take_of_length_le (by rw [hl.out]; omega)
        go_wp2
        go_returns
        exact ⟨by rw [HQ.out.1, HQ.out.2, HE.out]; rfl, hR⟩
end Go.Proofs.Ytldemcdocpdkfaa
