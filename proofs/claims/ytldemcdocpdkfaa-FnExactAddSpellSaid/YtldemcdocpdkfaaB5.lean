/-
  Contracts of the functions of chapter 15: what spells are.
-/
import Derived.Test.YtldemcdocpdkfaaA5
import Derived.Test.YtldemcdocpdkfaaQ
import Derived.Test.YtldemcdocpdkfaaP2
set_option linter.unusedSimpArgs false
set_option linter.unusedVariables false
namespace Go.Proofs.Ytldemcdocpdkfaa
open Go.RowKit
set_option maxHeartbeats 1000000 in
theorem iSpell_any (f t : Int) (w : World) : Calls Try.prog 48 #[.agg #[.int .i64 f, .int .i64 t]] w fun e w' => e = .returned (.bool (spB f t)) ∧ Below w.heap.size w w' := by
  have HF := fun W => inRange_any f 0 100000 W
  have HT := fun W => inRange_any t 0 100000 W
  go_enter Try.func48, Try.ntmps48
  go_wp2_with (first | (go_at_call 59; (with_reducible refine (HF _).mono ?_); rintro ee w1 ⟨rfl, rfl⟩) | (go_at_call 59; (with_reducible refine (HT _).mono ?_); rintro ee w2 ⟨rfl, rfl⟩))
  all_goals go_returns
  all_goals exact ⟨by simp [spB, *], by go_grown⟩
set_option maxHeartbeats 1000000 in
theorem sSpell_any (f t : Int) (w : World) : Calls Try.prog 47 #[.agg #[.int .i64 f, .int .i64 t]] w fun e w' => e = .returned (.bool (spB f t)) ∧ Below w.heap.size w w' := by
  have HF := fun W => sIn_any f 0 100000 W
  have HT := fun W => sIn_any t 0 100000 W
  go_enter Try.func47, Try.ntmps47
  go_wp2_with (first | (go_at_call 54; (with_reducible refine (HF _).mono ?_); rintro ee w1 ⟨rfl, rfl⟩) | (go_at_call 54; (with_reducible refine (HT _).mono ?_); rintro ee w2 ⟨rfl, rfl⟩))
  all_goals go_returns
  all_goals exact ⟨by simp [spB, *], by go_grown⟩
set_option maxHeartbeats 2000000 in
theorem iAreS_in (A : Option Addr) (n c : Nat) (xs : List (Int × Int)) (w : World) (h : RdP w w.heap.size A n xs) (hn : n ≤ 20) : Calls Try.prog 16 #[.slice A n c] w fun ee w' => ee = .returned (.bool (areS xs)) ∧ Below w.heap.size w w' := by
  have H := Lib.hid h
  have hl := Lib.hid h.len
  have HD : Hid (areS xs = spOk (-1000) xs) := by show _ = _; unfold areS; rw [h.len, decide_eq_true hn]; rfl
  have HS := Lib.hid (fun f t W => iSpell_any f t W)
  clear h
  go_enter Try.func16, Try.ntmps16
  go_wp2
  go_loopw [10] (fun i wr => ∃ k : Nat, k ≤ n ∧ i = .int .i64 k ∧ Below w.heap.size w wr ∧ Hid (spOk (-1000) xs = spOk (lastT xs k) (xs.drop k))) (fun i _ => n - (intOf i).toNat)
  case atStart => exact ⟨0, Nat.zero_le _, rfl, Below.refl _ _, rfl⟩
  case round =>
    obtain ⟨k, hk, rfl, hR, HP⟩ := hrel
    by_cases hlt : k < n
    · obtain ⟨ad, f, t, rfl, hb, hz, hx, hy⟩ := RdP.atP (H.out.below hR) hlt
      have HS := Lib.hid (fun W => HS.out f t W)
      have HN := Lib.hid (fun h1 h2 => (spOk_next (last := lastT xs k) hz h1 h2).trans (by rw [← lastT_succ hz]))
      have HX := Lib.hid (fun h1 => spOk_bad (last := lastT xs k) hz h1)
      have HY := Lib.hid (fun h1 => spOk_low (last := lastT xs k) hz h1)
      (obtain ⟨W0, hW0⟩ : ∃ W0 : World, W0 = wr.alloc (.cells #[.int .i64 f, .int .i64 t] 57) := ⟨_, rfl⟩; have hB0 : Below wr.heap.size wr W0 := (by rw [hW0]; exact (Below.refl _ _).alloc (Nat.le_refl _) _); have hB1 := bel_step hR hB0; have c0 : ∀ x : InC W0, x.w.cell? ⟨wr.heap.size, 0, none⟩ = some (.int .i64 f) := (fun x => x.cell (by rw [hW0]; simp [go_sem])); have c1 : ∀ x : InC W0, x.w.cell? ⟨wr.heap.size, 1, none⟩ = some (.int .i64 t) := (fun x => x.cell (by rw [hW0]; simp [go_sem])))
      have hk1 : 0 < k → ((k : Int) - 1) = ((k - 1 : Nat) : Int) := by omega
      clear hz
      cases hq : spB f t with
      | true =>
        have HQ := Lib.hid hq
        have hf0 := (spB_iff.1 hq).1.1
        rw [hq] at HS
        clear hq
        by_cases h0 : 0 < k
        · obtain ⟨ad2, f', t', e2, hb2, hz2, hx2, hy2⟩ := RdP.atP (H.out.below hR) (k := k - 1) (by omega)
          cases e2
          have p0 : ∀ x : InC W0, x.w.cell? ⟨(ad.add ((k - 1) * 2)).block, (ad.add ((k - 1) * 2)).off + 1, none⟩ = some (.int .i64 t') := fun x => x.cell (keepC hB0 hy2)
          have HL := Lib.hid (lastT_pos h0 hz2)
          have hk1 := hk1 h0
          have g0 : decide (0 < (k : Int)) = true := decide_eq_true (by omega)
          clear hz2 hy2 hx2
          by_cases hf : f ≤ t'
          · go_wp2_with fail
            rw [← hW0]
            clear hW0
            (refine wp_region_inC (by kernel_rfl) (by kernel_rfl) ?_; (repeat go_big_quiet_step ((go_at_call 48; with_reducible exact Calls.inC (HS.out _)))); refine wpQuiet_nil ?_; rintro w1 ⟨⟨_, hb1⟩, rfl⟩)
            go_wp2
            go_ret
            exact ⟨by rw [HD.out, HP.out, HY.out (by rw [HL.out]; exact hf)]; rfl, bel_step hB1 hb1⟩
          · go_wp2_with fail
            rw [← hW0]
            clear hW0
            (refine wp_region_inC (by kernel_rfl) (by kernel_rfl) ?_; (repeat go_big_quiet_step ((go_at_call 48; with_reducible exact Calls.inC (HS.out _)))); refine wpQuiet_nil ?_; rintro w1 ⟨⟨_, hb1⟩, rfl⟩)
            go_wp2
            go_roundw
            case rel => exact ⟨k + 1, by omega, by go_num, bel_step hB1 hb1, HP.out.trans (HN.out HQ.out (by rw [HL.out]; omega))⟩
            case measure => simp [intOf]; omega
        · have HL : Hid (lastT xs k = -1000) := by
            obtain rfl : k = 0 := by omega
            exact lastT_zero xs
          have g0 : decide (0 < (k : Int)) = false := decide_eq_false (by omega)
          go_wp2_with fail
          rw [← hW0]
          clear hW0
          (refine wp_region_inC (by kernel_rfl) (by kernel_rfl) ?_; (repeat go_big_quiet_step ((go_at_call 48; with_reducible exact Calls.inC (HS.out _)))); refine wpQuiet_nil ?_; rintro w1 ⟨⟨_, hb1⟩, rfl⟩)
          go_wp2
          go_roundw
          case rel => exact ⟨k + 1, by omega, by go_num, bel_step hB1 hb1, HP.out.trans (HN.out HQ.out (by rw [HL.out]; omega))⟩
          case measure => simp [intOf]; omega
      | false =>
        have HQ := Lib.hid hq
        rw [hq] at HS
        clear hq
        go_wp2_with fail
        rw [← hW0]
        clear hW0
        (refine wp_region_inC (by kernel_rfl) (by kernel_rfl) ?_; (repeat go_big_quiet_step ((go_at_call 48; with_reducible exact Calls.inC (HS.out _)))); refine wpQuiet_nil ?_; rintro w1 ⟨⟨_, hb1⟩, rfl⟩)
        go_wp2
        go_ret
        exact ⟨by rw [HD.out, HP.out, HX.out HQ.out]; rfl, bel_step hB1 hb1⟩
    · have HE : Hid (areS xs = true) := by
        show _ = _
        rw [HD.out, HP.out, List.drop_of_length_le (by have := hl.out; omega)]
        rfl
      go_wp2
      go_ret
      exact ⟨by rw [HE.out]; rfl, hR⟩
set_option maxHeartbeats 1000000 in
theorem iAreS_many (A : Option Addr) (n c : Nat) (w : World) (hn : 20 < n) (hm : n ≤ 1048576) : Calls Try.prog 16 #[.slice A n c] w fun ee w' => ee = .returned (.bool false) ∧ Below w.heap.size w w' := by
  go_enter Try.func16, Try.ntmps16
  go_wp2
  go_ret
  exact ⟨rfl, by go_grown⟩
theorem iAreS_any (A : Option Addr) (n c : Nat) (xs : List (Int × Int)) (w : World) (h : RdP w w.heap.size A n xs) (hm : n ≤ 1048576) : Calls Try.prog 16 #[.slice A n c] w fun ee w' => ee = .returned (.bool (areS xs)) ∧ Below w.heap.size w w' := by
  by_cases hn : n ≤ 20
  · exact iAreS_in A n c xs w h hn
  · have e : areS xs = false := by unfold areS; rw [h.len, decide_eq_false hn]; rfl
    rw [e]
    exact iAreS_many A n c w (by omega) hm
set_option maxHeartbeats 2000000 in
theorem sAreS_any (A : Option Addr) (n c : Nat) (xs : List (Int × Int)) (w : World) (h : RdP w w.heap.size A n xs) (hm : n ≤ 1048576) : Calls Try.prog 14 #[.slice A n c] w fun ee w' => ee = .returned (.bool (areS xs)) ∧ Below w.heap.size w w' := by
  have H := Lib.hid h
  have hl := Lib.hid h.len
  have HD : Hid (areS xs = (decide (n ≤ 20) && spOk (-1000) xs)) := by show _ = _; unfold areS; rw [h.len]
  have HS := Lib.hid (fun f t W => sSpell_any f t W)
  clear h
  go_enter Try.func14, Try.ntmps14
  go_wp2
  go_loopw [3] (fun i wr => ∃ k : Nat, k ≤ n ∧ i = .int .i64 k ∧ Below w.heap.size w wr ∧ Hid (spOk (-1000) xs = spOk (lastT xs k) (xs.drop k))) (fun i _ => n - (intOf i).toNat)
  case atStart => exact ⟨0, Nat.zero_le _, rfl, Below.refl _ _, rfl⟩
  case round =>
    obtain ⟨k, hk, rfl, hR, HP⟩ := hrel
    by_cases hlt : k < n
    · obtain ⟨ad, f, t, rfl, hb, hz, hx, hy⟩ := RdP.atP (H.out.below hR) hlt
      have HS := Lib.hid (fun W => HS.out f t W)
      have HN := Lib.hid (fun h1 h2 => (spOk_next (last := lastT xs k) hz h1 h2).trans (by rw [← lastT_succ hz]))
      have HX := Lib.hid (fun h1 => spOk_bad (last := lastT xs k) hz h1)
      have HY := Lib.hid (fun h1 => spOk_low (last := lastT xs k) hz h1)
      have c0 : ∀ x : InC wr, x.w.cell? (ad.add (k * 2)) = some (.int .i64 f) := fun x => x.cell hx
      have c1 : ∀ x : InC wr, x.w.cell? ⟨(ad.add (k * 2)).block, (ad.add (k * 2)).off + 1, none⟩ = some (.int .i64 t) := fun x => x.cell hy
      have hk1 : 0 < k → ((k : Int) - 1) = ((k - 1 : Nat) : Int) := by omega
      have hlt' : (k : Int) < (n : Int) := by omega
      clear hz hx hy
      cases hq : spB f t with
      | true =>
        have HQ := Lib.hid hq
        have hf0 := (spB_iff.1 hq).1.1
        rw [hq] at HS
        clear hq
        by_cases h0 : 0 < k
        · obtain ⟨ad2, f', t', e2, hb2, hz2, hx2, hy2⟩ := RdP.atP (H.out.below hR) (k := k - 1) (by omega)
          cases e2
          have p0 : ∀ x : InC wr, x.w.cell? ⟨(ad.add ((k - 1) * 2)).block, (ad.add ((k - 1) * 2)).off + 1, none⟩ = some (.int .i64 t') := fun x => x.cell hy2
          have HL := Lib.hid (lastT_pos h0 hz2)
          have hk1 := hk1 h0
          have g0 : decide (0 < (k : Int)) = true := decide_eq_true (by omega)
          clear hz2 hy2 hx2
          by_cases hf : f ≤ t'
          · go_wp2_with fail
            (refine wp_region_inC (by kernel_rfl) (by kernel_rfl) ?_; (repeat go_big_quiet_step ((go_at_call 47; with_reducible exact Calls.inC (HS.out _)))); refine wpQuiet_nil ?_; rintro w1 ⟨⟨_, hb1⟩, rfl⟩)
            go_wp2
            go_ret
            exact ⟨by rw [HD.out, HP.out, HY.out (by rw [HL.out]; exact hf)]; simp, bel_step hR hb1⟩
          · go_wp2_with fail
            (refine wp_region_inC (by kernel_rfl) (by kernel_rfl) ?_; (repeat go_big_quiet_step ((go_at_call 47; with_reducible exact Calls.inC (HS.out _)))); refine wpQuiet_nil ?_; rintro w1 ⟨⟨_, hb1⟩, rfl⟩)
            go_wp2
            go_roundw
            case rel => exact ⟨k + 1, by omega, by go_num, bel_step hR hb1, HP.out.trans (HN.out HQ.out (by rw [HL.out]; omega))⟩
            case measure => simp [intOf]; omega
        · have HL : Hid (lastT xs k = -1000) := by
            obtain rfl : k = 0 := by omega
            exact lastT_zero xs
          have g0 : decide (0 < (k : Int)) = false := decide_eq_false (by omega)
          go_wp2_with fail
          (refine wp_region_inC (by kernel_rfl) (by kernel_rfl) ?_; (repeat go_big_quiet_step ((go_at_call 47; with_reducible exact Calls.inC (HS.out _)))); refine wpQuiet_nil ?_; rintro w1 ⟨⟨_, hb1⟩, rfl⟩)
          go_wp2
          go_roundw
          case rel => exact ⟨k + 1, by omega, by go_num, bel_step hR hb1, HP.out.trans (HN.out HQ.out (by rw [HL.out]; omega))⟩
          case measure => simp [intOf]; omega
      | false =>
        have HQ := Lib.hid hq
        rw [hq] at HS
        clear hq
        go_wp2_with fail
        (refine wp_region_inC (by kernel_rfl) (by kernel_rfl) ?_; (repeat go_big_quiet_step ((go_at_call 47; with_reducible exact Calls.inC (HS.out _)))); refine wpQuiet_nil ?_; rintro w1 ⟨⟨_, hb1⟩, rfl⟩)
        go_wp2
        go_ret
        exact ⟨by rw [HD.out, HP.out, HX.out HQ.out]; simp, bel_step hR hb1⟩
    · have HE : Hid (areS xs = decide (n ≤ 20)) := by
        show _ = _
        rw [HD.out, HP.out, List.drop_of_length_le (by have := hl.out; omega)]
        simp [spOk]
      go_wp2
      go_ret
      exact ⟨by rw [HE.out]; exact ret_bool (decide_eq_decide.2 (by omega)), hR⟩
end Go.Proofs.Ytldemcdocpdkfaa
