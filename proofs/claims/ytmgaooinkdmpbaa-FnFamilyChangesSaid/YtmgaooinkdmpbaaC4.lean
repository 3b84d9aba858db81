/-
  Contracts of the functions of chapter 14: IsFamily, the reference's side.
-/
import Derived.Test.YtmgaooinkdmpbaaB4
set_option linter.unusedSimpArgs false
set_option linter.unusedVariables false
namespace Go.Proofs.Ytmgaooinkdmpbaa
open Go.RowKit
set_option maxHeartbeats 400000 in
theorem sOpen_any (x : Int) (w : World) : Calls Try.prog 63 #[.int .i64 x] w fun e w' => e = .returned (.bool (decide (x = -1) || inR 0 35999 x)) ∧ w = w' := by
  have HM := fun W => l02Month_any x W
  rcases eqC x (-1) with ⟨a1, a2, a3⟩ | ⟨a1, a2, a3⟩
  · have HQ : Hid ((decide (x = -1) || inR 0 35999 x) = true) := by show _ = _; rw [decide_eq_true a3.out]; rfl
    clear HM
    go_enter Try.func63, Try.ntmps63
    go_wp2
    go_ret
    exact ⟨by rw [HQ.out]; rfl, rfl⟩
  · have HQ : Hid ((decide (x = -1) || inR 0 35999 x) = inR 0 35999 x) := by show _ = _; rw [decide_eq_false a3.out]; rfl
    generalize inR 0 35999 x = b at *
    go_enter Try.func63, Try.ntmps63
    go_wp2_with (go_at_call 38; (with_reducible refine (HM _).mono ?_); rintro ee w1 ⟨rfl, rfl⟩)
    go_ret
    exact ⟨by rw [HQ.out]; rfl, rfl⟩
theorem al_ (w : World) (o : Obj) : Below w.heap.size w (w.alloc o) := (Below.refl _ _).alloc (Nat.le_refl _) _
theorem opB {x : Int} : (decide (x = -1) || inR 0 35999 x) = true ↔ (x = -1 ∨ 0 ≤ x ∧ x ≤ 35999) := by
  rw [Bool.or_eq_true, decide_eq_true_eq, inR_iff]
set_option maxHeartbeats 4000000 in
theorem sFam_any (d m wd lf : Int) (A : Option Addr) (n c : Nat) (xs : List Int) (w : World) (h : RdI w w.heap.size A n xs) (hc : n ≤ c) (hcm : c ≤ maxLen) (hn : n ≤ 1048576) : Calls Try.prog 25 #[.agg #[.int .i64 d, .int .i64 m, .int .i64 wd, .int .i64 lf, .slice A n c]] w fun ee w' => ee = .returned (.bool (famT d m wd lf n xs)) ∧ Below w.heap.size w w' := by
  have H := Lib.hid h
  have hl := Lib.hid h.len
  have HD := fun W => l02Month_any d W
  have HM := fun W => sOpen_any m W
  have HW := fun W => sOpen_any wd W
  have HL := fun W => sOpen_any lf W
  have HNo : Hid (¬ n ≤ 12 → famT d m wd lf n xs = false) := fun h => fam_no (fun _ _ _ _ h5 _ _ => h h5)
  by_cases hall : inR 0 35999 d = true ∧ (decide (m = -1) || inR 0 35999 m) = true ∧ (decide (wd = -1) || inR 0 35999 wd) = true ∧ (decide (lf = -1) || inR 0 35999 lf) = true ∧ n ≤ 12
  · obtain ⟨e0, e1, e2, e3, e4⟩ := hall
    have h0 := inR_iff.1 e0
    have h1 := opB.1 e1
    have h2 := opB.1 e2
    have h3 := opB.1 e3
    rw [e0] at HD
    rw [e1] at HM
    rw [e2] at HW
    rw [e3] at HL
    have hW : Below w.heap.size w (w.alloc (.cells #[.int .i64 d, .int .i64 m, .int .i64 wd, .int .i64 lf, .slice A n c] 26)) := al_ _ _
    have g12 : decide (12 < (n : Int)) = false := decide_eq_false (by omega)
    clear h e0 e1 e2 e3
    go_enter Try.func25, Try.ntmps25
    rcases eqC wd (-1) with ⟨a1, a2, a3⟩ | ⟨a1, a2, a3⟩
    · rcases eqC lf (-1) with ⟨b1, b2, b3⟩ | ⟨b1, b2, b3⟩
      · have HY : Hid (kidsP d n xs → famT d m wd lf n xs = true) := fam_yes ⟨h0, h1, h2, h3, e4, .inl a3.out, .inl b3.out⟩
        go_wp2_with (first | (go_at_call 38; (with_reducible refine (HD _).mono ?_); rintro ee w1 ⟨rfl, rfl⟩) | (go_at_call 63; (with_reducible refine (HM _).mono ?_); rintro ee w1 ⟨rfl, rfl⟩) | (go_at_call 63; (with_reducible refine (HW _).mono ?_); rintro ee w1 ⟨rfl, rfl⟩) | (go_at_call 63; (with_reducible refine (HL _).mono ?_); rintro ee w1 ⟨rfl, rfl⟩))
        go_loopw [3] (fun i wr => ∃ k : Nat, k ≤ n ∧ i = .int .i64 k ∧ Hid (∀ i, i < k → (0 ≤ gv xs i ∧ gv xs i ≤ 35999) ∧ gv xs i ≤ d + 9 ∧ (0 < i → gv xs (i - 1) ≤ gv xs i)) ∧ Below w.heap.size w wr ∧ wr.cell? ⟨w.heap.size, 0, none⟩ = some (.int .i64 d) ∧ wr.cell? ⟨w.heap.size, 4, none⟩ = some (.slice A n c)) (fun i _ => n - (intOf i).toNat)
        case atStart => exact ⟨0, Nat.zero_le _, rfl, fun i hi => by omega, hW, by simp [go_sem], by simp [go_sem]⟩
        case round =>
          obtain ⟨k, hk, rfl, HB, hR, hc0, hc4⟩ := hrel
          by_cases hlt : k < n
          · obtain ⟨ad, rfl, hb, hx⟩ := RdI.atG (H.out.below hR) hlt
            have x0 : ∀ x : InC wr, x.w.cell? ⟨w.heap.size, 0, none⟩ = some (.int .i64 d) := fun x => x.cell hc0
            have x4 : ∀ x : InC wr, x.w.cell? ⟨w.heap.size, 4, none⟩ = some (.slice (some ad) n c) := fun x => x.cell hc4
            have x1 : ∀ x : InC wr, x.w.cell? (ad.add k) = some (.int .i64 (gv xs k)) := fun x => x.cell hx
            have hkn : (k : Int) < (n : Int) := by omega
            have HZ := fun W => l02Month_any (gv xs k) W
            have HX : Hid (¬ ((0 ≤ gv xs k ∧ gv xs k ≤ 35999) ∧ gv xs k ≤ d + 9 ∧ (0 < k → gv xs (k - 1) ≤ gv xs k)) → famT d m wd lf n xs = false) := fun h => fam_kid (fun hk => h (hk k hlt))
            have HN : Hid ((0 ≤ gv xs k ∧ gv xs k ≤ 35999) ∧ gv xs k ≤ d + 9 ∧ (0 < k → gv xs (k - 1) ≤ gv xs k) → ∀ i, i < k + 1 → (0 ≤ gv xs i ∧ gv xs i ≤ 35999) ∧ gv xs i ≤ d + 9 ∧ (0 < i → gv xs (i - 1) ≤ gv xs i)) := fun h i hi => by
              by_cases e : i = k
              · subst e; exact h
              · exact HB.out i (by omega)
            have q9 := IntWalk.i64_in (d + 9) (by omega)
            clear hx
            cases e1 : inR 0 35999 (gv xs k) with
            | false =>
              have HQ := Lib.hid (HX.out (fun h => by rw [inR_ff] at e1; omega))
              rw [e1] at HZ
              clear e1 HX HN
              generalize gv xs k = Z at *
              go_wp2_with fail
              (refine wp_region_inC (by kernel_rfl) (by kernel_rfl) ?_; (repeat go_big_quiet_step ((go_at_call 38; with_reducible exact Calls.inC_same (HZ _)))); refine wpQuiet_nil ?_; rintro w1 ⟨⟨_, hb1⟩, rfl⟩)
              go_wp2
              go_ret
              exact ⟨by rw [HQ.out]; rfl, bel_step hR hb1⟩
            | true =>
              rw [e1] at HZ
              have e1 := inR_iff.1 e1
              rcases ltC (d + 9) (gv xs k) with ⟨r1, r2⟩ | ⟨r1, r2⟩
              · have HQ := Lib.hid (HX.out (fun h => by have := r2.out; omega))
                clear e1 HX HN
                generalize gv xs k = Z at *
                go_wp2_with fail
                (refine wp_region_inC (by kernel_rfl) (by kernel_rfl) ?_; (repeat go_big_quiet_step ((go_at_call 38; with_reducible exact Calls.inC_same (HZ _)))); refine wpQuiet_nil ?_; rintro w1 ⟨⟨_, hb1⟩, rfl⟩)
                go_wp2
                go_ret
                exact ⟨by rw [HQ.out]; rfl, bel_step hR hb1⟩
              · by_cases h00 : 0 < k
                · obtain ⟨ad', e', hb', hy⟩ := RdI.atG (H.out.below hR) (k := k - 1) (by omega)
                  cases e'
                  have x2 : ∀ x : InC wr, x.w.cell? (ad.add (k - 1)) = some (.int .i64 (gv xs (k - 1))) := fun x => x.cell hy
                  have hk1 : ((k : Int) - 1) = ((k - 1 : Nat) : Int) := by omega
                  have g0 : decide (0 < (k : Int)) = true := decide_eq_true (by omega)
                  clear hy
                  rcases ltC (gv xs k) (gv xs (k - 1)) with ⟨s1, s2⟩ | ⟨s1, s2⟩
                  · have HQ := Lib.hid (HX.out (fun h => by have := s2.out; have := h.2.2 h00; omega))
                    clear e1 HX HN
                    generalize gv xs k = Z at *
                    generalize gv xs (k - 1) = Y at *
                    go_wp2_with fail
                    (refine wp_region_inC (by kernel_rfl) (by kernel_rfl) ?_; (repeat go_big_quiet_step ((go_at_call 38; with_reducible exact Calls.inC_same (HZ _)))); refine wpQuiet_nil ?_; rintro w1 ⟨⟨_, hb1⟩, rfl⟩)
                    go_wp2
                    go_ret
                    exact ⟨by rw [HQ.out]; rfl, bel_step hR hb1⟩
                  · have HB2 := Lib.hid (HN.out ⟨e1, r2.out, fun _ => s2.out⟩)
                    clear e1 HX HN
                    generalize gv xs k = Z at *
                    generalize gv xs (k - 1) = Y at *
                    go_wp2_with fail
                    (refine wp_region_inC (by kernel_rfl) (by kernel_rfl) ?_; (repeat go_big_quiet_step ((go_at_call 38; with_reducible exact Calls.inC_same (HZ _)))); refine wpQuiet_nil ?_; rintro w1 ⟨⟨_, hb1⟩, rfl⟩)
                    go_wp2
                    go_roundw
                    case rel => exact ⟨k + 1, by omega, by go_num, HB2.out, bel_step hR hb1, keepC hb1 hc0, keepC hb1 hc4⟩
                    case measure => simp [intOf]; omega
                · have HB2 := Lib.hid (HN.out ⟨e1, r2.out, fun h => absurd h h00⟩)
                  have g0 : decide (0 < (k : Int)) = false := decide_eq_false (by omega)
                  clear e1 HX HN
                  generalize gv xs k = Z at *
                  go_wp2_with fail
                  (refine wp_region_inC (by kernel_rfl) (by kernel_rfl) ?_; (repeat go_big_quiet_step ((go_at_call 38; with_reducible exact Calls.inC_same (HZ _)))); refine wpQuiet_nil ?_; rintro w1 ⟨⟨_, hb1⟩, rfl⟩)
                  go_wp2
                  go_roundw
                  case rel => exact ⟨k + 1, by omega, by go_num, HB2.out, bel_step hR hb1, keepC hb1 hc0, keepC hb1 hc4⟩
                  case measure => simp [intOf]; omega
          · have HQ := Lib.hid (HY.out (fun i hi => HB.out i (by omega)))
            go_wp2
            go_ret
            exact ⟨by rw [HQ.out]; rfl, hR⟩
      · have HQ : Hid (famT d m wd lf n xs = false) := fam_no (fun _ _ _ _ _ _ h => by have := a3.out; have := b3.out; omega)
        (go_wp2_with (first | (go_at_call 38; (with_reducible refine (HD _).mono ?_); rintro ee w1 ⟨rfl, rfl⟩) | (go_at_call 63; (with_reducible refine (HM _).mono ?_); rintro ee w1 ⟨rfl, rfl⟩) | (go_at_call 63; (with_reducible refine (HW _).mono ?_); rintro ee w1 ⟨rfl, rfl⟩) | (go_at_call 63; (with_reducible refine (HL _).mono ?_); rintro ee w1 ⟨rfl, rfl⟩)); go_returns; exact ⟨by rw [HQ.out]; rfl, by go_grown⟩)
    · rcases eqC wd (d + 1) with ⟨c1, c2, c3⟩ | ⟨c1, c2, c3⟩
      · rcases eqC m (-1) with ⟨d1, d2, d3⟩ | ⟨d1, d2, d3⟩
        · have HQ : Hid (famT d m wd lf n xs = false) := fam_no (fun _ _ _ _ _ h _ => by have := a3.out; have := d3.out; omega)
          (go_wp2_with (first | (go_at_call 38; (with_reducible refine (HD _).mono ?_); rintro ee w1 ⟨rfl, rfl⟩) | (go_at_call 63; (with_reducible refine (HM _).mono ?_); rintro ee w1 ⟨rfl, rfl⟩) | (go_at_call 63; (with_reducible refine (HW _).mono ?_); rintro ee w1 ⟨rfl, rfl⟩) | (go_at_call 63; (with_reducible refine (HL _).mono ?_); rintro ee w1 ⟨rfl, rfl⟩)); go_returns; exact ⟨by rw [HQ.out]; rfl, by go_grown⟩)
        · rcases ltC d m with ⟨f1, f2⟩ | ⟨f1, f2⟩
          · have HQ : Hid (famT d m wd lf n xs = false) := fam_no (fun _ _ _ _ _ h _ => by have := a3.out; have := f2.out; omega)
            (go_wp2_with (first | (go_at_call 38; (with_reducible refine (HD _).mono ?_); rintro ee w1 ⟨rfl, rfl⟩) | (go_at_call 63; (with_reducible refine (HM _).mono ?_); rintro ee w1 ⟨rfl, rfl⟩) | (go_at_call 63; (with_reducible refine (HW _).mono ?_); rintro ee w1 ⟨rfl, rfl⟩) | (go_at_call 63; (with_reducible refine (HL _).mono ?_); rintro ee w1 ⟨rfl, rfl⟩)); go_returns; exact ⟨by rw [HQ.out]; rfl, by go_grown⟩)
          · rcases eqC lf (-1) with ⟨b1, b2, b3⟩ | ⟨b1, b2, b3⟩
            · have HY : Hid (kidsP d n xs → famT d m wd lf n xs = true) := fam_yes ⟨h0, h1, h2, h3, e4, .inr ⟨c3.out, d3.out, f2.out⟩, .inl b3.out⟩
              go_wp2_with (first | (go_at_call 38; (with_reducible refine (HD _).mono ?_); rintro ee w1 ⟨rfl, rfl⟩) | (go_at_call 63; (with_reducible refine (HM _).mono ?_); rintro ee w1 ⟨rfl, rfl⟩) | (go_at_call 63; (with_reducible refine (HW _).mono ?_); rintro ee w1 ⟨rfl, rfl⟩) | (go_at_call 63; (with_reducible refine (HL _).mono ?_); rintro ee w1 ⟨rfl, rfl⟩))
              go_loopw [3] (fun i wr => ∃ k : Nat, k ≤ n ∧ i = .int .i64 k ∧ Hid (∀ i, i < k → (0 ≤ gv xs i ∧ gv xs i ≤ 35999) ∧ gv xs i ≤ d + 9 ∧ (0 < i → gv xs (i - 1) ≤ gv xs i)) ∧ Below w.heap.size w wr ∧ wr.cell? ⟨w.heap.size, 0, none⟩ = some (.int .i64 d) ∧ wr.cell? ⟨w.heap.size, 4, none⟩ = some (.slice A n c)) (fun i _ => n - (intOf i).toNat)
              case atStart => exact ⟨0, Nat.zero_le _, rfl, fun i hi => by omega, hW, by simp [go_sem], by simp [go_sem]⟩
              case round =>
                obtain ⟨k, hk, rfl, HB, hR, hc0, hc4⟩ := hrel
                by_cases hlt : k < n
                · obtain ⟨ad, rfl, hb, hx⟩ := RdI.atG (H.out.below hR) hlt
                  have x0 : ∀ x : InC wr, x.w.cell? ⟨w.heap.size, 0, none⟩ = some (.int .i64 d) := fun x => x.cell hc0
                  have x4 : ∀ x : InC wr, x.w.cell? ⟨w.heap.size, 4, none⟩ = some (.slice (some ad) n c) := fun x => x.cell hc4
                  have x1 : ∀ x : InC wr, x.w.cell? (ad.add k) = some (.int .i64 (gv xs k)) := fun x => x.cell hx
                  have hkn : (k : Int) < (n : Int) := by omega
                  have HZ := fun W => l02Month_any (gv xs k) W
                  have HX : Hid (¬ ((0 ≤ gv xs k ∧ gv xs k ≤ 35999) ∧ gv xs k ≤ d + 9 ∧ (0 < k → gv xs (k - 1) ≤ gv xs k)) → famT d m wd lf n xs = false) := fun h => fam_kid (fun hk => h (hk k hlt))
                  have HN : Hid ((0 ≤ gv xs k ∧ gv xs k ≤ 35999) ∧ gv xs k ≤ d + 9 ∧ (0 < k → gv xs (k - 1) ≤ gv xs k) → ∀ i, i < k + 1 → (0 ≤ gv xs i ∧ gv xs i ≤ 35999) ∧ gv xs i ≤ d + 9 ∧ (0 < i → gv xs (i - 1) ≤ gv xs i)) := fun h i hi => by
                    by_cases e : i = k
                    · subst e; exact h
                    · exact HB.out i (by omega)
                  have q9 := IntWalk.i64_in (d + 9) (by omega)
                  clear hx
                  cases e1 : inR 0 35999 (gv xs k) with
                  | false =>
                    have HQ := Lib.hid (HX.out (fun h => by rw [inR_ff] at e1; omega))
                    rw [e1] at HZ
                    clear e1 HX HN
                    generalize gv xs k = Z at *
                    go_wp2_with fail
                    (refine wp_region_inC (by kernel_rfl) (by kernel_rfl) ?_; (repeat go_big_quiet_step ((go_at_call 38; with_reducible exact Calls.inC_same (HZ _)))); refine wpQuiet_nil ?_; rintro w1 ⟨⟨_, hb1⟩, rfl⟩)
                    go_wp2
                    go_ret
                    exact ⟨by rw [HQ.out]; rfl, bel_step hR hb1⟩
                  | true =>
                    rw [e1] at HZ
                    have e1 := inR_iff.1 e1
                    rcases ltC (d + 9) (gv xs k) with ⟨r1, r2⟩ | ⟨r1, r2⟩
                    · have HQ := Lib.hid (HX.out (fun h => by have := r2.out; omega))
                      clear e1 HX HN
                      generalize gv xs k = Z at *
                      go_wp2_with fail
                      (refine wp_region_inC (by kernel_rfl) (by kernel_rfl) ?_; (repeat go_big_quiet_step ((go_at_call 38; with_reducible exact Calls.inC_same (HZ _)))); refine wpQuiet_nil ?_; rintro w1 ⟨⟨_, hb1⟩, rfl⟩)
                      go_wp2
                      go_ret
                      exact ⟨by rw [HQ.out]; rfl, bel_step hR hb1⟩
                    · by_cases h00 : 0 < k
                      · obtain ⟨ad', e', hb', hy⟩ := RdI.atG (H.out.below hR) (k := k - 1) (by omega)
                        cases e'
                        have x2 : ∀ x : InC wr, x.w.cell? (ad.add (k - 1)) = some (.int .i64 (gv xs (k - 1))) := fun x => x.cell hy
                        have hk1 : ((k : Int) - 1) = ((k - 1 : Nat) : Int) := by omega
                        have g0 : decide (0 < (k : Int)) = true := decide_eq_true (by omega)
                        clear hy
                        rcases ltC (gv xs k) (gv xs (k - 1)) with ⟨s1, s2⟩ | ⟨s1, s2⟩
                        · have HQ := Lib.hid (HX.out (fun h => by have := s2.out; have := h.2.2 h00; omega))
                          clear e1 HX HN
                          generalize gv xs k = Z at *
                          generalize gv xs (k - 1) = Y at *
                          go_wp2_with fail
                          (refine wp_region_inC (by kernel_rfl) (by kernel_rfl) ?_; (repeat go_big_quiet_step ((go_at_call 38; with_reducible exact Calls.inC_same (HZ _)))); refine wpQuiet_nil ?_; rintro w1 ⟨⟨_, hb1⟩, rfl⟩)
                          go_wp2
                          go_ret
                          exact ⟨by rw [HQ.out]; rfl, bel_step hR hb1⟩
                        · have HB2 := Lib.hid (HN.out ⟨e1, r2.out, fun _ => s2.out⟩)
                          clear e1 HX HN
                          generalize gv xs k = Z at *
                          generalize gv xs (k - 1) = Y at *
                          go_wp2_with fail
                          (refine wp_region_inC (by kernel_rfl) (by kernel_rfl) ?_; (repeat go_big_quiet_step ((go_at_call 38; with_reducible exact Calls.inC_same (HZ _)))); refine wpQuiet_nil ?_; rintro w1 ⟨⟨_, hb1⟩, rfl⟩)
                          go_wp2
                          go_roundw
                          case rel => exact ⟨k + 1, by omega, by go_num, HB2.out, bel_step hR hb1, keepC hb1 hc0, keepC hb1 hc4⟩
                          case measure => simp [intOf]; omega
                      · have HB2 := Lib.hid (HN.out ⟨e1, r2.out, fun h => absurd h h00⟩)
                        have g0 : decide (0 < (k : Int)) = false := decide_eq_false (by omega)
                        clear e1 HX HN
                        generalize gv xs k = Z at *
                        go_wp2_with fail
                        (refine wp_region_inC (by kernel_rfl) (by kernel_rfl) ?_; (repeat go_big_quiet_step ((go_at_call 38; with_reducible exact Calls.inC_same (HZ _)))); refine wpQuiet_nil ?_; rintro w1 ⟨⟨_, hb1⟩, rfl⟩)
                        go_wp2
                        go_roundw
                        case rel => exact ⟨k + 1, by omega, by go_num, HB2.out, bel_step hR hb1, keepC hb1 hc0, keepC hb1 hc4⟩
                        case measure => simp [intOf]; omega
                · have HQ := Lib.hid (HY.out (fun i hi => HB.out i (by omega)))
                  go_wp2
                  go_ret
                  exact ⟨by rw [HQ.out]; rfl, hR⟩
            · rcases ltC lf wd with ⟨k1, k2⟩ | ⟨k1, k2⟩
              · have HQ : Hid (famT d m wd lf n xs = false) := fam_no (fun _ _ _ _ _ _ h => by have := b3.out; have := k2.out; omega)
                (go_wp2_with (first | (go_at_call 38; (with_reducible refine (HD _).mono ?_); rintro ee w1 ⟨rfl, rfl⟩) | (go_at_call 63; (with_reducible refine (HM _).mono ?_); rintro ee w1 ⟨rfl, rfl⟩) | (go_at_call 63; (with_reducible refine (HW _).mono ?_); rintro ee w1 ⟨rfl, rfl⟩) | (go_at_call 63; (with_reducible refine (HL _).mono ?_); rintro ee w1 ⟨rfl, rfl⟩)); go_returns; exact ⟨by rw [HQ.out]; rfl, by go_grown⟩)
              · have HY : Hid (kidsP d n xs → famT d m wd lf n xs = true) := fam_yes ⟨h0, h1, h2, h3, e4, .inr ⟨c3.out, d3.out, f2.out⟩, .inr ⟨a3.out, k2.out⟩⟩
                go_wp2_with (first | (go_at_call 38; (with_reducible refine (HD _).mono ?_); rintro ee w1 ⟨rfl, rfl⟩) | (go_at_call 63; (with_reducible refine (HM _).mono ?_); rintro ee w1 ⟨rfl, rfl⟩) | (go_at_call 63; (with_reducible refine (HW _).mono ?_); rintro ee w1 ⟨rfl, rfl⟩) | (go_at_call 63; (with_reducible refine (HL _).mono ?_); rintro ee w1 ⟨rfl, rfl⟩))
                go_loopw [3] (fun i wr => ∃ k : Nat, k ≤ n ∧ i = .int .i64 k ∧ Hid (∀ i, i < k → (0 ≤ gv xs i ∧ gv xs i ≤ 35999) ∧ gv xs i ≤ d + 9 ∧ (0 < i → gv xs (i - 1) ≤ gv xs i)) ∧ Below w.heap.size w wr ∧ wr.cell? ⟨w.heap.size, 0, none⟩ = some (.int .i64 d) ∧ wr.cell? ⟨w.heap.size, 4, none⟩ = some (.slice A n c)) (fun i _ => n - (intOf i).toNat)
                case atStart => exact ⟨0, Nat.zero_le _, rfl, fun i hi => by omega, hW, by simp [go_sem], by simp [go_sem]⟩
                case round =>
                  obtain ⟨k, hk, rfl, HB, hR, hc0, hc4⟩ := hrel
                  by_cases hlt : k < n
                  · obtain ⟨ad, rfl, hb, hx⟩ := RdI.atG (H.out.below hR) hlt
                    have x0 : ∀ x : InC wr, x.w.cell? ⟨w.heap.size, 0, none⟩ = some (.int .i64 d) := fun x => x.cell hc0
                    have x4 : ∀ x : InC wr, x.w.cell? ⟨w.heap.size, 4, none⟩ = some (.slice (some ad) n c) := fun x => x.cell hc4
                    have x1 : ∀ x : InC wr, x.w.cell? (ad.add k) = some (.int .i64 (gv xs k)) := fun x => x.cell hx
                    have hkn : (k : Int) < (n : Int) := by omega
                    have HZ := fun W => l02Month_any (gv xs k) W
                    have HX : Hid (¬ ((0 ≤ gv xs k ∧ gv xs k ≤ 35999) ∧ gv xs k ≤ d + 9 ∧ (0 < k → gv xs (k - 1) ≤ gv xs k)) → famT d m wd lf n xs = false) := fun h => fam_kid (fun hk => h (hk k hlt))
                    have HN : Hid ((0 ≤ gv xs k ∧ gv xs k ≤ 35999) ∧ gv xs k ≤ d + 9 ∧ (0 < k → gv xs (k - 1) ≤ gv xs k) → ∀ i, i < k + 1 → (0 ≤ gv xs i ∧ gv xs i ≤ 35999) ∧ gv xs i ≤ d + 9 ∧ (0 < i → gv xs (i - 1) ≤ gv xs i)) := fun h i hi => by
                      by_cases e : i = k
                      · subst e; exact h
                      · exact HB.out i (by omega)
                    have q9 := IntWalk.i64_in (d + 9) (by omega)
                    clear hx
                    cases e1 : inR 0 35999 (gv xs k) with
                    | false =>
                      have HQ := Lib.hid (HX.out (fun h => by rw [inR_ff] at e1; omega))
                      rw [e1] at HZ
                      clear e1 HX HN
                      generalize gv xs k = Z at *
                      go_wp2_with fail
                      (refine wp_region_inC (by kernel_rfl) (by kernel_rfl) ?_; (repeat go_big_quiet_step ((go_at_call 38; with_reducible exact Calls.inC_same (HZ _)))); refine wpQuiet_nil ?_; rintro w1 ⟨⟨_, hb1⟩, rfl⟩)
                      go_wp2
                      go_ret
                      exact ⟨by rw [HQ.out]; rfl, bel_step hR hb1⟩
                    | true =>
                      rw [e1] at HZ
                      have e1 := inR_iff.1 e1
                      rcases ltC (d + 9) (gv xs k) with ⟨r1, r2⟩ | ⟨r1, r2⟩
                      · have HQ := Lib.hid (HX.out (fun h => by have := r2.out; omega))
                        clear e1 HX HN
                        generalize gv xs k = Z at *
                        go_wp2_with fail
                        (refine wp_region_inC (by kernel_rfl) (by kernel_rfl) ?_; (repeat go_big_quiet_step ((go_at_call 38; with_reducible exact Calls.inC_same (HZ _)))); refine wpQuiet_nil ?_; rintro w1 ⟨⟨_, hb1⟩, rfl⟩)
                        go_wp2
                        go_ret
                        exact ⟨by rw [HQ.out]; rfl, bel_step hR hb1⟩
                      · by_cases h00 : 0 < k
                        · obtain ⟨ad', e', hb', hy⟩ := RdI.atG (H.out.below hR) (k := k - 1) (by omega)
                          cases e'
                          have x2 : ∀ x : InC wr, x.w.cell? (ad.add (k - 1)) = some (.int .i64 (gv xs (k - 1))) := fun x => x.cell hy
                          have hk1 : ((k : Int) - 1) = ((k - 1 : Nat) : Int) := by omega
                          have g0 : decide (0 < (k : Int)) = true := decide_eq_true (by omega)
                          clear hy
                          rcases ltC (gv xs k) (gv xs (k - 1)) with ⟨s1, s2⟩ | ⟨s1, s2⟩
                          · have HQ := Lib.hid (HX.out (fun h => by have := s2.out; have := h.2.2 h00; omega))
                            clear e1 HX HN
                            generalize gv xs k = Z at *
                            generalize gv xs (k - 1) = Y at *
                            go_wp2_with fail
                            (refine wp_region_inC (by kernel_rfl) (by kernel_rfl) ?_; (repeat go_big_quiet_step ((go_at_call 38; with_reducible exact Calls.inC_same (HZ _)))); refine wpQuiet_nil ?_; rintro w1 ⟨⟨_, hb1⟩, rfl⟩)
                            go_wp2
                            go_ret
                            exact ⟨by rw [HQ.out]; rfl, bel_step hR hb1⟩
                          · have HB2 := Lib.hid (HN.out ⟨e1, r2.out, fun _ => s2.out⟩)
                            clear e1 HX HN
                            generalize gv xs k = Z at *
                            generalize gv xs (k - 1) = Y at *
                            go_wp2_with fail
                            (refine wp_region_inC (by kernel_rfl) (by kernel_rfl) ?_; (repeat go_big_quiet_step ((go_at_call 38; with_reducible exact Calls.inC_same (HZ _)))); refine wpQuiet_nil ?_; rintro w1 ⟨⟨_, hb1⟩, rfl⟩)
                            go_wp2
                            go_roundw
                            case rel => exact ⟨k + 1, by omega, by go_num, HB2.out, bel_step hR hb1, keepC hb1 hc0, keepC hb1 hc4⟩
                            case measure => simp [intOf]; omega
                        · have HB2 := Lib.hid (HN.out ⟨e1, r2.out, fun h => absurd h h00⟩)
                          have g0 : decide (0 < (k : Int)) = false := decide_eq_false (by omega)
                          clear e1 HX HN
                          generalize gv xs k = Z at *
                          go_wp2_with fail
                          (refine wp_region_inC (by kernel_rfl) (by kernel_rfl) ?_; (repeat go_big_quiet_step ((go_at_call 38; with_reducible exact Calls.inC_same (HZ _)))); refine wpQuiet_nil ?_; rintro w1 ⟨⟨_, hb1⟩, rfl⟩)
                          go_wp2
                          go_roundw
                          case rel => exact ⟨k + 1, by omega, by go_num, HB2.out, bel_step hR hb1, keepC hb1 hc0, keepC hb1 hc4⟩
                          case measure => simp [intOf]; omega
                  · have HQ := Lib.hid (HY.out (fun i hi => HB.out i (by omega)))
                    go_wp2
                    go_ret
                    exact ⟨by rw [HQ.out]; rfl, hR⟩
      · have HQ : Hid (famT d m wd lf n xs = false) := fam_no (fun _ _ _ _ _ h _ => by have := a3.out; have := c3.out; omega)
        (go_wp2_with (first | (go_at_call 38; (with_reducible refine (HD _).mono ?_); rintro ee w1 ⟨rfl, rfl⟩) | (go_at_call 63; (with_reducible refine (HM _).mono ?_); rintro ee w1 ⟨rfl, rfl⟩) | (go_at_call 63; (with_reducible refine (HW _).mono ?_); rintro ee w1 ⟨rfl, rfl⟩) | (go_at_call 63; (with_reducible refine (HL _).mono ?_); rintro ee w1 ⟨rfl, rfl⟩)); go_returns; exact ⟨by rw [HQ.out]; rfl, by go_grown⟩)
  · have HQ : Hid (famT d m wd lf n xs = false) := fam_no (fun g0 g1 g2 g3 g4 _ _ => hall ⟨inR_iff.2 g0, opB.2 g1, opB.2 g2, opB.2 g3, g4⟩)
    clear h HNo
    generalize (decide (m = -1) || inR 0 35999 m) = b1 at *
    generalize (decide (wd = -1) || inR 0 35999 wd) = b2 at *
    generalize (decide (lf = -1) || inR 0 35999 lf) = b3 at *
    generalize inR 0 35999 d = b0 at *
    by_cases h12 : n ≤ 12
    · cases b0 <;> cases b1 <;> cases b2 <;> cases b3
      all_goals try exact absurd ⟨rfl, rfl, rfl, rfl, h12⟩ hall
      all_goals
        clear hall
        go_enter Try.func25, Try.ntmps25
        go_wp2_with (first | (go_at_call 38; (with_reducible refine (HD _).mono ?_); rintro ee w1 ⟨rfl, rfl⟩) | (go_at_call 63; (with_reducible refine (HM _).mono ?_); rintro ee w1 ⟨rfl, rfl⟩) | (go_at_call 63; (with_reducible refine (HW _).mono ?_); rintro ee w1 ⟨rfl, rfl⟩) | (go_at_call 63; (with_reducible refine (HL _).mono ?_); rintro ee w1 ⟨rfl, rfl⟩))
        go_returns
        exact ⟨by rw [HQ.out]; rfl, by go_grown⟩
    · clear hall
      cases b0 <;> cases b1 <;> cases b2 <;> cases b3
      all_goals
        go_enter Try.func25, Try.ntmps25
        go_wp2_with (first | (go_at_call 38; (with_reducible refine (HD _).mono ?_); rintro ee w1 ⟨rfl, rfl⟩) | (go_at_call 63; (with_reducible refine (HM _).mono ?_); rintro ee w1 ⟨rfl, rfl⟩) | (go_at_call 63; (with_reducible refine (HW _).mono ?_); rintro ee w1 ⟨rfl, rfl⟩) | (go_at_call 63; (with_reducible refine (HL _).mono ?_); rintro ee w1 ⟨rfl, rfl⟩))
        go_returns
        exact ⟨by rw [HQ.out]; rfl, by go_grown⟩
end Go.Proofs.Ytmgaooinkdmpbaa
