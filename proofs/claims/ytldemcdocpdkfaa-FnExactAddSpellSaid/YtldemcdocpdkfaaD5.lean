/-
  Contracts of the functions of chapter 15: the number of a day, the day on which the pay is exhausted, the cases.
-/
import Derived.Test.YtldemcdocpdkfaaC5
set_option linter.unusedSimpArgs false
set_option linter.unusedVariables false
namespace Go.Proofs.Ytldemcdocpdkfaa
open Go.RowKit
theorem befB_t {xs : List (Int × Int)} {k : Nat} (h : begB xs k = true) : befB xs k = 0 := by unfold befB; rw [if_pos h]
theorem befB_f {xs : List (Int × Int)} {k : Nat} (h : begB xs k = false) : befB xs k = befN xs k := by unfold befB; rw [if_neg (by simp [h])]
set_option maxHeartbeats 2000000 in
theorem iNum_any (A : Option Addr) (n c : Nat) (xs : List (Int × Int)) (w : World) (h : RdP w w.heap.size A n xs) (d : Int) (hn : n ≤ 20) (hd : 0 ≤ d ∧ d ≤ 100000) (ha : areS xs = true) : Calls Try.prog 56 #[.slice A n c, .int .i64 d] w fun ee w' => ee = .returned (.int .i64 (numD xs d)) ∧ Below w.heap.size w w' := by
  have H := Lib.hid h
  have hl := Lib.hid h.len
  have HB := Lib.hid (befN_bd ha)
  have HX := Lib.hid (fun (i : Nat) (f t : Int) (hi : xs[i]? = some (f, t)) => areS_at ha hi)
  have HG := Lib.hid (fun W hR k hk => iBeg_any A n c xs W hR k hk hn ha)
  have HD : Hid (numD xs d = numF xs d 0 n) := by show _ = _; rw [← h.len]; rfl
  clear h ha
  go_enter Try.func56, Try.ntmps56
  go_wp2
  go_loopw [5, 10] (fun b i wr => ∃ k : Nat, k ≤ n ∧ i = .int .i64 k ∧ b = .int .i64 (befN xs k) ∧ Below w.heap.size w wr ∧ Hid (numD xs d = numF xs d k (n - k))) (fun _ i _ => n - (intOf i).toNat)
  case atStart => exact ⟨0, Nat.zero_le _, rfl, rfl, Below.refl _ _, HD.out⟩
  case round =>
    obtain ⟨k, hk, rfl, rfl, hR, HP⟩ := hrel
    have hb0 := HB.out k (by rw [hl.out]; exact hk)
    by_cases hlt : k < n
    · obtain ⟨ad, f, t, rfl, hb, hz, hx, hy⟩ := RdP.atP (H.out.below hR) hlt
      have hft := HX.out _ _ _ hz
      have HN := Lib.hid (befN_succ hz)
      have HI := fun W => inRange_any d f (t - 1) W
      have HT := Lib.hid (numF_hit' (day := d) hz hlt)
      have HM := Lib.hid (numF_miss' (day := d) hz hlt)
      have HGk := fun W hR => HG.out W hR k hlt
      clear hz
      cases hq : begB xs k
      case' true => have HBB : Hid (befB xs k = 0) := befB_t hq
      case' false => have HBB : Hid (befB xs k = befN xs k) := befB_f hq
      all_goals
        rw [hq] at HGk
        have HGk := Lib.hid HGk
        clear hq
        generalize befN xs k = b0 at *
        cases hi : inR f (t - 1) d with
        | true =>
          rw [hi] at HI
          have HI := Lib.hid HI
          have HQ := Lib.hid (HT.out hi)
          have hi := inR_iff.1 hi
          go_wp2_with (first | (go_at_call 51; (with_reducible refine Calls.mono (HGk.out _ (H.out.later (hR.alloc hR.size _))) ?_); rintro ee w1 ⟨rfl, hb1⟩; have hB1 := bel_step (hR.alloc hR.size _) hb1; obtain ⟨hc1, hf1⟩ := bcell hb1) | (go_at_call 59; (with_reducible refine (HI.out _).mono ?_); rintro ee w2 ⟨rfl, rfl⟩))
          go_ret
          exact ⟨by rw [HP.out, HQ.out, HBB.out]; exact ret_int (by first | rfl | omega), hB1⟩
        | false =>
          rw [hi] at HI
          have HI := Lib.hid HI
          have HQ := Lib.hid (HM.out hi)
          clear hi
          go_wp2_with (first | (go_at_call 51; (with_reducible refine Calls.mono (HGk.out _ (H.out.later (hR.alloc hR.size _))) ?_); rintro ee w1 ⟨rfl, hb1⟩; have hB1 := bel_step (hR.alloc hR.size _) hb1; obtain ⟨hc1, hf1⟩ := bcell hb1) | (go_at_call 59; (with_reducible refine (HI.out _).mono ?_); rintro ee w2 ⟨rfl, rfl⟩))
          go_roundw
          case rel => exact ⟨k + 1, by omega, by go_num, by rw [HN.out, HBB.out] <;> first | rfl | (congr 1; omega), hB1, HP.out.trans HQ.out⟩
          case measure => simp [intOf]; omega
    · have HE : Hid (numD xs d = 0) := by
        show _ = _
        rw [HP.out, show n - k = 0 by omega]; rfl
      go_wp2
      go_ret
      exact ⟨by rw [HE.out]; rfl, hR⟩
set_option maxHeartbeats 2000000 in
theorem sNum_any (A : Option Addr) (n c : Nat) (xs : List (Int × Int)) (w : World) (h : RdP w w.heap.size A n xs) (d : Int) (hn : n ≤ 20) (hd : 0 ≤ d ∧ d ≤ 100000) (ha : areS xs = true) : Calls Try.prog 50 #[.slice A n c, .int .i64 d] w fun ee w' => ee = .returned (.int .i64 (numD xs d)) ∧ Below w.heap.size w w' := by
  have H := Lib.hid h
  have hl := Lib.hid h.len
  have HB := Lib.hid (befN_bd ha)
  have HX := Lib.hid (fun (i : Nat) (f t : Int) (hi : xs[i]? = some (f, t)) => areS_at ha hi)
  have HG := Lib.hid (fun W hR k hk => sBeg_any A n c xs W hR k hk hn ha)
  have HD : Hid (numD xs d = numF xs d 0 n) := by show _ = _; rw [← h.len]; rfl
  clear h ha
  go_enter Try.func50, Try.ntmps50
  go_wp2
  go_loopw [5, 6] (fun b i wr => ∃ k : Nat, k ≤ n ∧ i = .int .i64 k ∧ b = .int .i64 (befN xs k) ∧ Below w.heap.size w wr ∧ Hid (numD xs d = numF xs d k (n - k))) (fun _ i _ => n - (intOf i).toNat)
  case atStart => exact ⟨0, Nat.zero_le _, rfl, rfl, Below.refl _ _, HD.out⟩
  case round =>
    obtain ⟨k, hk, rfl, rfl, hR, HP⟩ := hrel
    have hb0 := HB.out k (by rw [hl.out]; exact hk)
    by_cases hlt : k < n
    · obtain ⟨ad, f, t, rfl, hb, hz, hx, hy⟩ := RdP.atP (H.out.below hR) hlt
      have hft := HX.out _ _ _ hz
      have HN := Lib.hid (befN_succ hz)
      have HI := fun W => sIn_any d f (t - 1) W
      have HT := Lib.hid (numF_hit' (day := d) hz hlt)
      have HM := Lib.hid (numF_miss' (day := d) hz hlt)
      have HGk := fun W hR => HG.out W hR k hlt
      have hlt' : (k : Int) < (n : Int) := by omega
      clear hz
      cases hq : begB xs k
      case' true => have HBB : Hid (befB xs k = 0) := befB_t hq
      case' false => have HBB : Hid (befB xs k = befN xs k) := befB_f hq
      all_goals
        rw [hq] at HGk
        have HGk := Lib.hid HGk
        clear hq
        generalize befN xs k = b0 at *
        have q1 := IntWalk.i64_in (b0 + t) (by omega)
        have q2 := IntWalk.i64_in (b0 + t - f) (by omega)
        have q3 := IntWalk.i64_in (t - 1) (by omega)
        have q4 := IntWalk.i64_in (t - f) (by omega)
        go_wp2_with (go_at_call 52; (with_reducible refine Calls.mono (HGk.out _ (H.out.later hR)) ?_); rintro ee w1 ⟨rfl, hb1⟩; have hB1 := bel_step hR hb1)
        have c0 : ∀ x : InC w1, x.w.cell? (ad.add (k * 2)) = some (.int .i64 f) := fun x => x.cell (keepC hb1 hx)
        have c1 : ∀ x : InC w1, x.w.cell? ⟨(ad.add (k * 2)).block, (ad.add (k * 2)).off + 1, none⟩ = some (.int .i64 t) := fun x => x.cell (keepC hb1 hy)
        clear hx hy
        cases hi : inR f (t - 1) d with
        | true =>
          rw [hi] at HI
          have HI := Lib.hid HI
          have HQ := Lib.hid (HT.out hi)
          have hi := inR_iff.1 hi
          (refine wp_region_inC (by kernel_rfl) (by kernel_rfl) ?_; (repeat go_big_quiet_step ((go_at_call 54; with_reducible exact Calls.inC_same (HI.out _)))); refine wpQuiet_nil ?_; rintro w2 ⟨⟨_, hb2⟩, rfl⟩)
          have kf := keepC hb2 (c0 ⟨w1, Below.refl _ _⟩)
          go_wp2
          go_ret
          exact ⟨by rw [HP.out, HQ.out, HBB.out]; exact ret_int (by first | rfl | omega), bel_step hB1 hb2⟩
        | false =>
          rw [hi] at HI
          have HI := Lib.hid HI
          have HQ := Lib.hid (HM.out hi)
          clear hi
          (refine wp_region_inC (by kernel_rfl) (by kernel_rfl) ?_; (repeat go_big_quiet_step ((go_at_call 54; with_reducible exact Calls.inC_same (HI.out _)))); refine wpQuiet_nil ?_; rintro w2 ⟨⟨_, hb2⟩, rfl⟩)
          have d0 : ∀ x : InC w2, x.w.cell? (ad.add (k * 2)) = some (.int .i64 f) := fun x => x.cell (keepC hb2 (c0 ⟨w1, Below.refl _ _⟩))
          have d1 : ∀ x : InC w2, x.w.cell? ⟨(ad.add (k * 2)).block, (ad.add (k * 2)).off + 1, none⟩ = some (.int .i64 t) := fun x => x.cell (keepC hb2 (c1 ⟨w1, Below.refl _ _⟩))
          clear c0 c1
          go_wp2_with fail
          (refine wp_region_inC (by kernel_rfl) (by kernel_rfl) ?_; (repeat go_big_quiet_step (fail)); refine wpQuiet_nil ?_; rintro w3 ⟨⟨_, hb3⟩, rfl⟩)
          go_wp2
          go_roundw
          case rel => exact ⟨k + 1, by omega, by go_num, by rw [HN.out, HBB.out] <;> first | rfl | (congr 1; omega), bel_step (bel_step hB1 hb2) hb3, HP.out.trans HQ.out⟩
          case measure => simp [intOf]; omega
    · have HE : Hid (numD xs d = 0) := by
        show _ = _
        rw [HP.out, show n - k = 0 by omega]; rfl
      go_wp2
      go_ret
      exact ⟨by rw [HE.out]; rfl, hR⟩
end Go.Proofs.Ytldemcdocpdkfaa
