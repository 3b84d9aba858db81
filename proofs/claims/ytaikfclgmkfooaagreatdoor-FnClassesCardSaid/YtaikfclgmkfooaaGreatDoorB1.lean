/-
  Contracts of chapter 13: what makes a class, who is dead, the shares of the living.
-/
import Derived.Test.YtaikfclgmkfooaaGreatDoorA1
import Derived.Test.YtaikfclgmkfooaaGreatDoorB
import Derived.Test.YtaikfclgmkfooaaGreatDoorOW
set_option linter.unusedSimpArgs false
set_option linter.unusedVariables false
namespace Go.Proofs.YtaikfclgmkfooaaGreatDoor
open Go.RowKit
theorem c3_cells {W : World} {t : TypeId} {g : Nat} {a b e : Value} (h : Blk W g t #[a, b, e]) : W.cell? ⟨g, 0, none⟩ = some a ∧ W.cell? ⟨g, 1, none⟩ = some b ∧ W.cell? ⟨g, 2, none⟩ = some e := ⟨h.cell 0, h.cell 1, h.cell 2⟩
set_option maxHeartbeats 400000 in
theorem lengthI_any (A : Option Addr) (n c : Nat) (w : World) (hn : n ≤ 3000000) : Calls Tryz.prog 38 #[.slice A n c] w fun e w' => e = .returned (.int .i64 (n : Int)) ∧ w = w' := by
  go_enter Tryz.func38, Tryz.ntmps38
  go_wp2
  go_ret
  exact ⟨rfl, rfl⟩
set_option maxHeartbeats 1000000 in
set_option maxRecDepth 100000 in
theorem iIsC_any (S : Option Addr) (n c : Nat) (ss : List Int) (D : Option Addr) (m d : Nat) (ds : List Int) (ch : Int) (w : World) (hS : RdI w w.heap.size S n ss) (hD : RdI w w.heap.size D m ds) (hn : n ≤ 3000000) (hm : m ≤ 3000000) : Calls Tryz.prog 18 #[.agg #[.slice S n c, .slice D m d, .int .i64 ch]] w fun e w' => e = .returned (.bool (okC ss ds ch)) ∧ Below w.heap.size w w' := by
  have hl := hS.len
  have hl2 := hD.len
  have H1 := Lib.hid (fun W => lengthI_any S n c W hn)
  have H2 := fun W => inRange_any n 1 60 W
  have H3 := fun W (hB : Below w.heap.size w W) => allIn_any S n c ss 1 1000 W ((hS.below hB).more hB.size) (by unfold maxLen; omega)
  have H4 := fun W (hB : Below w.heap.size w W) => allIn_any D m d ds 0 ((n : Int) - 1) W ((hD.below hB).more hB.size) (by unfold maxLen; omega)
  have H5 := fun W => inRange_any ch 0 1000000000000 W
  have hQ : okC ss ds ch = (inR 1 60 (n : Int) && ss.all (inR 1 1000) && ds.all (inR 0 ((n : Int) - 1)) && inR 0 1000000000000 ch && incB ds) := by unfold okC; rw [hl]
  have BB := Lib.hid (Blk.new w 26 #[.slice S n c, .slice D m d, .int .i64 ch])
  have hB : Below w.heap.size w (w.alloc (.cells #[.slice S n c, .slice D m d, .int .i64 ch] 26)) := al_ _ _
  have HD := Lib.hid (fun W (hB : Below w.heap.size w W) => (hD.below hB).more hB.size)
  have HL2 := Lib.hid hl2
  clear hS hD hl hl2
  cases h1 : inR 1 60 (n : Int) with
  | false =>
    rw [h1] at H2 hQ
    simp only [Bool.false_and] at hQ
    replace H2 := Lib.hid H2
    replace hQ := Lib.hid hQ
    clear h1 H3 H4 H5
    go_enter Tryz.func18, Tryz.ntmps18
    go_wp2_with (first | (go_at_call 38; (with_reducible refine Calls.mono (H1.out _) ?_); rintro ee wz ⟨rfl, rfl⟩) | (go_at_call 39; (with_reducible refine Calls.mono (H2.out _) ?_); rintro ee wz ⟨rfl, rfl⟩))
    go_returns
    exact ⟨by rw [hQ.out]; rfl, hB⟩
  | true =>
    rw [h1] at H2 hQ
    replace H2 := Lib.hid H2
    cases h2 : ss.all (inR 1 1000) with
    | false =>
      rw [h2] at H3 hQ
      simp only [Bool.false_and, Bool.and_false] at hQ
      replace H3 := Lib.hid H3
      replace hQ := Lib.hid hQ
      clear h1 h2 H4 H5
      go_enter Tryz.func18, Tryz.ntmps18
      go_wp2_with (first | (go_at_call 38; (with_reducible refine Calls.mono (H1.out _) ?_); rintro ee wz ⟨rfl, rfl⟩) | (go_at_call 39; (with_reducible refine Calls.mono (H2.out _) ?_); rintro ee wz ⟨rfl, rfl⟩) | (go_at_call 40; (with_reducible refine Calls.mono (H3.out _ hB) ?_); rintro ee wz ⟨rfl, hb⟩; replace hB := bel_step hB hb; replace BB := Lib.hid (blk_later BB.out hb); (try clear c0 c1 c2); obtain ⟨c0, c1, c2⟩ := c3_cells BB.out; have hlB := BB.out.lt; clear hb))
      go_returns
      exact ⟨by rw [hQ.out]; rfl, hB⟩
    | true =>
      rw [h2] at H3 hQ
      replace H3 := Lib.hid H3
      cases h3 : ds.all (inR 0 ((n : Int) - 1)) with
      | false =>
        rw [h3] at H4 hQ
        simp only [Bool.false_and, Bool.and_false] at hQ
        replace H4 := Lib.hid H4
        replace hQ := Lib.hid hQ
        clear h1 h2 h3 H5
        go_enter Tryz.func18, Tryz.ntmps18
        go_wp2_with (first | (go_at_call 38; (with_reducible refine Calls.mono (H1.out _) ?_); rintro ee wz ⟨rfl, rfl⟩) | (go_at_call 39; (with_reducible refine Calls.mono (H2.out _) ?_); rintro ee wz ⟨rfl, rfl⟩) | (go_at_call 40; (with_reducible refine Calls.mono (H3.out _ hB) ?_); rintro ee wz ⟨rfl, hb⟩; replace hB := bel_step hB hb; replace BB := Lib.hid (blk_later BB.out hb); (try clear c0 c1 c2); obtain ⟨c0, c1, c2⟩ := c3_cells BB.out; have hlB := BB.out.lt; clear hb) | (go_at_call 40; (with_reducible refine Calls.mono (H4.out _ hB) ?_); rintro ee wz ⟨rfl, hb⟩; replace hB := bel_step hB hb; replace BB := Lib.hid (blk_later BB.out hb); (try clear c0 c1 c2); obtain ⟨c0, c1, c2⟩ := c3_cells BB.out; have hlB := BB.out.lt; clear hb))
        go_returns
        exact ⟨by rw [hQ.out]; rfl, hB⟩
      | true =>
        rw [h3] at H4 hQ
        replace H4 := Lib.hid H4
        cases h4 : inR 0 1000000000000 ch with
        | false =>
          rw [h4] at H5 hQ
          simp only [Bool.false_and, Bool.and_false] at hQ
          replace H5 := Lib.hid H5
          replace hQ := Lib.hid hQ
          clear h1 h2 h3 h4
          go_enter Tryz.func18, Tryz.ntmps18
          go_wp2_with (first | (go_at_call 38; (with_reducible refine Calls.mono (H1.out _) ?_); rintro ee wz ⟨rfl, rfl⟩) | (go_at_call 39; (with_reducible refine Calls.mono (H2.out _) ?_); rintro ee wz ⟨rfl, rfl⟩) | (go_at_call 39; (with_reducible refine Calls.mono (H5.out _) ?_); rintro ee wz ⟨rfl, rfl⟩) | (go_at_call 40; (with_reducible refine Calls.mono (H3.out _ hB) ?_); rintro ee wz ⟨rfl, hb⟩; replace hB := bel_step hB hb; replace BB := Lib.hid (blk_later BB.out hb); (try clear c0 c1 c2); obtain ⟨c0, c1, c2⟩ := c3_cells BB.out; have hlB := BB.out.lt; clear hb) | (go_at_call 40; (with_reducible refine Calls.mono (H4.out _ hB) ?_); rintro ee wz ⟨rfl, hb⟩; replace hB := bel_step hB hb; replace BB := Lib.hid (blk_later BB.out hb); (try clear c0 c1 c2); obtain ⟨c0, c1, c2⟩ := c3_cells BB.out; have hlB := BB.out.lt; clear hb))
          go_returns
          exact ⟨by rw [hQ.out]; rfl, hB⟩
        | true =>
          rw [h4] at H5 hQ
          simp only [Bool.true_and] at hQ
          replace H5 := Lib.hid H5
          replace hQ := Lib.hid hQ
          clear h1 h2 h3 h4
          go_enter Tryz.func18, Tryz.ntmps18
          go_wp2_with (first | (go_at_call 38; (with_reducible refine Calls.mono (H1.out _) ?_); rintro ee wz ⟨rfl, rfl⟩) | (go_at_call 39; (with_reducible refine Calls.mono (H2.out _) ?_); rintro ee wz ⟨rfl, rfl⟩) | (go_at_call 39; (with_reducible refine Calls.mono (H5.out _) ?_); rintro ee wz ⟨rfl, rfl⟩) | (go_at_call 40; (with_reducible refine Calls.mono (H3.out _ hB) ?_); rintro ee wz ⟨rfl, hb⟩; replace hB := bel_step hB hb; replace BB := Lib.hid (blk_later BB.out hb); (try clear c0 c1 c2); obtain ⟨c0, c1, c2⟩ := c3_cells BB.out; have hlB := BB.out.lt; clear hb) | (go_at_call 40; (with_reducible refine Calls.mono (H4.out _ hB) ?_); rintro ee wz ⟨rfl, hb⟩; replace hB := bel_step hB hb; replace BB := Lib.hid (blk_later BB.out hb); (try clear c0 c1 c2); obtain ⟨c0, c1, c2⟩ := c3_cells BB.out; have hlB := BB.out.lt; clear hb))
          clear H1 H2 H3 H4 H5
          go_loopw [4] (fun i wr => ∃ k : Nat, i = .int .i64 k ∧ 1 ≤ k ∧ k ≤ m + 1 ∧ Hid (∀ j, j + 1 < k → gz ds j < gz ds (j + 1)) ∧ Below w.heap.size w wr ∧ Hid (Blk wr w.heap.size 26 #[.slice S n c, .slice D m d, .int .i64 ch])) (fun i _ => m + 1 - (intOf i).toNat)
          case atStart => exact ⟨1, rfl, Nat.le_refl _, by omega, fun j hj => by omega, hB, BB⟩
          case round =>
            clear hB BB c0 c1 c2 hlB
            obtain ⟨k, rfl, hk0, hk, HP, hB, BB⟩ := hrel
            obtain ⟨c0, c1, c2⟩ := c3_cells BB.out
            have hlB := BB.out.lt
            by_cases hlt : k < m
            · obtain ⟨ad, rfl, hb1, k1⟩ := RdI.atZ (HD.out _ hB) hlt
              obtain ⟨_, e2, hb2, k2⟩ := RdI.atZ (HD.out _ hB) (show k - 1 < m by omega)
              cases e2
              have hk1 : ((k : Int) - 1) = ((k - 1 : Nat) : Int) := by omega
              have hb3 : (ad.add k).block < wr.heap.size := by rw [block_of_add]; exact hb1
              have hb4 : (ad.add (k - 1)).block < wr.heap.size := by rw [block_of_add]; exact hb1
              by_cases hg : gz ds (k - 1) < gz ds k
              · have HP2 : Hid (∀ j, j + 1 < k + 1 → gz ds j < gz ds (j + 1)) := Lib.hid (fun j hj => by
                  rcases Nat.lt_or_ge (j + 1) k with h | h
                  · exact HP.out j h
                  · have e1 : j = k - 1 := by omega
                    rw [e1, show k - 1 + 1 = k by omega]
                    exact hg)
                generalize gz ds (k - 1) = Y at *
                generalize gz ds k = Z at *
                have hg2 : ¬ Z ≤ Y := by omega
                go_wp2_with fail
                go_quiet (fail)
                go_wp2
                go_roundw
                case rel => exact ⟨k + 1, by go_num, by omega, by omega, HP2, bel_step hB (belowN _), BB⟩
                case measure => simp [intOf]; omega
              · have HE := Lib.hid (incB_f (ds := ds) (i := k - 1) (by have := HL2.out; omega) (by rw [show k - 1 + 1 = k by omega]; exact hg))
                generalize gz ds (k - 1) = Y at *
                generalize gz ds k = Z at *
                have hg2 : Z ≤ Y := by omega
                go_wp2_with fail
                go_quiet (fail)
                go_wp2
                go_returns
                exact ⟨by rw [hQ.out, HE.out]; rfl, bel_step hB (belowN _)⟩
            · have HE := Lib.hid (incB_t (ds := ds) (fun j hj => HP.out j (by have := HL2.out; omega)))
              go_wp2
              go_returns
              exact ⟨by rw [hQ.out, HE.out]; rfl, hB⟩
theorem okC_f {ss ds : List Int} {ch : Int} (h : okC ss ds ch = true → False) : Hid (okC ss ds ch = false) := by
  show _ = _
  cases hb : okC ss ds ch with
  | false => rfl
  | true => exact absurd (h hb) id
set_option maxHeartbeats 1000000 in
set_option maxRecDepth 100000 in
theorem sIsC_any (S : Option Addr) (n c : Nat) (ss : List Int) (D : Option Addr) (m d : Nat) (ds : List Int) (ch : Int) (w : World) (hS : RdI w w.heap.size S n ss) (hD : RdI w w.heap.size D m ds) (hn : n ≤ 3000000) (hm : m ≤ 3000000) : Calls Tryz.prog 23 #[.agg #[.slice S n c, .slice D m d, .int .i64 ch]] w fun e w' => e = .returned (.bool (okC ss ds ch)) ∧ Below w.heap.size w w' := by
  have hl := hS.len
  have hl2 := hD.len
  have H3 := fun W (hB : Below w.heap.size w W) => within_any S n c ss 60 1 1000 W ((hS.below hB).more hB.size) (by unfold maxLen; omega)
  have H4 := fun W (hB : Below w.heap.size w W) => within_any D m d ds (n : Int) 0 ((n : Int) - 1) W ((hD.below hB).more hB.size) (by unfold maxLen; omega)
  have H5 := fun W => sIn_any ch 0 1000000000000 W
  have BB := Lib.hid (Blk.new w 26 #[.slice S n c, .slice D m d, .int .i64 ch])
  have hB : Below w.heap.size w (w.alloc (.cells #[.slice S n c, .slice D m d, .int .i64 ch] 26)) := al_ _ _
  have HD := Lib.hid (fun W (hB : Below w.heap.size w W) => (hD.below hB).more hB.size)
  have HL2 := Lib.hid hl2
  clear hS hD
  by_cases h1 : (n : Int) < 1
  · have hQ := okC_f (ss := ss) (ds := ds) (ch := ch) (fun e => by have := (okC_iff.1 e).1; omega)
    clear H3 H4 H5 hl hl2
    go_enter Tryz.func23, Tryz.ntmps23
    go_wp2_with fail
    go_returns
    exact ⟨by rw [hQ.out]; rfl, hB⟩
  · cases h2 : (ss.all (inR 1 1000) && decide ((n : Int) ≤ 60)) with
    | false =>
      have hQ := okC_f (ss := ss) (ds := ds) (ch := ch) (fun e => by
        have h3 := okC_iff.1 e
        rw [h3.2.1, Bool.true_and, decide_eq_false_iff_not] at h2
        omega)
      rw [h2] at H3
      replace H3 := Lib.hid H3
      clear h2 H4 H5 hl hl2
      go_enter Tryz.func23, Tryz.ntmps23
      go_wp2_with ((go_at_call 34; (with_reducible refine Calls.mono (H3.out _ hB) ?_); rintro ee wz ⟨rfl, rfl⟩))
      go_returns
      exact ⟨by rw [hQ.out]; rfl, hB⟩
    | true =>
      rw [h2] at H3
      replace H3 := Lib.hid H3
      rw [Bool.and_eq_true, decide_eq_true_eq] at h2
      cases h4 : inR 0 1000000000000 ch with
      | false =>
        have hQ := okC_f (ss := ss) (ds := ds) (ch := ch) (fun e => by
          have h3 := (okC_iff.1 e).2.2.2.1
          rw [inR_iff.2 h3] at h4
          cases h4)
        rw [h4] at H5
        replace H5 := Lib.hid H5
        clear h2 h4 H4 hl hl2
        go_enter Tryz.func23, Tryz.ntmps23
        go_wp2_with (first | (go_at_call 34; (with_reducible refine Calls.mono (H3.out _ hB) ?_); rintro ee wz ⟨rfl, rfl⟩) | (go_at_call 44; (with_reducible refine Calls.mono (H5.out _) ?_); rintro ee wz ⟨rfl, rfl⟩))
        go_returns
        exact ⟨by rw [hQ.out]; rfl, hB⟩
      | true =>
        have h4' := inR_iff.1 h4
        rw [h4] at H5
        replace H5 := Lib.hid H5
        cases h3 : (ds.all (inR 0 ((n : Int) - 1)) && decide ((m : Int) ≤ (n : Int))) with
        | false =>
          have hQ := okC_f (ss := ss) (ds := ds) (ch := ch) (fun e => by
            have h5 := okC_iff.1 e
            rw [hl] at h5
            rw [h5.2.2.1, Bool.true_and, decide_eq_false_iff_not] at h3
            have := inc_len h5.2.2.2.2 h5.2.2.1
            omega)
          rw [h3] at H4
          replace H4 := Lib.hid H4
          clear h2 h3 h4 h4' hl hl2
          go_enter Tryz.func23, Tryz.ntmps23
          go_wp2_with (first | (go_at_call 34; (with_reducible refine Calls.mono (H3.out _ hB) ?_); rintro ee wz ⟨rfl, rfl⟩) | (go_at_call 34; (with_reducible refine Calls.mono (H4.out _ hB) ?_); rintro ee wz ⟨rfl, rfl⟩) | (go_at_call 44; (with_reducible refine Calls.mono (H5.out _) ?_); rintro ee wz ⟨rfl, rfl⟩))
          go_returns
          exact ⟨by rw [hQ.out]; rfl, hB⟩
        | true =>
          rw [h3] at H4
          replace H4 := Lib.hid H4
          rw [Bool.and_eq_true, decide_eq_true_eq] at h3
          have hQ : Hid (okC ss ds ch = incB ds) := by
            show _ = _
            rw [Bool.eq_iff_iff, okC_iff, hl]
            exact ⟨fun e => e.2.2.2.2, fun e => ⟨⟨by omega, by omega⟩, h2.1, h3.1, h4', e⟩⟩
          clear h2 h3 h4 h4' hl hl2
          go_enter Tryz.func23, Tryz.ntmps23
          go_wp2_with (first | (go_at_call 34; (with_reducible refine Calls.mono (H3.out _ hB) ?_); rintro ee wz ⟨rfl, rfl⟩) | (go_at_call 34; (with_reducible refine Calls.mono (H4.out _ hB) ?_); rintro ee wz ⟨rfl, rfl⟩) | (go_at_call 44; (with_reducible refine Calls.mono (H5.out _) ?_); rintro ee wz ⟨rfl, rfl⟩))
          clear H3 H4 H5
          go_loopw [4] (fun i wr => ∃ k : Nat, i = .int .i64 k ∧ 1 ≤ k ∧ k ≤ m + 1 ∧ Hid (∀ j, j + 1 < k → gz ds j < gz ds (j + 1)) ∧ Below w.heap.size w wr ∧ Hid (Blk wr w.heap.size 26 #[.slice S n c, .slice D m d, .int .i64 ch])) (fun i _ => m + 1 - (intOf i).toNat)
          case atStart => exact ⟨1, rfl, Nat.le_refl _, by omega, fun j hj => by omega, hB, BB⟩
          case round =>
            clear hB BB
            obtain ⟨k, rfl, hk0, hk, HP, hB, BB⟩ := hrel
            obtain ⟨c0, c1, c2⟩ := c3_cells BB.out
            have hlB := BB.out.lt
            by_cases hlt : k < m
            · obtain ⟨ad, rfl, hb1, k1⟩ := RdI.atZ (HD.out _ hB) hlt
              obtain ⟨_, e2, hb2, k2⟩ := RdI.atZ (HD.out _ hB) (show k - 1 < m by omega)
              cases e2
              have hk1 : ((k : Int) - 1) = ((k - 1 : Nat) : Int) := by omega
              have hb3 : (ad.add k).block < wr.heap.size := by rw [block_of_add]; exact hb1
              have hb4 : (ad.add (k - 1)).block < wr.heap.size := by rw [block_of_add]; exact hb1
              by_cases hg : gz ds (k - 1) < gz ds k
              · have HP2 : Hid (∀ j, j + 1 < k + 1 → gz ds j < gz ds (j + 1)) := Lib.hid (fun j hj => by
                  rcases Nat.lt_or_ge (j + 1) k with h | h
                  · exact HP.out j h
                  · have e1 : j = k - 1 := by omega
                    rw [e1, show k - 1 + 1 = k by omega]
                    exact hg)
                generalize gz ds (k - 1) = Y at *
                generalize gz ds k = Z at *
                have hg2 : ¬ Z ≤ Y := by omega
                go_wp2_with fail
                go_quiet (fail)
                go_wp2
                go_roundw
                case rel => exact ⟨k + 1, by go_num, by omega, by omega, HP2, bel_step hB (belowN _), BB⟩
                case measure => simp [intOf]; omega
              · have HE := Lib.hid (incB_f (ds := ds) (i := k - 1) (by have := HL2.out; omega) (by rw [show k - 1 + 1 = k by omega]; exact hg))
                generalize gz ds (k - 1) = Y at *
                generalize gz ds k = Z at *
                have hg2 : Z ≤ Y := by omega
                go_wp2_with fail
                go_quiet (fail)
                go_wp2
                go_returns
                exact ⟨by rw [hQ.out, HE.out]; rfl, bel_step hB (belowN _)⟩
            · have HE := Lib.hid (incB_t (ds := ds) (fun j hj => HP.out j (by have := HL2.out; omega)))
              go_wp2
              go_returns
              exact ⟨by rw [hQ.out, HE.out]; rfl, hB⟩
set_option maxHeartbeats 400000 in
theorem has_any (A : Option Addr) (n c : Nat) (zs : List Int) (x : Int) (w : World) (h : RdI w w.heap.size A n zs) (hn : n ≤ 3000000) : Calls Tryz.prog 24 #[.slice A n c, .int .i64 x] w fun e w' => e = .returned (.bool (hs zs x)) ∧ w = w' := by
  have hl := Lib.hid h.len
  go_enter Tryz.func24, Tryz.ntmps24
  go_wp2
  go_loop [5] (fun i => ∃ k : Nat, k ≤ n ∧ i = .int .i64 k ∧ Hid (∀ j, j < k → ∀ y, zs[j]? = some y → (y == x) = false)) (fun i => n - (intOf i).toNat)
  case atStart => exact ⟨0, Nat.zero_le _, rfl, fun j hj => by omega⟩
  case round =>
    obtain ⟨k, hk, rfl, HB⟩ := hrel
    by_cases hlt : k < n
    · obtain ⟨ad, z, rfl, hb, hz, hc⟩ := h.atI hlt
      have HZ := Lib.hid hz
      clear h hz
      cases hq : (z == x) with
      | true =>
        have HQ : Hid (hs zs x = true) := Lib.hid (by unfold hs; rw [List.any_eq_true]; exact ⟨z, List.mem_of_getElem? HZ.out, hq⟩)
        go_wp2
        go_ret
        exact ⟨by rw [HQ.out]; rfl, rfl⟩
      | false =>
        have HQ := Lib.hid hq
        go_wp2
        go_round
        case rel => exact ⟨k + 1, by omega, by go_num, step_lt HB.out HZ.out HQ.out⟩
        case measure => simp [intOf]; omega
    · have HQ : Hid (hs zs x = false) := Lib.hid (by
        unfold hs
        rw [List.any_eq_false]
        intro z hz
        obtain ⟨j, hj, rfl⟩ := List.getElem_of_mem hz
        rw [HB.out j (by have := hl.out; omega) _ (List.getElem?_eq_getElem hj)]
        decide)
      go_wp2
      go_ret
      exact ⟨by rw [HQ.out]; rfl, rfl⟩
set_option maxHeartbeats 400000 in
theorem index_any (A : Option Addr) (n cap : Nat) (zs : List Int) (x : Int) (w : World) (h : RdI w w.heap.size A n zs) (hn : n ≤ 3000000) : Calls Tryz.prog 72 #[.slice A n cap, .int .i64 x] w fun e w' => e = .returned (.int .i64 (firstI (fun z => x == z) zs)) ∧ w = w' := by
  have hl := Lib.hid h.len
  go_enter Tryz.func72, Tryz.ntmps72
  go_wp2
  go_loop [5, 8] (fun _ i => ∃ k : Nat, k ≤ n ∧ i = .int .i64 k ∧ Hid (∀ j, j < k → ∀ y, zs[j]? = some y → (x == y) = false)) (fun _ i => n - (intOf i).toNat)
  case atStart => exact ⟨0, Nat.zero_le _, rfl, fun j hj => by omega⟩
  case round =>
    obtain ⟨k, hk, rfl, HB⟩ := hrel
    by_cases hlt : k < n
    · obtain ⟨ad, z, rfl, hb, hz, hc⟩ := h.atI hlt
      have HZ := Lib.hid hz
      clear h hz
      cases hq : (x == z) with
      | true =>
        have HQ := Lib.hid hq
        go_wp2
        go_ret
        exact ⟨by rw [firstI_some (p := fun z => x == z) HB.out HZ.out HQ.out]; rfl, rfl⟩
      | false =>
        have HQ := Lib.hid hq
        go_wp2
        go_round
        case rel => exact ⟨k + 1, by omega, by go_num, step_lt (p := fun z => x == z) HB.out HZ.out HQ.out⟩
        case measure => simp [intOf]; omega
    · go_wp2
      go_ret
      exact ⟨by rw [firstI_none (p := fun z => x == z) (fun j hj => HB.out j (by have := hl.out; omega))]; rfl, rfl⟩
theorem hs_first (zs : List Int) (x : Int) : decide (0 ≤ firstI (fun z => x == z) zs) = hs zs x := by
  rw [firstI_ge]
  unfold hs
  congr 1
  funext z
  rw [Bool.eq_iff_iff, beq_iff_eq, beq_iff_eq]
  exact ⟨Eq.symm, Eq.symm⟩
set_option maxHeartbeats 400000 in
theorem contains_any (A : Option Addr) (n cap : Nat) (zs : List Int) (x : Int) (w : World) (h : RdI w w.heap.size A n zs) (hn : n ≤ 3000000) : Calls Tryz.prog 54 #[.slice A n cap, .int .i64 x] w fun e w' => e = .returned (.bool (hs zs x)) ∧ w = w' := by
  have H := Lib.hid (index_any A n cap zs x w h hn)
  have HF := Lib.hid (hs_first zs x)
  clear h
  go_enter Tryz.func54, Tryz.ntmps54
  go_wp2_with (go_at_call 72; (with_reducible refine Calls.mono (H.out) ?_); rintro ee wz ⟨rfl, rfl⟩)
  go_ret
  exact ⟨by rw [← HF.out]; rfl, rfl⟩
set_option maxHeartbeats 400000 in
theorem isDead_any (S : Option Addr) (n c : Nat) (D : Option Addr) (m d : Nat) (ds : List Int) (ch x : Int) (w : World) (hD : RdI w w.heap.size D m ds) (hm : m ≤ 3000000) : Calls Tryz.prog 36 #[.agg #[.slice S n c, .slice D m d, .int .i64 ch], .int .i64 x] w fun e w' => e = .returned (.bool (hs ds x)) ∧ Below w.heap.size w w' := by
  have H := Lib.hid (fun W (hB : Below w.heap.size w W) => contains_any D m d ds x W ((hD.below hB).more hB.size) hm)
  have BB := Lib.hid (Blk.new w 26 #[.slice S n c, .slice D m d, .int .i64 ch])
  have hB : Below w.heap.size w (w.alloc (.cells #[.slice S n c, .slice D m d, .int .i64 ch] 26)) := al_ _ _
  clear hD
  go_enter Tryz.func36, Tryz.ntmps36
  go_wp2_with (go_at_call 54; (with_reducible refine Calls.mono (H.out _ hB) ?_); rintro ee wz ⟨rfl, rfl⟩)
  go_ret
  exact ⟨rfl, hB⟩
end Go.Proofs.YtaikfclgmkfooaaGreatDoor
