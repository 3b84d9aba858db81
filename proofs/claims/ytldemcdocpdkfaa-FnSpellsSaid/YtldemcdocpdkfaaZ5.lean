/-
  Contract of impl.AddSpell. Conditions: the slice reads as xs; n at most 1048576.
-/
import Derived.Test.YtldemcdocpdkfaaY5
import Derived.Test.YtldemcdocpdkfaaV5
set_option linter.unusedSimpArgs false
set_option linter.unusedVariables false
namespace Go.Proofs.Ytldemcdocpdkfaa
open Go.ChangeShapes Go.WideShapes Go.ChangeAt Go.RowKit
set_option maxHeartbeats 4000000 in
set_option maxRecDepth 100000 in
theorem iAdd_any (A : Option Addr) (n c : Nat) (xs : List (Int × Int)) (w : World) (h : RdP w w.heap.size A n xs) (a b : Int) (hn : n ≤ 1048576) : Calls Try.prog 41 #[.slice A n c, .agg #[.int .i64 a, .int .i64 b]] w fun e w' => ∃ A' m c', e = .returned (.tuple #[.slice A' m c', .int .i64 (addC xs a b)]) ∧ OwP w' w.heap.size (.slice A' m c') (addL xs a b) ∧ Below w.heap.size w w' := by
  have H := Lib.hid h
  have hl := h.len
  obtain ⟨W0, hW0⟩ : ∃ W0 : World, W0 = w.alloc (.cells #[.int .i64 a, .int .i64 b] 57) := ⟨_, rfl⟩
  have hB0 : Below w.heap.size w W0 := by rw [hW0]; exact (Below.refl _ _).alloc (Nat.le_refl _) _
  have hbx0 : W0.heap[w.heap.size]? = some (.cells #[.int .i64 a, .int .i64 b] 57 (0, 0)) := by rw [hW0]; exact box_new _ _
  have hz0 : w.heap.size < W0.heap.size := (Array.getElem?_eq_some_iff.1 hbx0).1
  have HS := fun W => iSpell_any a b W
  have HC := fun W hR => iAreS_any A n c xs W hR hn
  cases ha : areS xs with
  | false =>
    have HQ : Hid (addC xs a b = 1 ∧ addL xs a b = []) := Lib.hid (by unfold addC addL spC; simp [ha])
    rw [ha] at HC
    have HC := Lib.hid HC
    clear h HS ha
    go_enter Try.func41, Try.ntmps41
    go_upto_region 1 with fail
    rw [← hW0]
    clear hW0
    go_wp2_with (go_at_call 16; (with_reducible refine Calls.mono (HC.out _ (H.out.later hB0)) ?_); rintro ee w1 ⟨rfl, hb1⟩; have hB1 := bel_step hB0 hb1)
    go_returns
    exact ⟨none, 0, 0, by rw [HQ.out.1]; rfl, by rw [HQ.out.2]; exact World.ownsRow_nil _ _ _ _, hB1⟩
  | true =>
    rw [ha] at HC
    have HC := Lib.hid HC
    cases hb : spB a b with
    | false =>
      have HQ : Hid (addC xs a b = 2 ∧ addL xs a b = []) := Lib.hid (by unfold addC addL spC; simp [ha, hb])
      rw [hb] at HS
      have HS := Lib.hid HS
      clear h ha hb
      go_enter Try.func41, Try.ntmps41
      go_upto_region 1 with fail
      rw [← hW0]
      clear hW0
      have tok2 : True := trivial
      go_wp2_with (first | (go_at_call 16; (with_reducible refine Calls.mono (HC.out _ (H.out.later hB0)) ?_); rintro ee w1 ⟨rfl, hb1⟩; have hB1 := bel_step hB0 hb1; obtain ⟨c0, c1, _, _⟩ := box_at ((hb1.block _ hz0).trans hbx0)) | (go_at_call 48; clear tok2; (with_reducible refine Calls.mono (HS.out _) ?_); rintro ee w2 ⟨rfl, hb2⟩; have hB2 := bel_step hB1 hb2))
      go_returns
      exact ⟨none, 0, 0, by rw [HQ.out.1]; rfl, by rw [HQ.out.2]; exact World.ownsRow_nil _ _ _ _, hB2⟩
    | true =>
      have HQ : Hid (addC xs a b = (if (addR a b xs).length ≤ 20 then 0 else 3) ∧ addL xs a b = (if (addR a b xs).length ≤ 20 then addR a b xs else [])) := Lib.hid (by unfold addC addL spC; simp [ha, hb])
      rw [hb] at HS
      have HS := Lib.hid HS
      have hab := spB_iff.1 hb
      have hn20 := (areS_split ha).1
      rw [hl] at hn20
      clear h hb
      go_enter Try.func41, Try.ntmps41
      go_upto_region 1 with fail
      rw [← hW0]
      clear hW0
      have tok2 : True := trivial
      go_wp2_with (first | (go_at_call 16; (with_reducible refine Calls.mono (HC.out _ (H.out.later hB0)) ?_); rintro ee w1 ⟨rfl, hb1⟩; have hB1 := bel_step hB0 hb1; obtain ⟨c0, c1, _, _⟩ := box_at ((hb1.block _ hz0).trans hbx0)) | (go_at_call 48; clear tok2; (with_reducible refine Calls.mono (HS.out _) ?_); rintro ee w2 ⟨rfl, hb2⟩; have hB2 := bel_step hB1 hb2))
      have hs2 := hB2.size
      have hm1 := hb1.size
      have hm2 := hb2.size
      have hbx2 : w2.heap[w.heap.size]? = some (.cells #[.int .i64 a, .int .i64 b] 57 (0, 0)) := (hb2.block _ (by omega)).trans ((hb1.block _ hz0).trans hbx0)
      have hJ0 := fun (k : Nat) (f t : Int) (hx : xs[k]? = some (f, t)) => joinS_test ha ⟨hab.1.1, hab.2.2, hab.2.1.2⟩ hx
      have hJ0 := Lib.hid hJ0
      clear hbx0 hb1 hb2 c0 c1
      go_loopw [6, 20] (fun v i wr => ∃ k : Nat, k ≤ n ∧ i = .int .i64 k ∧ (∃ A' m' c', v = .slice A' m' c') ∧ OwP wr w2.heap.size v (outL a b (xs.take k)) ∧ Below w.heap.size w wr ∧ w2.heap.size ≤ wr.heap.size ∧ wr.heap[w.heap.size]? = some (.cells #[.int .i64 (joinS a b (xs.take k)).1, .int .i64 (joinS a b (xs.take k)).2] 57 (0, 0))) (fun _ i _ => n - (intOf i).toNat)
      case atStart => exact ⟨0, Nat.zero_le _, rfl, ⟨_, _, _, rfl⟩, ownEmptyP _ _ (Nat.le_refl _), bel_step hB2 (al_ _ _), by simp, ((al_ w2 _).block _ (by omega)).trans hbx2⟩
      case round =>
        obtain ⟨k, hk, rfl, ⟨A', m', c', rfl⟩, ho, hR, hrs, hbx⟩ := hrel
        have HO := Lib.hid ho
        have hcl := (addL_len a b (xs.take k)).2.2
        have hkl : (xs.take k).length ≤ 20 := by rw [List.length_take]; omega
        clear ho
        generalize hjj : joinS a b (xs.take k) = jj at *
        obtain ⟨j0, j1⟩ := jj
        simp only at hbx
        by_cases hlt : k < n
        · obtain ⟨ad, f, t, rfl, hbk, hz, hx, hy⟩ := RdP.atP (H.out.later hR) hlt
          have hkn : (k : Int) < (n : Int) := by omega
          have HF := Lib.hid (joinS_at (a := a) (b := b) hz)
          have HG := Lib.hid (outL_at (a := a) (b := b) hz)
          have hte := hJ0.out k f t hz
          rw [hjj] at hte
          have hcase : (decide (t < j0) = true ∧ Hid (outB a b (f, t) = true)) ∨ (decide (t < j0) = false ∧ decide (j1 < f) = true ∧ Hid (outB a b (f, t) = true)) ∨ (decide (t < j0) = false ∧ decide (j1 < f) = false ∧ Hid (outB a b (f, t) = false)) := by
            unfold Hid
            by_cases p1 : t < j0
            · exact .inl ⟨decide_eq_true p1, hte.1 (.inl p1)⟩
            · by_cases p2 : j1 < f
              · exact .inr (.inl ⟨decide_eq_false p1, decide_eq_true p2, hte.1 (.inr p2)⟩)
              · refine .inr (.inr ⟨decide_eq_false p1, decide_eq_false p2, ?_⟩)
                cases e : outB a b (f, t) with
                | false => rfl
                | true => rcases hte.2 e with q | q <;> contradiction
          have HE1 : outB a b (f, t) = true → joinS a b (xs.take (k + 1)) = (j0, j1) ∧ outL a b (xs.take (k + 1)) = outL a b (xs.take k) ++ [(f, t)] := fun e => by
            rw [HF.out, hjj, HG.out, if_pos e]
            exact ⟨if_pos e, rfl⟩
          have HE2 : outB a b (f, t) = false → joinS a b (xs.take (k + 1)) = (min j0 f, max j1 t) ∧ outL a b (xs.take (k + 1)) = outL a b (xs.take k) := fun e => by
            have e' : ¬ outB a b (f, t) = true := by rw [e]; simp
            rw [HF.out, hjj, HG.out, if_neg e', List.append_nil]
            exact ⟨if_neg e', rfl⟩
          have hlw : w.heap.size < wr.heap.size := (Array.getElem?_eq_some_iff.1 hbx).1
          have hbx1 := ((al_ wr (.cells #[.int .i64 f, .int .i64 t] 57)).block _ hlw).trans hbx
          obtain ⟨z0, z1, z2, z3⟩ := box_at hbx1
          obtain ⟨y0, y1, y2, y3⟩ := box_at hbx
          have HB := Lib.hid hbx1
          have HBw := Lib.hid hbx
          have HOw := Lib.hid HO.out
          have hR1 := bel_step hR (al_ wr (.cells #[.int .i64 f, .int .i64 t] 57))
          have hO1 := Lib.hid (HO.out.later (al_ wr (.cells #[.int .i64 f, .int .i64 t] 57)))
          have hnw : (wr.alloc (.cells #[.int .i64 f, .int .i64 t] 57)).heap.size = wr.heap.size + 1 := by simp
          have hnw := Lib.hid hnw
          clear hte HF HG hz hbx hbx1 HO HC HS HQ ha
          rcases hcase with ⟨p1, HT⟩ | ⟨p1, p2, HT⟩ | ⟨p1, p2, HT⟩
          · have HV := Lib.hid (HE1 HT.out)
            clear HE1 HE2 HT
            go_wp2_with (at_builtin; refine wpl_app_spell rfl _ _ rfl w2.heap.size (outL a b (xs.take k)) _ (by rfl) (hO1.out.later (al_ _ _)) ⟨wr.heap.size + 1, 0, none⟩ f t 1 (by rfl) (by simp [go_sem]) (by simp [go_sem, Addr.add]) (by omega) (by simp; omega) ?_; intro v' w4 ho4 hg4; obtain ⟨A4, m4, c4, rfl⟩ := ho4.sl; have HO4 := Lib.hid ho4; clear ho4)
            have hrow := own_row hO1.out
            have hg4s := hg4.size
            have hw4 : wr.heap.size + 2 ≤ w4.heap.size := by simpa using hg4s
            have hbx4 := (hg4.block w.heap.size (by simp; omega) (fun e => by have := hrow _ e.symm; omega)).trans (((al_ _ _).block _ (by simp; omega)).trans HB.out)
            have hR4 := (bel_step hR1 (al_ (wr.alloc (.cells #[.int .i64 f, .int .i64 t] 57)) (.cells #[.int .i64 f, .int .i64 t] 57))).grown hg4 (by simp; omega) (fun b' e => Nat.le_trans hs2 (hrow b' e))
            go_roundw
            case rel => exact ⟨k + 1, by omega, by go_num, ⟨_, _, _, rfl⟩, by rw [HV.out.2]; exact HO4.out, hR4, by omega, by rw [HV.out.1]; exact hbx4⟩
            case measure => simp [intOf]; omega
          · have HV := Lib.hid (HE1 HT.out)
            clear HE1 HE2 HT
            go_wp2_with (at_builtin; refine wpl_app_spell rfl _ _ rfl w2.heap.size (outL a b (xs.take k)) _ (by rfl) (hO1.out.later (al_ _ _)) ⟨wr.heap.size + 1, 0, none⟩ f t 1 (by rfl) (by simp [go_sem]) (by simp [go_sem, Addr.add]) (by omega) (by simp; omega) ?_; intro v' w4 ho4 hg4; obtain ⟨A4, m4, c4, rfl⟩ := ho4.sl; have HO4 := Lib.hid ho4; clear ho4)
            have hrow := own_row hO1.out
            have hg4s := hg4.size
            have hw4 : wr.heap.size + 2 ≤ w4.heap.size := by simpa using hg4s
            have hbx4 := (hg4.block w.heap.size (by simp; omega) (fun e => by have := hrow _ e.symm; omega)).trans (((al_ _ _).block _ (by simp; omega)).trans HB.out)
            have hR4 := (bel_step hR1 (al_ (wr.alloc (.cells #[.int .i64 f, .int .i64 t] 57)) (.cells #[.int .i64 f, .int .i64 t] 57))).grown hg4 (by simp; omega) (fun b' e => Nat.le_trans hs2 (hrow b' e))
            go_roundw
            case rel => exact ⟨k + 1, by omega, by go_num, ⟨_, _, _, rfl⟩, by rw [HV.out.2]; exact HO4.out, hR4, by omega, by rw [HV.out.1]; exact hbx4⟩
            case measure => simp [intOf]; omega
          · have HV := Lib.hid (HE2 HT.out)
            clear HE1 HE2 HT
            go_wp2_with fail
            go_roundw
            case rel => exact ⟨k + 1, by omega, by go_num, ⟨_, _, _, rfl⟩, by rw [HV.out.2]; exact (HOw.out.far (g := w.heap.size) box_grown (by omega)).alloc _, bel_step (hR.grown (row := some w.heap.size) box_grown (by omega) (fun b' e => by cases e; exact Nat.le_refl _)) (al_ _ _), by simp [World.setCell, World.alloc]; omega, by rw [HV.out.1]; exact ((al_ _ _).block _ (by simp [World.setCell]; omega)).trans (box_set HBw.out)⟩
            case measure => simp [intOf]; omega
        · have hkn : k = n := by omega
          subst hkn
          rw [List.take_of_length_le (show xs.length ≤ k by omega)] at hjj HO
          have hol := (addL_len a b xs).2.2
          have hlen := addR_len hab.2.2 ha (a := a) (b := b)
          have HU := Lib.hid (fun ys hp hs => addR_uniq ha (a := a) (b := b) ⟨hab.1.1, hab.2.2, hab.2.1.2⟩ (ys := ys) hp hs)
          have HM := Lib.hid (fun x hx => outL_mem ha (a := a) (b := b) ⟨hab.1.1, hab.2.2, hab.2.1.2⟩ (x := x) hx)
          rw [hjj] at HU HM
          have hlw : w.heap.size < wr.heap.size := (Array.getElem?_eq_some_iff.1 hbx).1
          obtain ⟨z0, z1, z2, z3⟩ := box_at hbx
          have hBn := bel_step hR (al_ wr (.cells #[.int .i64 j0, .int .i64 j1] 57))
          clear hbx HC HS ha hbx2
          by_cases hc : (addR a b xs).length ≤ 20
          · rw [if_pos hc, if_pos hc] at HQ
            generalize addR a b xs = R at *
            clear hlen
            have tok7 : True := trivial
            have tok8 : True := trivial
            go_wp2_with (first | (at_builtin; clear tok7; refine wpl_app_spell rfl _ _ rfl w2.heap.size (outL a b xs) _ (by rfl) (HO.out.later (al_ _ _)) ⟨wr.heap.size, 0, none⟩ j0 j1 1 (by rfl) (by simp [go_sem]) (by simp [go_sem, Addr.add]) (by omega) (by simp; omega) ?_; intro v7 w7 ho7 hg7; obtain ⟨A7, m7, c7, rfl⟩ := ho7.sl; have HO7 := Lib.hid ho7; have hB7 := hBn.grown hg7 (by simp; omega) (fun b' e => Nat.le_trans hs2 (own_row HO.out b' e)); clear ho7) | (go_at_call 67; clear tok8; (with_reducible refine Calls.mono (sort_any _ w2.heap.size _ _ _ (outL a b xs ++ [(j0, j1)]) HO7.out HM.out (by simp) (by simp; omega)) ?_); rintro ee w8 ⟨rfl, ys, hp, hs, ho8, hg8⟩; have hys := HU.out ys hp hs; have hB8 := hB7.grown hg8 hB7.size (fun b' e => Nat.le_trans hs2 (own_row HO7.out b' e)); rw [hys] at ho8; have hm7 := ho8.rd.1; have hcc : (m7 : Int) ≤ 20 := (by omega); have HO8 := Lib.hid (ho8.mono hs2); clear hp hs ho8 hm7 hys))
            go_returns
            exact ⟨_, _, _, by rw [HQ.out.1]; rfl, by rw [HQ.out.2]; exact HO8.out, hB8⟩
          · rw [if_neg hc, if_neg hc] at HQ
            generalize addR a b xs = R at *
            clear hlen
            have tok7 : True := trivial
            have tok8 : True := trivial
            go_wp2_with (first | (at_builtin; clear tok7; refine wpl_app_spell rfl _ _ rfl w2.heap.size (outL a b xs) _ (by rfl) (HO.out.later (al_ _ _)) ⟨wr.heap.size, 0, none⟩ j0 j1 1 (by rfl) (by simp [go_sem]) (by simp [go_sem, Addr.add]) (by omega) (by simp; omega) ?_; intro v7 w7 ho7 hg7; obtain ⟨A7, m7, c7, rfl⟩ := ho7.sl; have HO7 := Lib.hid ho7; have hB7 := hBn.grown hg7 (by simp; omega) (fun b' e => Nat.le_trans hs2 (own_row HO.out b' e)); clear ho7) | (go_at_call 67; clear tok8; (with_reducible refine Calls.mono (sort_any _ w2.heap.size _ _ _ (outL a b xs ++ [(j0, j1)]) HO7.out HM.out (by simp) (by simp; omega)) ?_); rintro ee w8 ⟨rfl, ys, hp, hs, ho8, hg8⟩; have hys := HU.out ys hp hs; have hB8 := hB7.grown hg8 hB7.size (fun b' e => Nat.le_trans hs2 (own_row HO7.out b' e)); rw [hys] at ho8; have hm7 := ho8.rd.1; have hcc : 20 < (m7 : Int) := (by omega); have HO8 := Lib.hid (ho8.mono hs2); clear hp hs ho8 hm7 hys))
            go_returns
            exact ⟨none, 0, 0, by rw [HQ.out.1]; rfl, by rw [HQ.out.2]; exact World.ownsRow_nil _ _ _ _, hB8⟩
end Go.Proofs.Ytldemcdocpdkfaa
