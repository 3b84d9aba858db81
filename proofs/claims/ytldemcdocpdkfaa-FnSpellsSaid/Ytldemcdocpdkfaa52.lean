/-
  The walk of a law of chapter 15, FnSpells: the law returns true and turns nothing that was there. No condition.
-/
import Derived.Test.Ytldemcdocpdkfaa51
import Derived.Test.Ytldemcdocpdkfaa02
import Derived.Test.YtldemcdocpdkfaaT5
import Derived.Test.YtldemcdocpdkfaaU7
import Derived.Test.YtldemcdocpdkfaaZ5
set_option linter.unusedSimpArgs false
set_option linter.unusedVariables false
namespace Go.Proofs.Ytldemcdocpdkfaa
open Go.ChangeShapes Go.WideShapes Go.ChangeAt Go.RowKit Go.Deep
set_option maxHeartbeats 4000000 in
set_option maxRecDepth 100000 in
theorem fnSpells_walk (A : Option Addr) (n c : Nat) (bs : List Int) (w : World) (h : RdB w w.heap.size A n bs) (hby : ∀ b ∈ bs, 0 ≤ b ∧ b ≤ 255) (hmx : n ≤ maxLen) : Calls Try.prog 12 #[.slice A n c] w fun e' w' => e' = .returned (.bool true) ∧ Below w.heap.size w w' := by
  have HBig := fun W => big_any A n c W hmx
  by_cases hn : n ≤ 4096
  · have HCW : Hid (∀ W, Below w.heap.size w W → Code' W.heap.size W A n) := fun W hB => ⟨hn, bs, (h.below hB).more hB.size, hby⟩
    rw [decide_eq_false (show ¬ 4096 < n by omega)] at HBig
    clear h hby
    go_enter Try.func12, Try.ntmps12
    go_wp2_with (first | (go_at_call 34; (with_reducible refine (HBig _).mono ?_); rintro ee w0 ⟨rfl, rfl⟩) | (go_at_call 43; (with_reducible refine Calls.mono (drawAdd_any A n c _ HCW.out) ?_); rintro ee w1 ⟨A1, m1, c1, xs, a, b, rfl, hR1, hm1, hb1⟩; have R1 := Lib.hid hR1; have hB1 := hb1; clear hR1))
    obtain ⟨W1, hW1⟩ : ∃ W1 : World, W1 = w1.alloc (.cells #[.int .i64 a, .int .i64 b] 57) := ⟨_, rfl⟩
    rw [← hW1]
    have hB : Below w.heap.size w W1 := by rw [hW1]; exact hB1.alloc hB1.size _
    have R : Hid (RdP W1 W1.heap.size A1 m1 xs) := by rw [hW1]; exact R1.out.cur _
    have hbx : W1.heap[w1.heap.size]? = some (.cells #[.int .i64 a, .int .i64 b] 57 (0, 0)) := by rw [hW1]; exact boxNew _ _
    obtain ⟨p0, p1, _, _⟩ := box2 hbx
    clear hW1 hbx hb1 R1 hB1
    have hL := addL_le xs a b
    have HA := add_law (xs := xs) (a := a) (b := b)
    have HI := fun W hR => iAdd_any A1 m1 c1 xs W hR a b (by omega)
    have HS := fun W hR => sAdd_any A1 m1 c1 xs W hR a b (by omega)
    have HX := Lib.hid (fun W hR => iSick_any A1 m1 c1 xs W hR (by omega))
    generalize addL xs a b = L at *
    generalize addC xs a b = kc at *
    have HI := Lib.hid HI
    have HS := Lib.hid HS
    have HA := Lib.hid HA
    go_wp2_with (first | (go_at_call 41; (with_reducible refine Calls.mono (HI.out _ R.out) ?_); rintro ee w2 ⟨A2, m2, c2, rfl, ho, hb⟩; obtain ⟨rfl, hr⟩ := ho.rd; have X := Lib.hid hr; replace hB := bel_step hB hb; replace R := Lib.hid (R.out.later hb); replace p0 := keepC hb p0; replace p1 := keepC hb p1; clear ho hr hb) | (go_at_call 39; (with_reducible refine Calls.mono (HS.out _ R.out) ?_); rintro ee w3 ⟨A3, m3, c3, rfl, ho, hb⟩; obtain ⟨rfl, hr⟩ := ho.rd; replace hB := bel_step hB hb; replace R := Lib.hid (R.out.later hb); replace p0 := keepC hb p0; replace p1 := keepC hb p1; replace X := Lib.hid (X.out.later hb); have X' := Lib.hid hr; clear ho hr hb) | (go_at_call 44; (with_reducible refine Calls.mono (drawCas_any A n c _ (HCW.out _ hB)) ?_); rintro ee w4 ⟨A4, m4, c4, ys, rfl, hr, hm4, hb⟩; replace hB := bel_step hB hb; replace R := Lib.hid (R.out.later hb); replace p0 := keepC hb p0; replace p1 := keepC hb p1; replace X := Lib.hid (X.out.later hb); replace X' := Lib.hid (X'.out.later hb); have Y := Lib.hid hr; clear hr hb))
    clear HI HS HCW
    have hE := exh_law (ys := ys)
    have hC := cas_law (ys := ys)
    have H1 := fun W hR => iCas_any A4 m4 c4 ys W hR (by omega)
    have H2 := fun W hR => sCas_any A4 m4 c4 ys W hR (by omega)
    have H3 := fun W hR => iExh_any A4 m4 c4 ys W hR (by omega)
    have H4 := fun W hR => sExh_any A4 m4 c4 ys W hR (by omega)
    have H5 := Lib.hid (fun W hR => iSick_any A4 m4 c4 ys W hR (by omega))
    have H6 := Lib.hid (fun W hR => sSick_any A4 m4 c4 ys W hR (by omega))
    have H7 := fun W hR => iNu_any A4 m4 c4 ys W hR (exW ys) (by omega)
    have H8 := fun W hR => iPo_any A4 m4 c4 ys W hR (exW ys) 10 (by omega)
    have H9 := fun W hR => iPbt_any A4 m4 c4 ys W hR 0 100000 2 (by omega)
    generalize nuV ys (exW ys) = nv at *
    generalize spC ys (inR 0 100000 (exW ys)) = nc at *
    generalize poV ys (exW ys) 10 = pv at *
    generalize spC ys (inR 0 100000 (exW ys) && inR 1 100000 10) = pc at *
    generalize exW ys = E at *
    generalize exhC ys = eC at *
    generalize spC ys (pbB 0 100000 2) = bc at *
    generalize pbV ys 0 100000 2 = bv at *
    have hcl : (casL ys).length ≤ 1000 := by
      have e1 := Y.out.len
      unfold casL
      split
      · have := casF_len ys ys.length; omega
      · simp
    generalize casL ys = C at *
    generalize casC ys = cC at *
    have G1 := fun W A' c' hR => iNu_any A' L.length c' L W hR a (by omega)
    have G2 := fun W A' c' hR => iSick_any A' L.length c' L W hR (by omega)
    have G3 := fun W A' c' hR => iAreS_any A' L.length c' L W hR (by omega)
    have HA := HA.out
    have HX := HX.out
    generalize areS L = ar at *
    generalize nuV L a = kn at *
    generalize spC L (inR 0 100000 a) = kc2 at *
    generalize sicC L = s2c at *
    generalize sicV L = s2 at *
    generalize sicC xs = s1c at *
    generalize sicV xs = s1 at *
    have hE' : (eC == 0) = false ∨ (eC = 0 ∧ nv = 368 ∧ nc = 0 ∧ pv = 0 ∧ pc = 0) := by
      by_cases e : eC = 0
      · exact .inr ⟨e, hE e⟩
      · exact .inl (by simpa using e)
    have hC' : (cC == 0) = false ∨ (cC = 0 ∧ bc = 0 ∧ 0 ≤ bv ∧ bv ≤ 546 * (C.length : Int)) := by
      by_cases e : cC = 0
      · exact .inr ⟨e, hC e⟩
      · exact .inl (by simpa using e)
    have hA' : (kc != 0) = true ∨ (kc = 0 ∧ ar = true ∧ 0 < kn ∧ kn ≤ 3000000 ∧ kc2 = 0 ∧ s1c = 0 ∧ s2c = 0 ∧ s1 ≤ s2 ∧ s2 ≤ s1 + b - a ∧ (0 ≤ a ∧ a < b ∧ b ≤ 100000) ∧ 0 ≤ s1 ∧ s1 ≤ 2000000) := by
      by_cases e : kc = 0
      · exact .inr ⟨e, HA e⟩
      · exact .inl (by simpa using e)
    have H1 := Lib.hid H1
    have H2 := Lib.hid H2
    have H3 := Lib.hid H3
    have H4 := Lib.hid H4
    clear hE hC HA
    rcases hE' with hE | ⟨rfl, rfl, rfl, rfl, rfl⟩ <;> rcases hC' with hC | ⟨rfl, rfl, hv0, hv1⟩ <;> rcases hA' with hA | ⟨rfl, rfl, hA1, hA2, rfl, rfl, rfl, hA3, hA4, hA5, hA6, hA7⟩
    all_goals
      have H7 := Lib.hid H7
      have H8 := Lib.hid H8
      have H9 := Lib.hid H9
      have G1 := Lib.hid G1
      have G2 := Lib.hid G2
      have G3 := Lib.hid G3
      have HX := Lib.hid HX
      (try have q1 : decide (s1 ≤ s2) = true := decide_eq_true hA3)
      (try have q2 : decide (s2 ≤ s1 + b - a) = true := decide_eq_true hA4)
      (try have q3 : decide (0 < kn) = true := decide_eq_true hA1)
      (try have q4 : decide (546 * (C.length : Int) < bv) = false := decide_eq_false (by omega))
      (try have q5 : decide ((C.length : Int) * 546 < bv) = false := decide_eq_false (by omega))
      (try have q6 : decide (s2 ≥ s1) = true := decide_eq_true hA3)
      (try have q7 : decide (kn > 0) = true := decide_eq_true hA1)
      go_wp2_with (first | (go_at_call 23; (with_reducible refine Calls.mono (H1.out _ Y.out) ?_); rintro ee w5 ⟨A5, m5, c5, rfl, ho, hb⟩; obtain ⟨rfl, hr⟩ := ho.rd; replace hB := bel_step hB hb; replace R := Lib.hid (R.out.later hb); replace p0 := keepC hb p0; replace p1 := keepC hb p1; replace X := Lib.hid (X.out.later hb); replace X' := Lib.hid (X'.out.later hb); replace Y := Lib.hid (Y.out.later hb); (try replace U := Lib.hid (U.out.later hb)); (try replace U' := Lib.hid (U'.out.later hb)); have U := Lib.hid hr; clear ho hr hb) | (go_at_call 22; (with_reducible refine Calls.mono (H2.out _ Y.out) ?_); rintro ee w6 ⟨A6, m6, c6, rfl, ho, hb⟩; obtain ⟨rfl, hr⟩ := ho.rd; replace hB := bel_step hB hb; replace R := Lib.hid (R.out.later hb); replace p0 := keepC hb p0; replace p1 := keepC hb p1; replace X := Lib.hid (X.out.later hb); replace X' := Lib.hid (X'.out.later hb); replace Y := Lib.hid (Y.out.later hb); (try replace U := Lib.hid (U.out.later hb)); (try replace U' := Lib.hid (U'.out.later hb)); have U' := Lib.hid hr; clear ho hr hb) | (go_at_call 21; (with_reducible refine Calls.mono (H3.out _ Y.out) ?_); rintro ee wz ⟨rfl, hb⟩; replace hB := bel_step hB hb; replace R := Lib.hid (R.out.later hb); replace p0 := keepC hb p0; replace p1 := keepC hb p1; replace X := Lib.hid (X.out.later hb); replace X' := Lib.hid (X'.out.later hb); replace Y := Lib.hid (Y.out.later hb); (try replace U := Lib.hid (U.out.later hb)); (try replace U' := Lib.hid (U'.out.later hb)); clear hb) | (go_at_call 20; (with_reducible refine Calls.mono (H4.out _ Y.out) ?_); rintro ee wz ⟨rfl, hb⟩; replace hB := bel_step hB hb; replace R := Lib.hid (R.out.later hb); replace p0 := keepC hb p0; replace p1 := keepC hb p1; replace X := Lib.hid (X.out.later hb); replace X' := Lib.hid (X'.out.later hb); replace Y := Lib.hid (Y.out.later hb); (try replace U := Lib.hid (U.out.later hb)); (try replace U' := Lib.hid (U'.out.later hb)); clear hb) | (go_at_call 19; (with_reducible refine Calls.mono (H5.out _ Y.out) ?_); rintro ee wz ⟨rfl, hb⟩; replace hB := bel_step hB hb; replace R := Lib.hid (R.out.later hb); replace p0 := keepC hb p0; replace p1 := keepC hb p1; replace X := Lib.hid (X.out.later hb); replace X' := Lib.hid (X'.out.later hb); replace Y := Lib.hid (Y.out.later hb); (try replace U := Lib.hid (U.out.later hb)); (try replace U' := Lib.hid (U'.out.later hb)); clear hb) | (go_at_call 18; (with_reducible refine Calls.mono (H6.out _ Y.out) ?_); rintro ee wz ⟨rfl, hb⟩; replace hB := bel_step hB hb; replace R := Lib.hid (R.out.later hb); replace p0 := keepC hb p0; replace p1 := keepC hb p1; replace X := Lib.hid (X.out.later hb); replace X' := Lib.hid (X'.out.later hb); replace Y := Lib.hid (Y.out.later hb); (try replace U := Lib.hid (U.out.later hb)); (try replace U' := Lib.hid (U'.out.later hb)); clear hb) | (go_at_call 45; (with_reducible refine Calls.mono (likeSpells_same A2 A3 _ _ _ _ _ L _ X.out X'.out (Nat.le_refl _) (Nat.le_refl _) (by unfold maxLen; omega)) ?_); rintro ee wz ⟨rfl, hb⟩; replace hB := bel_step hB hb; replace R := Lib.hid (R.out.later hb); replace p0 := keepC hb p0; replace p1 := keepC hb p1; replace X := Lib.hid (X.out.later hb); replace X' := Lib.hid (X'.out.later hb); replace Y := Lib.hid (Y.out.later hb); (try replace U := Lib.hid (U.out.later hb)); (try replace U' := Lib.hid (U'.out.later hb)); clear hb) | (go_at_call 46; (with_reducible refine Calls.mono (likeInts_same _ _ _ _ _ _ _ C _ U.out U'.out (by unfold maxLen; omega)) ?_); rintro ee wz ⟨rfl, hb⟩; replace hB := bel_step hB hb; replace R := Lib.hid (R.out.later hb); replace p0 := keepC hb p0; replace p1 := keepC hb p1; replace X := Lib.hid (X.out.later hb); replace X' := Lib.hid (X'.out.later hb); replace Y := Lib.hid (Y.out.later hb); (try replace U := Lib.hid (U.out.later hb)); (try replace U' := Lib.hid (U'.out.later hb)); clear hb) | (go_at_call 29; (with_reducible refine Calls.mono (H7.out _ Y.out) ?_); rintro ee wz ⟨rfl, hb⟩; replace hB := bel_step hB hb; replace R := Lib.hid (R.out.later hb); replace p0 := keepC hb p0; replace p1 := keepC hb p1; replace X := Lib.hid (X.out.later hb); replace X' := Lib.hid (X'.out.later hb); replace Y := Lib.hid (Y.out.later hb); (try replace U := Lib.hid (U.out.later hb)); (try replace U' := Lib.hid (U'.out.later hb)); clear hb) | (go_at_call 31; (with_reducible refine Calls.mono (H8.out _ Y.out) ?_); rintro ee wz ⟨rfl, hb⟩; replace hB := bel_step hB hb; replace R := Lib.hid (R.out.later hb); replace p0 := keepC hb p0; replace p1 := keepC hb p1; replace X := Lib.hid (X.out.later hb); replace X' := Lib.hid (X'.out.later hb); replace Y := Lib.hid (Y.out.later hb); (try replace U := Lib.hid (U.out.later hb)); (try replace U' := Lib.hid (U'.out.later hb)); clear hb) | (go_at_call 33; (with_reducible refine Calls.mono (H9.out _ Y.out) ?_); rintro ee wz ⟨rfl, hb⟩; replace hB := bel_step hB hb; replace R := Lib.hid (R.out.later hb); replace p0 := keepC hb p0; replace p1 := keepC hb p1; replace X := Lib.hid (X.out.later hb); replace X' := Lib.hid (X'.out.later hb); replace Y := Lib.hid (Y.out.later hb); (try replace U := Lib.hid (U.out.later hb)); (try replace U' := Lib.hid (U'.out.later hb)); clear hb) | (go_at_call 29; (with_reducible refine Calls.mono (G1.out _ _ _ X.out) ?_); rintro ee wz ⟨rfl, hb⟩; replace hB := bel_step hB hb; replace R := Lib.hid (R.out.later hb); replace p0 := keepC hb p0; replace p1 := keepC hb p1; replace X := Lib.hid (X.out.later hb); replace X' := Lib.hid (X'.out.later hb); replace Y := Lib.hid (Y.out.later hb); (try replace U := Lib.hid (U.out.later hb)); (try replace U' := Lib.hid (U'.out.later hb)); clear hb) | (go_at_call 19; (with_reducible refine Calls.mono (HX.out _ R.out) ?_); rintro ee wz ⟨rfl, hb⟩; replace hB := bel_step hB hb; replace R := Lib.hid (R.out.later hb); replace p0 := keepC hb p0; replace p1 := keepC hb p1; replace X := Lib.hid (X.out.later hb); replace X' := Lib.hid (X'.out.later hb); replace Y := Lib.hid (Y.out.later hb); (try replace U := Lib.hid (U.out.later hb)); (try replace U' := Lib.hid (U'.out.later hb)); clear hb) | (go_at_call 19; (with_reducible refine Calls.mono (G2.out _ _ _ X.out) ?_); rintro ee wz ⟨rfl, hb⟩; replace hB := bel_step hB hb; replace R := Lib.hid (R.out.later hb); replace p0 := keepC hb p0; replace p1 := keepC hb p1; replace X := Lib.hid (X.out.later hb); replace X' := Lib.hid (X'.out.later hb); replace Y := Lib.hid (Y.out.later hb); (try replace U := Lib.hid (U.out.later hb)); (try replace U' := Lib.hid (U'.out.later hb)); clear hb) | (go_at_call 16; (with_reducible refine Calls.mono (G3.out _ _ _ X.out) ?_); rintro ee wz ⟨rfl, hb⟩; replace hB := bel_step hB hb; replace R := Lib.hid (R.out.later hb); replace p0 := keepC hb p0; replace p1 := keepC hb p1; replace X := Lib.hid (X.out.later hb); replace X' := Lib.hid (X'.out.later hb); replace Y := Lib.hid (Y.out.later hb); (try replace U := Lib.hid (U.out.later hb)); (try replace U' := Lib.hid (U'.out.later hb)); clear hb))
      go_ret
      exact ⟨rfl, hB⟩
  · rw [decide_eq_true (show 4096 < n by omega)] at HBig
    clear h
    go_enter Try.func12, Try.ntmps12
    go_wp2_with (go_at_call 34; (with_reducible refine (HBig _).mono ?_); rintro ee w0 ⟨rfl, rfl⟩)
    go_ret
    exact ⟨rfl, Below.refl _ _⟩
end Go.Proofs.Ytldemcdocpdkfaa
