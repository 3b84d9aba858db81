/-
  The walk of a statement of chapter 15, AddSpell: the law returns true and turns nothing that was there. No condition.
-/
import Derived.Test.YtldemcdocpdkfaaZ5
import Derived.Test.YtldemcdocpdkfaaN5
import Derived.Test.YtldemcdocpdkfaaM5
set_option linter.unusedSimpArgs false
set_option linter.unusedVariables false
namespace Go.Proofs.Ytldemcdocpdkfaa
open Go.ChangeShapes Go.WideShapes Go.ChangeAt Go.RowKit Go.Deep
set_option maxRecDepth 100000 in
/-- a spell that came in -/
theorem open_spell {H : Type} {enc : TypeId × Value → H} {w : World} {r : Reach} {b0 : Nat} {v : Value} {d : DataW H} {p : List MemPlace} (hv : Value.okWide Try.prog w r b0 54 v) (h : DataW.Trod enc Try.prog w 0 (fun _ => true) true 54 v d p) :
    ∃ a b : Int, v = .agg #[.int .i64 a, .int .i64 b] := by
  obtain ⟨l, fuel, rfl, hl, ht⟩ := open_agg Try.underlying54 (by kernel_rfl) hv h
  obtain ⟨zs, hz, rfl, hw⟩ := el_ints Try.underlying54 (by kernel_rfl) (by
    intro j f hj
    rcases j with _ | _ | j
    all_goals (simp at hj; try (subst hj; exact Try.underlying2))) hl ht
  match zs, hz with
  | [a, b], _ => exact ⟨a, b, rfl⟩
theorem bSx {W W' : World} (h : Below W.heap.size W W') : Below W.heap.size W W' ∧ ∀ b o, b < W.heap.size → W'.cell? ⟨b, o, none⟩ = W.cell? ⟨b, o, none⟩ := ⟨h, fun b o hb => h.cell (p := ⟨b, o, none⟩) hb⟩
set_option maxHeartbeats 4000000 in
set_option maxRecDepth 100000 in
theorem fnExactAddSpell_walk (A : Option Addr) (n c : Nat) (xs : List (Int × Int)) (a b : Int) (w : World) (h : RdP w w.heap.size A n xs) (hmx : n ≤ maxLen) : Calls Try.prog 11 #[.slice A n c, .agg #[.int .i64 a, .int .i64 b]] w fun e' w' => e' = .returned (.bool true) ∧ Below w.heap.size w w' := by
  by_cases hn : n ≤ 1048576
  · obtain ⟨W0, hW0⟩ : ∃ W0 : World, W0 = w.alloc (.cells #[.int .i64 a, .int .i64 b] 54) := ⟨_, rfl⟩
    have hB0 : Below w.heap.size w W0 := by rw [hW0]; exact (Below.refl _ _).alloc (Nat.le_refl _) _
    have hbx0 : W0.heap[w.heap.size]? = some (.cells #[.int .i64 a, .int .i64 b] 54 (0, 0)) := by rw [hW0]; exact box_new _ _
    have hz0 : w.heap.size < W0.heap.size := (Array.getElem?_eq_some_iff.1 hbx0).1
    obtain ⟨c0, c1, _, _⟩ := box_at hbx0
    have HP := Lib.hid (fun W (hB : Below w.heap.size w W) => toSpellS_any A n c w.heap.size xs W (h.below hB) hB.size hn)
    have HPo := Lib.hid (fun W (hB : Below w.heap.size w W) => toSpellS_own A n c w.heap.size xs W (h.below hB) hB.size hn)
    have HT := Lib.hid (fun W => toSpell_any a b W)
    have HS := fun W A' c' hR => sAdd_any A' n c' xs W hR a b hn
    have HI := fun W A' c' hR => iAdd_any A' n c' xs W hR a b hn
    have hL := addL_le xs a b
    generalize addL xs a b = L at *
    generalize addC xs a b = kc at *
    have HS := Lib.hid HS
    have HI := Lib.hid HI
    clear h
    go_enter Try.func11, Try.ntmps11
    go_upto_region 1 with fail
    try rw [← hW0]
    go_wp2_with (go_at_call 13; (with_reducible refine (szSpell_ok _ _ _ _ hn).mono ?_); rintro ee w0 ⟨rfl, rfl⟩)
    try rw [← hW0]
    clear hW0
    go_region_held3 (fun W' => Below W0.heap.size W0 W' ∧ ∀ b o, b < W0.heap.size → W'.cell? ⟨b, o, none⟩ = W0.cell? ⟨b, o, none⟩) (first | exact bSx (Below.refl _ _).drew | exact bSx hb1 | exact bSx (bel_step hb1 hb2) | exact bSx (bel_step (bel_step hb1 hb2) hb3)) (first | (go_at_call 15; (with_reducible refine Calls.mono (HP.out _ hB0.drew) ?_); rintro ee w1 ⟨A1, c1', rfl, hR1, hb1⟩; have Q1 := Lib.hid hR1; clear hR1; have hb1 := bel_step (w := W0) (Below.refl _ _).drew hb1; have hB1 := bel_step hB0 hb1) | (go_at_call 40; (with_reducible refine Calls.mono (HT.out _) ?_); rintro ee w2 ⟨rfl, hb2⟩; have hB2 := bel_step hB1 hb2; have Q2 := Lib.hid (Q1.out.later hb2)) | (go_at_call 39; (with_reducible refine Calls.mono (HS.out _ _ _ Q2.out) ?_); rintro ee w3 ⟨A3, m3, c3, rfl, ho3, hb3⟩; have hB3 := bel_step hB2 hb3; have O3 := Lib.hid ho3; clear ho3))
    have hW3 : Below W0.heap.size W0 w3 := bel_step (bel_step hb1 hb2) hb3
    obtain ⟨rfl, hr3⟩ := O3.out.rd
    have R3 := Lib.hid hr3
    have hs3 := hB3.size
    have hq3 := hW3.size
    clear hr3 O3 Q1 Q2 hb1 hb2 hb3 hB1 hB2 HS
    have tok4 : True := trivial
    go_wp2_with (go_at_call 15; clear tok4; (with_reducible refine Calls.mono (HPo.out _ hB3) ?_); rintro ee w4 ⟨rfl, hr, ⟨cs4, hk4, hz4⟩, hb4⟩; have X4 := Lib.hid hr; have K4 := Lib.hid hk4; have hl4 := hk4.lt; have Z4 := Lib.hid hz4; clear hr hk4 hz4; have hB4 := bel_step hB3 hb4; have hW4 := bel_step hW3 hb4; have hs4 := hB4.size; have ht4 : w3.heap.size ≤ w4.heap.size := hb4.size; have R4 := Lib.hid (R3.out.below (hb4.mono (by omega))); have d0 := keepC hW4 c0; have d1 := keepC hW4 c1)
    have tok5 : True := trivial
    have tok6 : True := trivial
    go_wp2_with (first | (go_at_call 40; clear tok5; (with_reducible refine Calls.mono (HT.out _) ?_); rintro ee w5 ⟨rfl, hb5⟩; have hB5 := bel_step hB4 hb5; have hW5 := bel_step hW4 hb5; have hs5 := hB5.size; have ht5 : w4.heap.size ≤ w5.heap.size := hb5.size; have R5 := Lib.hid (R4.out.below (hb5.mono (by omega))); have X5 := Lib.hid (X4.out.later hb5); have K5 := Lib.hid (K4.out.below hb5 (by omega))) | (go_at_call 41; clear tok6; (with_reducible refine Calls.mono (HI.out _ _ _ X5.out) ?_); rintro ee w6 ⟨A6, m6, c6, rfl, ho, hb6⟩; obtain ⟨rfl, hr⟩ := ho.rd; have Q6 := Lib.hid hr; have O6 := Lib.hid ho; clear hr ho; have hB6 := bel_step hB5 hb6; have hW6 := bel_step hW5 hb6; have hs6 := hB6.size; have ht6 : w5.heap.size ≤ w6.heap.size := hb6.size; have R6 := Lib.hid (R5.out.below (hb6.mono (by omega))); have X6 := Lib.hid (X5.out.later hb6); have K6 := Lib.hid (K5.out.below hb6 (by omega))))
    have hll : L.length ≤ 20 := hL
    have tok7 : True := trivial
    go_wp2_with (go_at_call 17; clear tok7; (with_reducible refine Calls.mono (eqSpellS_same A6 A3 _ _ _ _ _ L w6 Q6.out R6.out (by omega) (by omega) (by unfold maxLen; omega)) ?_); rintro ee w7 ⟨rfl, hb7⟩; have hB7 := bel_step hB6 hb7; have hW7 := bel_step hW6 hb7; have hs7 := hB7.size; have ht7 : w6.heap.size ≤ w7.heap.size := hb7.size; have R7 := Lib.hid (R6.out.below (hb7.mono (by omega))); have X7 := Lib.hid (X6.out.later hb7); have K7 := Lib.hid (K6.out.below hb7 (by omega)); have O7 := Lib.hid (O6.out.later hb7))
    have tok8 : True := trivial
    have tok9 : True := trivial
    go_wp2_with (first | (go_at_call 15; clear tok8; (with_reducible refine Calls.mono (HP.out _ hB7) ?_); rintro ee w8 ⟨A8, c8, rfl, hR8, hb8⟩; have Q8 := Lib.hid hR8; clear hR8; have hB8 := bel_step hB7 hb8; have hW8 := bel_step hW7 hb8; have hs8 := hB8.size; have ht8 : w7.heap.size ≤ w8.heap.size := hb8.size; have R8 := Lib.hid (R7.out.below (hb8.mono (by omega))); have X8 := Lib.hid (X7.out.later hb8); have K8 := Lib.hid (K7.out.below hb8 (by omega)); have O8 := Lib.hid (O7.out.later hb8)) | (go_at_call 17; clear tok9; (with_reducible refine Calls.mono (eqSpellS_same _ _ _ _ _ _ _ _ w8 X8.out Q8.out (Nat.le_refl _) (Nat.le_refl _) hmx) ?_); rintro ee w9 ⟨rfl, hb9⟩; have hB9 := bel_step hB8 hb9; have hW9 := bel_step hW8 hb9; have hs9 := hB9.size; have ht9 : w8.heap.size ≤ w9.heap.size := hb9.size; have R9 := Lib.hid (R8.out.below (hb9.mono (by omega))); have K9 := Lib.hid (K8.out.below hb9 (by omega)); have O9 := Lib.hid (O8.out.later hb9)))
    go_wp2_with (go_at_call 25; (with_reducible refine Calls.mono (markSpellS_any _ _ _ cs4 w9 K9.out Z4.out hn) ?_); rintro ee w10 ⟨rfl, hg10⟩; have ht10 := hg10.size; have hs10 : w.heap.size ≤ w10.heap.size := (by omega); have e1 : w3.heap.size ≤ w9.heap.size := (by omega); have R10 := Lib.hid (R9.out.grown hg10 e1 (some_le (Nat.le_refl _))); have O10 := Lib.hid (O9.out.far hg10 (by omega)); have hB10 := hB9.grown hg10 hs9 (some_le hs3); have hW10 := hW9.grown hg10 hW9.size (some_le hq3))
    have Q10 := Lib.hid O10.out.rd.2
    have tok11 : True := trivial
    go_wp2_with (go_at_call 17; clear tok11; (with_reducible refine Calls.mono (eqSpellS_same A6 A3 _ _ _ _ _ L w10 Q10.out R10.out (by omega) (by omega) (by unfold maxLen; omega)) ?_); rintro ee w11 ⟨rfl, hb11⟩; have hB11 := bel_step hB10 hb11; have hW11 := bel_step hW10 hb11; have hs11 := hB11.size; have ht11 : w10.heap.size ≤ w11.heap.size := hb11.size; have R11 := Lib.hid (R10.out.below (hb11.mono (by omega))); have O11 := Lib.hid (O10.out.later hb11))
    go_wp2_with (go_at_call 25; (with_reducible refine Calls.mono (markP1 w5.heap.size A6 L.length c6 L w11 O11.out (by omega)) ?_); rintro ee w12 ⟨rfl, ho, hg12⟩; have hrow := own_row O11.out; have ht12 := hg12.size; have hs12 : w.heap.size ≤ w12.heap.size := (by omega); have R12 := Lib.hid (R11.out.grown hg12 (by omega) (fun b' e => (by have := hrow b' e; omega))); have hB12 := hB11.grown hg12 hs11 (fun b' e => (by have := hrow b' e; omega)); have hW12 := hW11.grown hg12 hW11.size (fun b' e => (by have := hrow b' e; omega)); have M12 := Lib.hid ho.rd.2; clear ho hrow)
    go_wp2_with (go_at_call 42; (with_reducible refine Calls.mono (heldP1 _ _ _ _ w12 M12.out (by omega)) ?_); rintro ee w13 ⟨rfl, rfl⟩)
    have e0 := keepC hW12 c0
    have e1 := keepC hW12 c1
    have hx12 : w.heap.size < w12.heap.size := by have := hW12.size; omega
    go_wp2_with fail
    clear HPo d0 d1 c0 c1 hbx0
    go_region_held3 (fun W' => Below w12.heap.size w12 W' ∧ ∀ b o, b < w12.heap.size → W'.cell? ⟨b, o, none⟩ = w12.cell? ⟨b, o, none⟩) (first | exact bSx (Below.refl _ _).drew | exact bSx hb14 | exact bSx (bel_step hb14 hb15) | exact bSx (bel_step (bel_step hb14 hb15) hb16)) (first | (go_at_call 15; (with_reducible refine Calls.mono (HP.out _ hB12.drew) ?_); rintro ee w14 ⟨A14, c14, rfl, hR14, hb14⟩; have Q14 := Lib.hid hR14; clear hR14; have hb14 := bel_step (w := w12) (Below.refl _ _).drew hb14; have hB14 := bel_step hB12 hb14) | (go_at_call 40; (with_reducible refine Calls.mono (HT.out _) ?_); rintro ee w15 ⟨rfl, hb15⟩; have hB15 := bel_step hB14 hb15; have Q15 := Lib.hid (Q14.out.later hb15)) | (go_at_call 41; (with_reducible refine Calls.mono (HI.out _ _ _ Q15.out) ?_); rintro ee w16 ⟨A16, m16, c16, rfl, ho16, hb16⟩; have hB16 := bel_step hB15 hb16; have O16 := Lib.hid ho16; clear ho16))
    have hE := bel_step (bel_step hb14 hb15) hb16
    obtain ⟨rfl, hr16⟩ := O16.out.rd
    have Q16 := Lib.hid hr16
    have R16 := Lib.hid (R12.out.below (hE.mono (by omega)))
    have M16 := Lib.hid (M12.out.later hE)
    have hm16 := hE.size
    clear hr16
    have tok17 : True := trivial
    go_wp2_with (go_at_call 17; clear tok17; (with_reducible refine Calls.mono (eqSpellS_same A16 A3 _ _ _ _ _ L w16 Q16.out R16.out (by omega) (by omega) (by unfold maxLen; omega)) ?_); rintro ee w17 ⟨rfl, hb17⟩; have hB17 := bel_step hB16 hb17; have M17 := Lib.hid (M16.out.later hb17))
    go_wp2_with (go_at_call 42; (with_reducible refine Calls.mono (heldP1 _ _ _ _ w17 M17.out (by omega)) ?_); rintro ee w18 ⟨rfl, rfl⟩)
    go_returns
    exact ⟨rfl, hB17⟩
  · clear h
    go_enter Try.func11, Try.ntmps11
    go_wp2_with (go_at_call 13; (with_reducible refine Calls.mono (szSpell_big _ _ _ _ (by omega) hmx) ?_); rintro ee w0 ⟨rfl, rfl⟩)
    go_ret
    exact ⟨rfl, by go_grown⟩
end Go.Proofs.Ytldemcdocpdkfaa
