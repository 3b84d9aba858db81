/-
  The walk of a statement of chapter 15, CasesOf: the law returns true and turns nothing that was there. No condition.
-/
import Derived.Test.YtldemcdocpdkfaaO5
import Derived.Test.YtldemcdocpdkfaaL5
set_option linter.unusedSimpArgs false
set_option linter.unusedVariables false
namespace Go.Proofs.Ytldemcdocpdkfaa
open Go.ChangeShapes Go.WideShapes Go.ChangeAt Go.RowKit Go.Deep
theorem some_le {a B : Nat} (h : B ≤ a) : ∀ g, some a = some g → B ≤ g := fun g e => by cases e; exact h
theorem OwI.far {w w' : World} {base g : Nat} {v : Value} {zs : List Int} (h : OwI w base v zs) (hg : w.grownBy w' (some g)) (hb : g < base) : OwI w' base v zs := by
  refine World.ownsRow.kept h hg ?_
  rcases h.form with ⟨h1, _⟩ | ⟨g', cap, h1, h2, _⟩
  · exact .inl (by rw [h1]; rfl)
  · refine .inr ?_
    rw [h1]
    intro e
    simp only [Value.ownBlock, Option.some.injEq] at e
    omega
set_option maxHeartbeats 4000000 in
theorem fnExactCasesOf_walk (A : Option Addr) (n c : Nat) (xs : List (Int × Int)) (w : World) (h : RdP w w.heap.size A n xs) (hmx : n ≤ maxLen) : Calls Try.prog 6 #[.slice A n c] w fun e' w' => e' = .returned (.bool true) ∧ Below w.heap.size w w' := by
  by_cases hn : n ≤ 1048576
  · have P0 := Lib.hid h
    have HS := fun W A' c' hR => sCas_any A' n c' xs W hR hn
    have HI := fun W A' c' hR => iCas_any A' n c' xs W hR hn
    have hL : (casL xs).length ≤ 1048576 := by
      unfold casL
      split
      · have h1 := casF_len xs xs.length
        have h2 := h.len
        omega
      · simp
    generalize casL xs = L at *
    generalize casC xs = kc at *
    have HS := Lib.hid HS
    have HI := Lib.hid HI
    clear h
    have hB0 : Below w.heap.size w w := Below.refl _ _
    have hs0 : w.heap.size ≤ w.heap.size := Nat.le_refl _
    go_enter Try.func6, Try.ntmps6
    go_wp2_with (go_at_call 13; (with_reducible refine (szSpell_ok _ _ _ _ hn).mono ?_); rintro ee w0 ⟨rfl, rfl⟩)
    have tok1 : True := trivial
    go_wp2_with (go_at_call 15; clear tok1; (with_reducible refine (toSpellS_any _ _ _ _ _ _ P0.out (Nat.le_refl _) hn).mono ?_); rintro ee w1 ⟨A1, c1, rfl, hR1, hb1⟩; have Q1 := Lib.hid hR1; clear hR1; have hB1 := hb1; have hs1 := hB1.size; have P1 := Lib.hid (P0.out.below hb1))
    go_wp2_with (go_at_call 22; (with_reducible refine (HS.out _ _ _ Q1.out).mono ?_); rintro ee w2 ⟨A2, n2, c2, rfl, ho, hb2⟩; obtain ⟨rfl, hr⟩ := ho.rd; have R2 := Lib.hid hr; clear hr ho; obtain ⟨hc2, hf2⟩ := bcell hb2; have hB2 := bel_step hB1 hb2; have hs2 := hB2.size; have ht2 : w1.heap.size ≤ w2.heap.size := hb2.size; have P2 := Lib.hid (P1.out.below (hb2.mono hs1)))
    have tok3 : True := trivial
    go_wp2_with (go_at_call 15; clear tok3; (with_reducible refine (toSpellS_own _ _ _ _ _ _ P2.out hs2 hn).mono ?_); rintro ee w3 ⟨rfl, hr, ⟨cs3, hk3, hz3⟩, hb3⟩; have X3 := Lib.hid hr; have K3 := Lib.hid hk3; have hl3 := hk3.lt; have Z3 := Lib.hid hz3; clear hr hk3 hz3; obtain ⟨hc3, hf3⟩ := bcell hb3; have hB3 := bel_step hB2 hb3; have hs3 := hB3.size; have ht3 : w2.heap.size ≤ w3.heap.size := hb3.size; have P3 := Lib.hid (P2.out.below (hb3.mono hs2)); have R3 := Lib.hid (R2.out.below (hb3.mono (by omega))))
    go_wp2_with (go_at_call 23; (with_reducible refine (HI.out _ _ _ X3.out).mono ?_); rintro ee w4 ⟨A4, n4, c4, rfl, ho, hb4⟩; obtain ⟨rfl, hr⟩ := ho.rd; have Q4 := Lib.hid hr; have O4 := Lib.hid ho; clear hr ho; obtain ⟨hc4, hf4⟩ := bcell hb4; have hB4 := bel_step hB3 hb4; have hs4 := hB4.size; have ht4 : w3.heap.size ≤ w4.heap.size := hb4.size; have P4 := Lib.hid (P3.out.below (hb4.mono hs3)); have R4 := Lib.hid (R3.out.below (hb4.mono (by omega))); have X4 := Lib.hid (X3.out.later hb4); have K4 := Lib.hid (K3.out.below hb4 (by omega)))
    have tok5 : True := trivial
    go_wp2_with (go_at_call 24; clear tok5; (with_reducible refine (eqInts_same A4 A2 _ _ _ _ _ _ w4 Q4.out R4.out (by unfold maxLen; omega)).mono ?_); rintro ee w5 ⟨rfl, hb5⟩; obtain ⟨hc5, hf5⟩ := bcell hb5; have hB5 := bel_step hB4 hb5; have hs5 := hB5.size; have ht5 : w4.heap.size ≤ w5.heap.size := hb5.size; have P5 := Lib.hid (P4.out.below (hb5.mono hs4)); have R5 := Lib.hid (R4.out.below (hb5.mono (by omega))); have X5 := Lib.hid (X4.out.later hb5); have K5 := Lib.hid (K4.out.below hb5 (by omega)); have O5 := Lib.hid (O4.out.later hb5))
    have tok6 : True := trivial
    go_wp2_with (go_at_call 15; clear tok6; (with_reducible refine (toSpellS_any _ _ _ _ _ _ P5.out hs5 hn).mono ?_); rintro ee w6 ⟨A6, c6, rfl, hR6, hb6⟩; have Q6 := Lib.hid hR6; clear hR6; obtain ⟨hc6, hf6⟩ := bcell hb6; have hB6 := bel_step hB5 hb6; have hs6 := hB6.size; have ht6 : w5.heap.size ≤ w6.heap.size := hb6.size; have P6 := Lib.hid (P5.out.below (hb6.mono hs5)); have R6 := Lib.hid (R5.out.below (hb6.mono (by omega))); have X6 := Lib.hid (X5.out.later hb6); have K6 := Lib.hid (K5.out.below hb6 (by omega)); have O6 := Lib.hid (O5.out.later hb6))
    go_wp2_with (go_at_call 17; (with_reducible refine (eqSpellS_same _ _ _ _ _ _ _ _ _ X6.out Q6.out (Nat.le_refl _) (Nat.le_refl _) hmx).mono ?_); rintro ee w7 ⟨rfl, hb7⟩; obtain ⟨hc7, hf7⟩ := bcell hb7; have hB7 := bel_step hB6 hb7; have hs7 := hB7.size; have ht7 : w6.heap.size ≤ w7.heap.size := hb7.size; have P7 := Lib.hid (P6.out.below (hb7.mono hs6)); have R7 := Lib.hid (R6.out.below (hb7.mono (by omega))); have K7 := Lib.hid (K6.out.below hb7 (by omega)); have O7 := Lib.hid (O6.out.later hb7))
    go_wp2_with (go_at_call 25; (with_reducible refine (markSpellS_any _ _ _ cs3 w7 K7.out Z3.out hn).mono ?_); rintro ee w8 ⟨rfl, hg8⟩; have ht8 := hg8.size; have hs8 : w.heap.size ≤ w8.heap.size := (by omega); have e1 : w2.heap.size ≤ w7.heap.size := (by omega); have P8 := Lib.hid (P7.out.grown hg8 hs7 (some_le hs2)); have R8 := Lib.hid (R7.out.grown hg8 e1 (some_le (Nat.le_refl _))); have O8 := Lib.hid (O7.out.far hg8 hl3); have hB8 := hB7.grown hg8 hs7 (some_le hs2))
    have Q8 := Lib.hid O8.out.rd.2
    have tok9 : True := trivial
    go_wp2_with (go_at_call 24; clear tok9; (with_reducible refine (eqInts_same A4 A2 _ _ _ _ _ _ w8 Q8.out R8.out (by unfold maxLen; omega)).mono ?_); rintro ee w9 ⟨rfl, hb9⟩; obtain ⟨hc9, hf9⟩ := bcell hb9; have hB9 := bel_step hB8 hb9; have hs9 := hB9.size; have ht9 : w8.heap.size ≤ w9.heap.size := hb9.size; have P9 := Lib.hid (P8.out.below (hb9.mono hs8)); have R9 := Lib.hid (R8.out.below (hb9.mono (by omega))); have O9 := Lib.hid (O8.out.later hb9))
    go_wp2_with (go_at_call 26; (with_reducible refine (mark1 _ _ _ _ w9 O9.out (by omega)).mono ?_); rintro ee w10 ⟨rfl, ho, hg10⟩; have hold := grownOwn_cell O9.out hg10 (Nat.le_refl _) (by omega); have R10 := Lib.hid (R9.out.keep (fun p hp => hold p (by omega))); have P10 := Lib.hid (P9.out.keep (fun p hp => hold p (by omega))); have hB10 := grownOwn_below hB9 O9.out hg10 (by omega) (by omega); have ht10 := hg10.size; have hs10 : w.heap.size ≤ w10.heap.size := (by omega); have Q10 := Lib.hid ho.marked; clear ho hold hg10)
    go_wp2_with (go_at_call 27; (with_reducible refine (held1 _ _ _ _ w10 Q10.out (by omega)).mono ?_); rintro ee w11 ⟨rfl, rfl⟩)
    have tok12 : True := trivial
    go_wp2_with (go_at_call 15; clear tok12; (with_reducible refine (toSpellS_any _ _ _ _ _ _ P10.out hs10 hn).mono ?_); rintro ee w12 ⟨A12, c12, rfl, hR12, hb12⟩; have Q12 := Lib.hid hR12; clear hR12; obtain ⟨hc12, hf12⟩ := bcell hb12; have hB12 := bel_step hB10 hb12; have hs12 := hB12.size; have ht12 : w10.heap.size ≤ w12.heap.size := hb12.size; have P12 := Lib.hid (P10.out.below (hb12.mono hs10)); have R12 := Lib.hid (R10.out.below (hb12.mono (by omega))); have M12 := Lib.hid (Q10.out.later hb12))
    go_wp2_with (go_at_call 23; (with_reducible refine (HI.out _ _ _ Q12.out).mono ?_); rintro ee w13 ⟨A13, n13, c13, rfl, ho, hb13⟩; obtain ⟨rfl, hr⟩ := ho.rd; have Q13 := Lib.hid hr; clear hr ho; obtain ⟨hc13, hf13⟩ := bcell hb13; have hB13 := bel_step hB12 hb13; have hs13 := hB13.size; have ht13 : w12.heap.size ≤ w13.heap.size := hb13.size; have P13 := Lib.hid (P12.out.below (hb13.mono hs12)); have R13 := Lib.hid (R12.out.below (hb13.mono (by omega))); have M13 := Lib.hid (M12.out.later hb13))
    go_wp2_with (go_at_call 24; (with_reducible refine (eqInts_same A13 A2 _ _ _ _ _ _ w13 Q13.out R13.out (by unfold maxLen; omega)).mono ?_); rintro ee w14 ⟨rfl, hb14⟩; obtain ⟨hc14, hf14⟩ := bcell hb14; have hB14 := bel_step hB13 hb14; have hs14 := hB14.size; have ht14 : w13.heap.size ≤ w14.heap.size := hb14.size; have P14 := Lib.hid (P13.out.below (hb14.mono hs13)); have M14 := Lib.hid (M13.out.later hb14))
    go_wp2_with (go_at_call 27; (with_reducible refine (held1 _ _ _ _ w14 M14.out (by omega)).mono ?_); rintro ee w15 ⟨rfl, rfl⟩)
    go_returns
    exact ⟨rfl, hB14⟩
  · clear h
    go_enter Try.func6, Try.ntmps6
    go_wp2_with (go_at_call 13; (with_reducible refine (szSpell_big _ _ _ _ (by omega) hmx).mono ?_); rintro ee w0 ⟨rfl, rfl⟩)
    go_ret
    exact ⟨rfl, Below.refl _ _⟩
end Go.Proofs.Ytldemcdocpdkfaa
