/-
  The walks of two statements of chapter 18, SourcesOf and WorstSource: the law returns true and turns nothing that was there. No condition.
-/
import Derived.Test.YthpjfaibpgjokaaT18
import Derived.Test.YthpjfaibpgjokaaL18
namespace Go.Proofs.Ythpjfaibpgjokaa
open Go.RowKit
set_option maxHeartbeats 1000000 in
theorem fnExactWorstSource_walk (a b c d e f g : Int) (r : Int) (w : World) : Calls Try.prog 8 #[.agg #[.int .i64 a, .int .i64 b, .int .i64 c, .int .i64 d, .int .i64 e, .int .i64 f, .int .i64 g], .int .i64 r] w fun e' w' => e' = .returned (.bool true) ∧ Below w.heap.size w w' := by
  have H1 := Lib.hid (fun W => toYear_any a b c d e f g W)
  have H2 := Lib.hid (fun W => sWorst_any a b c d e f g r W)
  have H3 := Lib.hid (fun W => iWorst_any a b c d e f g r W)
  go_enter Try.func8, Try.ntmps8
  go_wp2_with (go_at_call 13; (with_reducible refine (H1.out _).mono ?_); rintro ee w1 ⟨rfl, hb1⟩; obtain ⟨hc1, hf1⟩ := bcell hb1; have hB1 := bel_step (w := w) (by go_grown) hb1; have hz1 := hb1.size; (try simp at hz1); (try have hy1_0 : w.heap.size < w1.heap.size := by omega); (try have hy1_1 : w.heap.size + 1 < w1.heap.size := by omega); (try have hy1_2 : w.heap.size + 1 + 1 < w1.heap.size := by omega))
  go_wp2_with (go_at_call 24; (with_reducible refine (H2.out _).mono ?_); rintro ee w2 ⟨rfl, hb2⟩; obtain ⟨hc2, hf2⟩ := bcell hb2; have hB2 := bel_step (w := w) (by go_grown) hb2; have hz2 := hb2.size; (try simp at hz2); (try have hp2_1 : w1.heap.size < w2.heap.size := by omega); (try have hy2_0 : w.heap.size < w2.heap.size := by omega); (try have hy2_1 : w.heap.size + 1 < w2.heap.size := by omega); (try have hy2_2 : w.heap.size + 1 + 1 < w2.heap.size := by omega))
  go_wp2_with (go_at_call 13; (with_reducible refine (H1.out _).mono ?_); rintro ee w3 ⟨rfl, hb3⟩; obtain ⟨hc3, hf3⟩ := bcell hb3; have hB3 := bel_step (w := w) (by go_grown) hb3; have hz3 := hb3.size; (try simp at hz3); (try have hp3_1 : w1.heap.size < w3.heap.size := by omega); (try have hp3_2 : w2.heap.size < w3.heap.size := by omega); (try have hy3_0 : w.heap.size < w3.heap.size := by omega); (try have hy3_1 : w.heap.size + 1 < w3.heap.size := by omega); (try have hy3_2 : w.heap.size + 1 + 1 < w3.heap.size := by omega))
  go_wp2_with (go_at_call 25; (with_reducible refine (H3.out _).mono ?_); rintro ee w4 ⟨rfl, hb4⟩; obtain ⟨hc4, hf4⟩ := bcell hb4; have hB4 := bel_step (w := w) (by go_grown) hb4; have hz4 := hb4.size; (try simp at hz4); (try have hp4_1 : w1.heap.size < w4.heap.size := by omega); (try have hp4_2 : w2.heap.size < w4.heap.size := by omega); (try have hp4_3 : w3.heap.size < w4.heap.size := by omega); (try have hy4_0 : w.heap.size < w4.heap.size := by omega); (try have hy4_1 : w.heap.size + 1 < w4.heap.size := by omega); (try have hy4_2 : w.heap.size + 1 + 1 < w4.heap.size := by omega))
  go_returns
  exact ⟨rfl, by go_grown⟩
set_option maxHeartbeats 2000000 in
theorem fnExactSourcesOf_walk (a b c d e f g : Int) (r : Int) (w : World) : Calls Try.prog 10 #[.agg #[.int .i64 a, .int .i64 b, .int .i64 c, .int .i64 d, .int .i64 e, .int .i64 f, .int .i64 g], .int .i64 r] w fun e' w' => e' = .returned (.bool true) ∧ Below w.heap.size w w' := by
  have H1 := Lib.hid (fun W => toYear_any a b c d e f g W)
  have H2 := fun W => sSources_any a b c d e f g r W
  have H3 := fun W => iSources_any a b c d e f g r W
  have hL : (srcL a b c d e f g r).length ≤ 3 := by unfold srcL; split <;> simp
  generalize srcL a b c d e f g r = L at *
  generalize srcC a b c d e f g r = k at *
  have H2 := Lib.hid H2
  have H3 := Lib.hid H3
  go_enter Try.func10, Try.ntmps10
  go_wp2_with (go_at_call 13; (with_reducible refine (H1.out _).mono ?_); rintro ee w1 ⟨rfl, hb1⟩; obtain ⟨hc1, hf1⟩ := bcell hb1; have hB1 := bel_step (w := w) (by go_grown) hb1; have hz1 := hb1.size; (try simp at hz1); (try have hy1_0 : w.heap.size < w1.heap.size := by omega); (try have hy1_1 : w.heap.size + 1 < w1.heap.size := by omega); (try have hy1_2 : w.heap.size + 1 + 1 < w1.heap.size := by omega))
  go_wp2_with (go_at_call 28; (with_reducible refine (H2.out _).mono ?_); rintro ee w2 ⟨A2, n2, c2, rfl, ho, hb2⟩; obtain ⟨rfl, hr⟩ := ho.rd; have R2 := Lib.hid hr; clear hr ho; obtain ⟨hc2, hf2⟩ := bcell hb2; have hB2 := bel_step (w := w) (by go_grown) hb2; have hz2 := hb2.size; have hy2 : w.heap.size < w2.heap.size := by omega)
  go_wp2_with (go_at_call 13; (with_reducible refine (H1.out _).mono ?_); rintro ee w3 ⟨rfl, hb3⟩; have R3 := Lib.hid (R2.out.below hb3); obtain ⟨hc3, hf3⟩ := bcell hb3; have hB3 := bel_step (w := w) (by go_grown) hb3; have hz3 := hb3.size; have hy3 : w.heap.size < w3.heap.size := by omega)
  go_wp2_with (go_at_call 29; (with_reducible refine (H3.out _).mono ?_); rintro ee w4 ⟨A4, n4, c4, rfl, ho, hb4⟩; obtain ⟨rfl, hr⟩ := ho.rd; have Q4 := Lib.hid hr; have O4 := Lib.hid ho; have R4 := Lib.hid (R3.out.below (hb4.mono hz3)); clear hr ho; obtain ⟨hc4, hf4⟩ := bcell hb4; have hB4 := bel_step (w := w) (by go_grown) hb4; have hz4 := hb4.size; have hy4 : w.heap.size < w4.heap.size := by omega)
  go_wp2_with (go_at_call 30; (with_reducible refine (eqInts_same A4 A2 _ _ _ _ _ _ w4 Q4.out R4.out (by unfold maxLen; omega)).mono ?_); rintro ee w5 ⟨rfl, hb5⟩; have Q5 := Lib.hid (O4.out.later hb5); have R5 := Lib.hid (R4.out.below (hb5.mono (by omega))); obtain ⟨hc5, hf5⟩ := bcell hb5; have hB5 := bel_step (w := w) (by go_grown) hb5; have hz5 := hb5.size; have hy5 : w.heap.size < w5.heap.size := by omega)
  go_wp2_with (go_at_call 31; (with_reducible refine (mark1 _ _ _ _ w5 Q5.out (by omega)).mono ?_); rintro ee w6 ⟨rfl, ho, hg6⟩; have hold := grownOwn_cell Q5.out hg6 (Nat.le_refl _) (by omega); have R6 := Lib.hid (R5.out.keep (fun p hp => hold p (by omega))); have hB6 := grownOwn_below hB5 Q5.out hg6 (by omega) (by omega); have hz6 := hg6.size; have hc6 : ∀ b o, b < w3.heap.size → w6.cell? ⟨b, o, none⟩ = w5.cell? ⟨b, o, none⟩ := fun b o hb => hold _ hb; have Q6 := Lib.hid ho.marked; clear ho hold hg6; have hy6 : w.heap.size < w6.heap.size := by omega)
  go_wp2_with (go_at_call 32; (with_reducible refine (held1 _ _ _ _ w6 Q6.out (by omega)).mono ?_); rintro ee w7 ⟨rfl, rfl⟩)
  go_wp2_with (go_at_call 13; (with_reducible refine (H1.out _).mono ?_); rintro ee w8 ⟨rfl, hb8⟩; have R8 := Lib.hid (R6.out.below (hb8.mono (by omega))); have Q8 := Lib.hid (Q6.out.below hb8); obtain ⟨hc8, hf8⟩ := bcell hb8; have hB8 := bel_step (w := w) (by go_grown) hb8; have hz8 := hb8.size; have hy8 : w.heap.size < w8.heap.size := by omega)
  go_wp2_with (go_at_call 29; (with_reducible refine (H3.out _).mono ?_); rintro ee w9 ⟨A9, n9, c9, rfl, ho, hb9⟩; obtain ⟨rfl, hr⟩ := ho.rd; have O9 := Lib.hid hr; clear hr ho; have R9 := Lib.hid (R8.out.below (hb9.mono (by omega))); have Q9 := Lib.hid (Q8.out.below (hb9.mono (by omega))); obtain ⟨hc9, hf9⟩ := bcell hb9; have hB9 := bel_step (w := w) (by go_grown) hb9; have hz9 := hb9.size; have hy9 : w.heap.size < w9.heap.size := by omega)
  go_wp2_with (go_at_call 30; (with_reducible refine (eqInts_same A9 A2 _ _ _ _ _ _ w9 O9.out R9.out (by unfold maxLen; omega)).mono ?_); rintro ee w10 ⟨rfl, hb10⟩; have Q10 := Lib.hid (Q9.out.below (hb10.mono (by omega))); have hB10 := bel_step (w := w) (by go_grown) hb10)
  go_wp2_with (go_at_call 32; (with_reducible refine (held1 _ _ _ _ w10 Q10.out (by omega)).mono ?_); rintro ee w11 ⟨rfl, rfl⟩)
  go_returns
  exact ⟨rfl, by go_grown⟩
end Go.Proofs.Ythpjfaibpgjokaa
