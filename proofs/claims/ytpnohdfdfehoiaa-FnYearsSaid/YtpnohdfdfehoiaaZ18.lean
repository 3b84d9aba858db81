/-
  Contracts of the functions of chapter 18, second part: the year that follows, joined years, the comparison of two years.
-/
import Derived.Test.YtpnohdfdfehoiaaY18
set_option linter.unusedSimpArgs false
set_option linter.unusedVariables false
namespace Go.Proofs.Ytpnohdfdfehoiaa
open Go.RowKit

set_option maxHeartbeats 1000000 in
theorem result_yes (a b c d e f g : Int) (w : World) (h : okY a b c d e f g = true) : Calls Try.prog 17 #[.agg #[.int .i64 a, .int .i64 b, .int .i64 c, .int .i64 d, .int .i64 e, .int .i64 f, .int .i64 g]] w fun ee w' => ee = .returned (.tuple #[.agg #[.int .i64 a, .int .i64 b, .int .i64 c, .int .i64 d, .int .i64 e, .int .i64 f, .int .i64 g], .int .i64 (0)]) ∧ Below w.heap.size w w' := by
  have H1 := fun W => sIsYear_any a b c d e f g W; rw [h] at H1; have H1 := Lib.hid H1
  clear h
  go_enter Try.func17, Try.ntmps17
  go_wp2_with (go_at_call 16; (with_reducible refine (H1.out _).mono ?_); rintro ee w1 ⟨rfl, hb1⟩; obtain ⟨hc1, hf1⟩ := bcell hb1; have hB1 := bel_step (w := w) (by go_grown) hb1; have hz1 := hb1.size; (try simp at hz1); (try have hy1 : w.heap.size < w1.heap.size := by omega); (try have hx1 : w.heap.size + 1 < w1.heap.size := by omega); (try have hv1 : w.heap.size + 1 + 1 < w1.heap.size := by omega))
  (try simp only [Exit.inBlock, Exit.then]); refine bodyPost_ret (v := .tuple #[.agg #[.int .i64 a, .int .i64 b, .int .i64 c, .int .i64 d, .int .i64 e, .int .i64 f, .int .i64 g], .int .i64 (0)]) (by simp [results, Try.results17, go_sem, *]) rfl ⟨rfl, by go_grown⟩
set_option maxHeartbeats 1000000 in
theorem result_no (a b c d e f g : Int) (w : World) (h : okY a b c d e f g = false) : Calls Try.prog 17 #[.agg #[.int .i64 a, .int .i64 b, .int .i64 c, .int .i64 d, .int .i64 e, .int .i64 f, .int .i64 g]] w fun ee w' => ee = .returned (.tuple #[.agg #[.int .i64 0, .int .i64 0, .int .i64 0, .int .i64 0, .int .i64 0, .int .i64 0, .int .i64 0], .int .i64 (3)]) ∧ Below w.heap.size w w' := by
  have H1 := fun W => sIsYear_any a b c d e f g W; rw [h] at H1; have H1 := Lib.hid H1
  clear h
  go_enter Try.func17, Try.ntmps17
  go_wp2_with (go_at_call 16; (with_reducible refine (H1.out _).mono ?_); rintro ee w1 ⟨rfl, hb1⟩; obtain ⟨hc1, hf1⟩ := bcell hb1; have hB1 := bel_step (w := w) (by go_grown) hb1; have hz1 := hb1.size; (try simp at hz1); (try have hy1 : w.heap.size < w1.heap.size := by omega); (try have hx1 : w.heap.size + 1 < w1.heap.size := by omega); (try have hv1 : w.heap.size + 1 + 1 < w1.heap.size := by omega))
  (try simp only [Exit.inBlock, Exit.then]); refine bodyPost_ret (v := .tuple #[.agg #[.int .i64 0, .int .i64 0, .int .i64 0, .int .i64 0, .int .i64 0, .int .i64 0, .int .i64 0], .int .i64 (3)]) (by simp [results, Try.results17, go_sem, *]) rfl ⟨rfl, by go_grown⟩
set_option maxHeartbeats 1000000 in
theorem iFoll_yes (a b c d e f g : Int) (n l : Int) (w : World) (h : okY a b c d e f g = true) (h2 : okY (a + b + c - d + e - f) n l 0 0 0 0 = true) : Calls Try.prog 9 #[.agg #[.int .i64 a, .int .i64 b, .int .i64 c, .int .i64 d, .int .i64 e, .int .i64 f, .int .i64 g], .int .i64 n, .int .i64 l] w fun ee w' => ee = .returned (.tuple #[.agg #[.int .i64 (a + b + c - d + e - f), .int .i64 n, .int .i64 l, .int .i64 0, .int .i64 0, .int .i64 0, .int .i64 0], .int .i64 (0)]) ∧ Below w.heap.size w w' := by
  have H1 := fun W => iIsYear_any a b c d e f g W; rw [h] at H1; have H1 := Lib.hid H1
  have H2 := Lib.hid (fun W => iEnd_any a b c d e f g W h)
  have H3 := fun W => iIsYear_any (a + b + c - d + e - f) n l 0 0 0 0 W; rw [h2] at H3; have H3 := Lib.hid H3
  clear h h2
  go_enter Try.func9, Try.ntmps9
  go_wp2_with (go_at_call 12; (with_reducible refine (H1.out _).mono ?_); rintro ee w1 ⟨rfl, hb1⟩; obtain ⟨hc1, hf1⟩ := bcell hb1; have hB1 := bel_step (w := w) (by go_grown) hb1; have hz1 := hb1.size; (try simp at hz1); (try have hy1 : w.heap.size < w1.heap.size := by omega); (try have hx1 : w.heap.size + 1 < w1.heap.size := by omega); (try have hv1 : w.heap.size + 1 + 1 < w1.heap.size := by omega))
  go_wp2_with (first | (go_at_call 20; (with_reducible refine (H2.out _).mono ?_); rintro ee w2 ⟨rfl, hb2⟩; obtain ⟨hc2, hf2⟩ := bcell hb2; have hB2 := bel_step (w := w) (by go_grown) hb2; have hz2 := hb2.size; (try simp at hz2); (try have hy2 : w.heap.size < w2.heap.size := by omega); (try have hx2 : w.heap.size + 1 < w2.heap.size := by omega); (try have hv2 : w.heap.size + 1 + 1 < w2.heap.size := by omega)) | (go_at_call 12; (with_reducible refine (H3.out _).mono ?_); rintro ee w3 ⟨rfl, hb3⟩; obtain ⟨hc3, hf3⟩ := bcell hb3; have hB3 := bel_step (w := w) (by go_grown) hb3; have hz3 := hb3.size; (try simp at hz3); (try have hy3 : w.heap.size < w3.heap.size := by omega); (try have hx3 : w.heap.size + 1 < w3.heap.size := by omega); (try have hv3 : w.heap.size + 1 + 1 < w3.heap.size := by omega)))
  (try simp only [Exit.inBlock, Exit.then]); refine bodyPost_ret (v := .tuple #[.agg #[.int .i64 (a + b + c - d + e - f), .int .i64 n, .int .i64 l, .int .i64 0, .int .i64 0, .int .i64 0, .int .i64 0], .int .i64 (0)]) (by simp [results, Try.results9, go_sem, *]) rfl ⟨rfl, by go_grown⟩
set_option maxHeartbeats 1000000 in
theorem iFoll_lim (a b c d e f g : Int) (n l : Int) (w : World) (h : okY a b c d e f g = true) (h2 : okY (a + b + c - d + e - f) n l 0 0 0 0 = false) : Calls Try.prog 9 #[.agg #[.int .i64 a, .int .i64 b, .int .i64 c, .int .i64 d, .int .i64 e, .int .i64 f, .int .i64 g], .int .i64 n, .int .i64 l] w fun ee w' => ee = .returned (.tuple #[.agg #[.int .i64 0, .int .i64 0, .int .i64 0, .int .i64 0, .int .i64 0, .int .i64 0, .int .i64 0], .int .i64 (3)]) ∧ Below w.heap.size w w' := by
  have H1 := fun W => iIsYear_any a b c d e f g W; rw [h] at H1; have H1 := Lib.hid H1
  have H2 := Lib.hid (fun W => iEnd_any a b c d e f g W h)
  have H3 := fun W => iIsYear_any (a + b + c - d + e - f) n l 0 0 0 0 W; rw [h2] at H3; have H3 := Lib.hid H3
  clear h h2
  go_enter Try.func9, Try.ntmps9
  go_wp2_with (go_at_call 12; (with_reducible refine (H1.out _).mono ?_); rintro ee w1 ⟨rfl, hb1⟩; obtain ⟨hc1, hf1⟩ := bcell hb1; have hB1 := bel_step (w := w) (by go_grown) hb1; have hz1 := hb1.size; (try simp at hz1); (try have hy1 : w.heap.size < w1.heap.size := by omega); (try have hx1 : w.heap.size + 1 < w1.heap.size := by omega); (try have hv1 : w.heap.size + 1 + 1 < w1.heap.size := by omega))
  go_wp2_with (first | (go_at_call 20; (with_reducible refine (H2.out _).mono ?_); rintro ee w2 ⟨rfl, hb2⟩; obtain ⟨hc2, hf2⟩ := bcell hb2; have hB2 := bel_step (w := w) (by go_grown) hb2; have hz2 := hb2.size; (try simp at hz2); (try have hy2 : w.heap.size < w2.heap.size := by omega); (try have hx2 : w.heap.size + 1 < w2.heap.size := by omega); (try have hv2 : w.heap.size + 1 + 1 < w2.heap.size := by omega)) | (go_at_call 12; (with_reducible refine (H3.out _).mono ?_); rintro ee w3 ⟨rfl, hb3⟩; obtain ⟨hc3, hf3⟩ := bcell hb3; have hB3 := bel_step (w := w) (by go_grown) hb3; have hz3 := hb3.size; (try simp at hz3); (try have hy3 : w.heap.size < w3.heap.size := by omega); (try have hx3 : w.heap.size + 1 < w3.heap.size := by omega); (try have hv3 : w.heap.size + 1 + 1 < w3.heap.size := by omega)))
  (try simp only [Exit.inBlock, Exit.then]); refine bodyPost_ret (v := .tuple #[.agg #[.int .i64 0, .int .i64 0, .int .i64 0, .int .i64 0, .int .i64 0, .int .i64 0, .int .i64 0], .int .i64 (3)]) (by simp [results, Try.results9, go_sem, *]) rfl ⟨rfl, by go_grown⟩
set_option maxHeartbeats 1000000 in
theorem iFoll_no (a b c d e f g : Int) (n l : Int) (w : World) (h : okY a b c d e f g = false) : Calls Try.prog 9 #[.agg #[.int .i64 a, .int .i64 b, .int .i64 c, .int .i64 d, .int .i64 e, .int .i64 f, .int .i64 g], .int .i64 n, .int .i64 l] w fun ee w' => ee = .returned (.tuple #[.agg #[.int .i64 0, .int .i64 0, .int .i64 0, .int .i64 0, .int .i64 0, .int .i64 0, .int .i64 0], .int .i64 (1)]) ∧ Below w.heap.size w w' := by
  have H1 := fun W => iIsYear_any a b c d e f g W; rw [h] at H1; have H1 := Lib.hid H1
  clear h
  go_enter Try.func9, Try.ntmps9
  go_wp2_with (go_at_call 12; (with_reducible refine (H1.out _).mono ?_); rintro ee w1 ⟨rfl, hb1⟩; obtain ⟨hc1, hf1⟩ := bcell hb1; have hB1 := bel_step (w := w) (by go_grown) hb1; have hz1 := hb1.size; (try simp at hz1); (try have hy1 : w.heap.size < w1.heap.size := by omega); (try have hx1 : w.heap.size + 1 < w1.heap.size := by omega); (try have hv1 : w.heap.size + 1 + 1 < w1.heap.size := by omega))
  (try simp only [Exit.inBlock, Exit.then]); refine bodyPost_ret (v := .tuple #[.agg #[.int .i64 0, .int .i64 0, .int .i64 0, .int .i64 0, .int .i64 0, .int .i64 0, .int .i64 0], .int .i64 (1)]) (by simp [results, Try.results9, go_sem, *]) rfl ⟨rfl, by go_grown⟩
set_option maxHeartbeats 1000000 in
theorem sFoll_yes (a b c d e f g : Int) (n l : Int) (w : World) (h : okY a b c d e f g = true) (h2 : okY (a + b + c - d + e - f) n l 0 0 0 0 = true) : Calls Try.prog 10 #[.agg #[.int .i64 a, .int .i64 b, .int .i64 c, .int .i64 d, .int .i64 e, .int .i64 f, .int .i64 g], .int .i64 n, .int .i64 l] w fun ee w' => ee = .returned (.tuple #[.agg #[.int .i64 (a + b + c - d + e - f), .int .i64 n, .int .i64 l, .int .i64 0, .int .i64 0, .int .i64 0, .int .i64 0], .int .i64 (0)]) ∧ Below w.heap.size w w' := by
  have H1 := fun W => sIsYear_any a b c d e f g W; rw [h] at H1; have H1 := Lib.hid H1
  have H2 := Lib.hid (fun W => sEnd_any a b c d e f g W h)
  have H3 := Lib.hid (fun W => result_yes (a + b + c - d + e - f) n l 0 0 0 0 W h2)
  clear h h2
  go_enter Try.func10, Try.ntmps10
  go_wp2_with (first | (go_at_call 16; (with_reducible refine (H1.out _).mono ?_); rintro ee w1 ⟨rfl, hb1⟩; obtain ⟨hc1, hf1⟩ := bcell hb1; have hB1 := bel_step (w := w) (by go_grown) hb1; have hz1 := hb1.size; (try simp at hz1); (try have hy1 : w.heap.size < w1.heap.size := by omega); (try have hx1 : w.heap.size + 1 < w1.heap.size := by omega); (try have hv1 : w.heap.size + 1 + 1 < w1.heap.size := by omega)) | (go_at_call 21; (with_reducible refine (H2.out _).mono ?_); rintro ee w2 ⟨rfl, hb2⟩; obtain ⟨hc2, hf2⟩ := bcell hb2; have hB2 := bel_step (w := w) (by go_grown) hb2; have hz2 := hb2.size; (try simp at hz2); (try have hy2 : w.heap.size < w2.heap.size := by omega); (try have hx2 : w.heap.size + 1 < w2.heap.size := by omega); (try have hv2 : w.heap.size + 1 + 1 < w2.heap.size := by omega)) | (go_at_call 17; (with_reducible refine (H3.out _).mono ?_); rintro ee w3 ⟨rfl, hb3⟩; obtain ⟨hc3, hf3⟩ := bcell hb3; have hB3 := bel_step (w := w) (by go_grown) hb3; have hz3 := hb3.size; (try simp at hz3); (try have hy3 : w.heap.size < w3.heap.size := by omega); (try have hx3 : w.heap.size + 1 < w3.heap.size := by omega); (try have hv3 : w.heap.size + 1 + 1 < w3.heap.size := by omega)))
  (try simp only [Exit.inBlock, Exit.then]); refine bodyPost_ret (v := .tuple #[.agg #[.int .i64 (a + b + c - d + e - f), .int .i64 n, .int .i64 l, .int .i64 0, .int .i64 0, .int .i64 0, .int .i64 0], .int .i64 (0)]) (by simp [results, Try.results10, go_sem, *]) rfl ⟨rfl, by go_grown⟩
set_option maxHeartbeats 1000000 in
theorem sFoll_lim (a b c d e f g : Int) (n l : Int) (w : World) (h : okY a b c d e f g = true) (h2 : okY (a + b + c - d + e - f) n l 0 0 0 0 = false) : Calls Try.prog 10 #[.agg #[.int .i64 a, .int .i64 b, .int .i64 c, .int .i64 d, .int .i64 e, .int .i64 f, .int .i64 g], .int .i64 n, .int .i64 l] w fun ee w' => ee = .returned (.tuple #[.agg #[.int .i64 0, .int .i64 0, .int .i64 0, .int .i64 0, .int .i64 0, .int .i64 0, .int .i64 0], .int .i64 (3)]) ∧ Below w.heap.size w w' := by
  have H1 := fun W => sIsYear_any a b c d e f g W; rw [h] at H1; have H1 := Lib.hid H1
  have H2 := Lib.hid (fun W => sEnd_any a b c d e f g W h)
  have H3 := Lib.hid (fun W => result_no (a + b + c - d + e - f) n l 0 0 0 0 W h2)
  clear h h2
  go_enter Try.func10, Try.ntmps10
  go_wp2_with (first | (go_at_call 16; (with_reducible refine (H1.out _).mono ?_); rintro ee w1 ⟨rfl, hb1⟩; obtain ⟨hc1, hf1⟩ := bcell hb1; have hB1 := bel_step (w := w) (by go_grown) hb1; have hz1 := hb1.size; (try simp at hz1); (try have hy1 : w.heap.size < w1.heap.size := by omega); (try have hx1 : w.heap.size + 1 < w1.heap.size := by omega); (try have hv1 : w.heap.size + 1 + 1 < w1.heap.size := by omega)) | (go_at_call 21; (with_reducible refine (H2.out _).mono ?_); rintro ee w2 ⟨rfl, hb2⟩; obtain ⟨hc2, hf2⟩ := bcell hb2; have hB2 := bel_step (w := w) (by go_grown) hb2; have hz2 := hb2.size; (try simp at hz2); (try have hy2 : w.heap.size < w2.heap.size := by omega); (try have hx2 : w.heap.size + 1 < w2.heap.size := by omega); (try have hv2 : w.heap.size + 1 + 1 < w2.heap.size := by omega)) | (go_at_call 17; (with_reducible refine (H3.out _).mono ?_); rintro ee w3 ⟨rfl, hb3⟩; obtain ⟨hc3, hf3⟩ := bcell hb3; have hB3 := bel_step (w := w) (by go_grown) hb3; have hz3 := hb3.size; (try simp at hz3); (try have hy3 : w.heap.size < w3.heap.size := by omega); (try have hx3 : w.heap.size + 1 < w3.heap.size := by omega); (try have hv3 : w.heap.size + 1 + 1 < w3.heap.size := by omega)))
  (try simp only [Exit.inBlock, Exit.then]); refine bodyPost_ret (v := .tuple #[.agg #[.int .i64 0, .int .i64 0, .int .i64 0, .int .i64 0, .int .i64 0, .int .i64 0, .int .i64 0], .int .i64 (3)]) (by simp [results, Try.results10, go_sem, *]) rfl ⟨rfl, by go_grown⟩
set_option maxHeartbeats 1000000 in
theorem sFoll_no (a b c d e f g : Int) (n l : Int) (w : World) (h : okY a b c d e f g = false) : Calls Try.prog 10 #[.agg #[.int .i64 a, .int .i64 b, .int .i64 c, .int .i64 d, .int .i64 e, .int .i64 f, .int .i64 g], .int .i64 n, .int .i64 l] w fun ee w' => ee = .returned (.tuple #[.agg #[.int .i64 0, .int .i64 0, .int .i64 0, .int .i64 0, .int .i64 0, .int .i64 0, .int .i64 0], .int .i64 (1)]) ∧ Below w.heap.size w w' := by
  have H1 := fun W => sIsYear_any a b c d e f g W; rw [h] at H1; have H1 := Lib.hid H1
  clear h
  go_enter Try.func10, Try.ntmps10
  go_wp2_with (go_at_call 16; (with_reducible refine (H1.out _).mono ?_); rintro ee w1 ⟨rfl, hb1⟩; obtain ⟨hc1, hf1⟩ := bcell hb1; have hB1 := bel_step (w := w) (by go_grown) hb1; have hz1 := hb1.size; (try simp at hz1); (try have hy1 : w.heap.size < w1.heap.size := by omega); (try have hx1 : w.heap.size + 1 < w1.heap.size := by omega); (try have hv1 : w.heap.size + 1 + 1 < w1.heap.size := by omega))
  (try simp only [Exit.inBlock, Exit.then]); refine bodyPost_ret (v := .tuple #[.agg #[.int .i64 0, .int .i64 0, .int .i64 0, .int .i64 0, .int .i64 0, .int .i64 0, .int .i64 0], .int .i64 (1)]) (by simp [results, Try.results10, go_sem, *]) rfl ⟨rfl, by go_grown⟩
set_option maxHeartbeats 1000000 in
theorem iJoin_no (a b c d e f g a' b' c' d' e' f' g' : Int) (w : World) (h : okY a b c d e f g = false) : Calls Try.prog 6 #[.agg #[.int .i64 a, .int .i64 b, .int .i64 c, .int .i64 d, .int .i64 e, .int .i64 f, .int .i64 g], .agg #[.int .i64 a', .int .i64 b', .int .i64 c', .int .i64 d', .int .i64 e', .int .i64 f', .int .i64 g']] w fun ee w' => ee = .returned (.tuple #[.agg #[.int .i64 0, .int .i64 0, .int .i64 0, .int .i64 0, .int .i64 0, .int .i64 0, .int .i64 0], .int .i64 (1)]) ∧ Below w.heap.size w w' := by
  have H1 := fun W => iIsYear_any a b c d e f g W; rw [h] at H1; have H1 := Lib.hid H1
  clear h
  go_enter Try.func6, Try.ntmps6
  go_wp2_with (go_at_call 12; (with_reducible refine (H1.out _).mono ?_); rintro ee w1 ⟨rfl, hb1⟩; obtain ⟨hc1, hf1⟩ := bcell hb1; have hB1 := bel_step (w := w) (by go_grown) hb1; have hz1 := hb1.size; (try simp at hz1); (try have hy1 : w.heap.size < w1.heap.size := by omega); (try have hx1 : w.heap.size + 1 < w1.heap.size := by omega); (try have hv1 : w.heap.size + 1 + 1 < w1.heap.size := by omega))
  (try simp only [Exit.inBlock, Exit.then]); refine bodyPost_ret (v := .tuple #[.agg #[.int .i64 0, .int .i64 0, .int .i64 0, .int .i64 0, .int .i64 0, .int .i64 0, .int .i64 0], .int .i64 (1)]) (by simp [results, Try.results6, go_sem, *]) rfl ⟨rfl, by go_grown⟩
set_option maxHeartbeats 1000000 in
theorem iJoin_no2 (a b c d e f g a' b' c' d' e' f' g' : Int) (w : World) (h : okY a b c d e f g = true) (h' : okY a' b' c' d' e' f' g' = false) : Calls Try.prog 6 #[.agg #[.int .i64 a, .int .i64 b, .int .i64 c, .int .i64 d, .int .i64 e, .int .i64 f, .int .i64 g], .agg #[.int .i64 a', .int .i64 b', .int .i64 c', .int .i64 d', .int .i64 e', .int .i64 f', .int .i64 g']] w fun ee w' => ee = .returned (.tuple #[.agg #[.int .i64 0, .int .i64 0, .int .i64 0, .int .i64 0, .int .i64 0, .int .i64 0, .int .i64 0], .int .i64 (1)]) ∧ Below w.heap.size w w' := by
  have H1 := fun W => iIsYear_any a b c d e f g W; rw [h] at H1; have H1 := Lib.hid H1
  have H2 := fun W => iIsYear_any a' b' c' d' e' f' g' W; rw [h'] at H2; have H2 := Lib.hid H2
  clear h h'
  go_enter Try.func6, Try.ntmps6
  go_wp2_with (first | (go_at_call 12; (with_reducible refine (H1.out _).mono ?_); rintro ee w1 ⟨rfl, hb1⟩; obtain ⟨hc1, hf1⟩ := bcell hb1; have hB1 := bel_step (w := w) (by go_grown) hb1; have hz1 := hb1.size; (try simp at hz1); (try have hy1 : w.heap.size < w1.heap.size := by omega); (try have hx1 : w.heap.size + 1 < w1.heap.size := by omega); (try have hv1 : w.heap.size + 1 + 1 < w1.heap.size := by omega)) | (go_at_call 12; (with_reducible refine (H2.out _).mono ?_); rintro ee w2 ⟨rfl, hb2⟩; obtain ⟨hc2, hf2⟩ := bcell hb2; have hB2 := bel_step (w := w) (by go_grown) hb2; have hz2 := hb2.size; (try simp at hz2); (try have hy2 : w.heap.size < w2.heap.size := by omega); (try have hx2 : w.heap.size + 1 < w2.heap.size := by omega); (try have hv2 : w.heap.size + 1 + 1 < w2.heap.size := by omega)))
  (try simp only [Exit.inBlock, Exit.then]); refine bodyPost_ret (v := .tuple #[.agg #[.int .i64 0, .int .i64 0, .int .i64 0, .int .i64 0, .int .i64 0, .int .i64 0, .int .i64 0], .int .i64 (1)]) (by simp [results, Try.results6, go_sem, *]) rfl ⟨rfl, by go_grown⟩
set_option maxHeartbeats 1000000 in
theorem sJoin_no (a b c d e f g a' b' c' d' e' f' g' : Int) (w : World) (h : okY a b c d e f g = false) : Calls Try.prog 7 #[.agg #[.int .i64 a, .int .i64 b, .int .i64 c, .int .i64 d, .int .i64 e, .int .i64 f, .int .i64 g], .agg #[.int .i64 a', .int .i64 b', .int .i64 c', .int .i64 d', .int .i64 e', .int .i64 f', .int .i64 g']] w fun ee w' => ee = .returned (.tuple #[.agg #[.int .i64 0, .int .i64 0, .int .i64 0, .int .i64 0, .int .i64 0, .int .i64 0, .int .i64 0], .int .i64 (1)]) ∧ Below w.heap.size w w' := by
  have H1 := fun W => sIsYear_any a b c d e f g W; rw [h] at H1; have H1 := Lib.hid H1
  clear h
  go_enter Try.func7, Try.ntmps7
  go_wp2_with (go_at_call 16; (with_reducible refine (H1.out _).mono ?_); rintro ee w1 ⟨rfl, hb1⟩; obtain ⟨hc1, hf1⟩ := bcell hb1; have hB1 := bel_step (w := w) (by go_grown) hb1; have hz1 := hb1.size; (try simp at hz1); (try have hy1 : w.heap.size < w1.heap.size := by omega); (try have hx1 : w.heap.size + 1 < w1.heap.size := by omega); (try have hv1 : w.heap.size + 1 + 1 < w1.heap.size := by omega))
  (try simp only [Exit.inBlock, Exit.then]); refine bodyPost_ret (v := .tuple #[.agg #[.int .i64 0, .int .i64 0, .int .i64 0, .int .i64 0, .int .i64 0, .int .i64 0, .int .i64 0], .int .i64 (1)]) (by simp [results, Try.results7, go_sem, *]) rfl ⟨rfl, by go_grown⟩
set_option maxHeartbeats 1000000 in
theorem sJoin_no2 (a b c d e f g a' b' c' d' e' f' g' : Int) (w : World) (h : okY a b c d e f g = true) (h' : okY a' b' c' d' e' f' g' = false) : Calls Try.prog 7 #[.agg #[.int .i64 a, .int .i64 b, .int .i64 c, .int .i64 d, .int .i64 e, .int .i64 f, .int .i64 g], .agg #[.int .i64 a', .int .i64 b', .int .i64 c', .int .i64 d', .int .i64 e', .int .i64 f', .int .i64 g']] w fun ee w' => ee = .returned (.tuple #[.agg #[.int .i64 0, .int .i64 0, .int .i64 0, .int .i64 0, .int .i64 0, .int .i64 0, .int .i64 0], .int .i64 (1)]) ∧ Below w.heap.size w w' := by
  have H1 := fun W => sIsYear_any a b c d e f g W; rw [h] at H1; have H1 := Lib.hid H1
  have H2 := fun W => sIsYear_any a' b' c' d' e' f' g' W; rw [h'] at H2; have H2 := Lib.hid H2
  clear h h'
  go_enter Try.func7, Try.ntmps7
  go_wp2_with (first | (go_at_call 16; (with_reducible refine (H1.out _).mono ?_); rintro ee w1 ⟨rfl, hb1⟩; obtain ⟨hc1, hf1⟩ := bcell hb1; have hB1 := bel_step (w := w) (by go_grown) hb1; have hz1 := hb1.size; (try simp at hz1); (try have hy1 : w.heap.size < w1.heap.size := by omega); (try have hx1 : w.heap.size + 1 < w1.heap.size := by omega); (try have hv1 : w.heap.size + 1 + 1 < w1.heap.size := by omega)) | (go_at_call 16; (with_reducible refine (H2.out _).mono ?_); rintro ee w2 ⟨rfl, hb2⟩; obtain ⟨hc2, hf2⟩ := bcell hb2; have hB2 := bel_step (w := w) (by go_grown) hb2; have hz2 := hb2.size; (try simp at hz2); (try have hy2 : w.heap.size < w2.heap.size := by omega); (try have hx2 : w.heap.size + 1 < w2.heap.size := by omega); (try have hv2 : w.heap.size + 1 + 1 < w2.heap.size := by omega)))
  (try simp only [Exit.inBlock, Exit.then]); refine bodyPost_ret (v := .tuple #[.agg #[.int .i64 0, .int .i64 0, .int .i64 0, .int .i64 0, .int .i64 0, .int .i64 0, .int .i64 0], .int .i64 (1)]) (by simp [results, Try.results7, go_sem, *]) rfl ⟨rfl, by go_grown⟩
set_option maxHeartbeats 2000000 in
theorem iJoin_lim (a b c d e f g a' b' c' d' e' f' g' : Int) (w : World) (h : okY a b c d e f g = true) (h' : okY a' b' c' d' e' f' g' = true) (h3 : okY (a + a') (b + b') (c + c') (d + d') (e + e') (f + f') (g + g') = false) : Calls Try.prog 6 #[.agg #[.int .i64 a, .int .i64 b, .int .i64 c, .int .i64 d, .int .i64 e, .int .i64 f, .int .i64 g], .agg #[.int .i64 a', .int .i64 b', .int .i64 c', .int .i64 d', .int .i64 e', .int .i64 f', .int .i64 g']] w fun ee w' => ee = .returned (.tuple #[.agg #[.int .i64 0, .int .i64 0, .int .i64 0, .int .i64 0, .int .i64 0, .int .i64 0, .int .i64 0], .int .i64 (3)]) ∧ Below w.heap.size w w' := by
  have H1 := fun W => iIsYear_any a b c d e f g W; rw [h] at H1; have H1 := Lib.hid H1
  have H2 := fun W => iIsYear_any a' b' c' d' e' f' g' W; rw [h'] at H2; have H2 := Lib.hid H2
  have H3 := fun W => iIsYear_any (a + a') (b + b') (c + c') (d + d') (e + e') (f + f') (g + g') W; rw [h3] at H3; have H3 := Lib.hid H3
  obtain ⟨ka, kb, kc, kd, ke, kf, kg⟩ := okY_bd h
  obtain ⟨ka', kb', kc', kd', ke', kf', kg'⟩ := okY_bd h'
  clear h h' h3
  go_enter Try.func6, Try.ntmps6
  go_wp2_with (first | (go_at_call 12; (with_reducible refine (H1.out _).mono ?_); rintro ee w1 ⟨rfl, hb1⟩; obtain ⟨hc1, hf1⟩ := bcell hb1; have hB1 := bel_step (w := w) (by go_grown) hb1; have hz1 := hb1.size; (try simp at hz1); (try have hy1 : w.heap.size < w1.heap.size := by omega); (try have hx1 : w.heap.size + 1 < w1.heap.size := by omega); (try have hv1 : w.heap.size + 1 + 1 < w1.heap.size := by omega)) | (go_at_call 12; (with_reducible refine (H2.out _).mono ?_); rintro ee w2 ⟨rfl, hb2⟩; obtain ⟨hc2, hf2⟩ := bcell hb2; have hB2 := bel_step (w := w) (by go_grown) hb2; have hz2 := hb2.size; (try simp at hz2); (try have hy2 : w.heap.size < w2.heap.size := by omega); (try have hx2 : w.heap.size + 1 < w2.heap.size := by omega); (try have hv2 : w.heap.size + 1 + 1 < w2.heap.size := by omega)) | (go_at_call 12; (with_reducible refine (H3.out _).mono ?_); rintro ee w3 ⟨rfl, hb3⟩; obtain ⟨hc3, hf3⟩ := bcell hb3; have hB3 := bel_step (w := w) (by go_grown) hb3; have hz3 := hb3.size; (try simp at hz3); (try have hy3 : w.heap.size < w3.heap.size := by omega); (try have hx3 : w.heap.size + 1 < w3.heap.size := by omega); (try have hv3 : w.heap.size + 1 + 1 < w3.heap.size := by omega)))
  (try simp only [Exit.inBlock, Exit.then]); refine bodyPost_ret (v := .tuple #[.agg #[.int .i64 0, .int .i64 0, .int .i64 0, .int .i64 0, .int .i64 0, .int .i64 0, .int .i64 0], .int .i64 (3)]) (by simp [results, Try.results6, go_sem, *]) rfl ⟨rfl, by go_grown⟩
set_option maxHeartbeats 2000000 in
theorem iJoin_yes (a b c d e f g a' b' c' d' e' f' g' : Int) (w : World) (h : okY a b c d e f g = true) (h' : okY a' b' c' d' e' f' g' = true) (h3 : okY (a + a') (b + b') (c + c') (d + d') (e + e') (f + f') (g + g') = true) : Calls Try.prog 6 #[.agg #[.int .i64 a, .int .i64 b, .int .i64 c, .int .i64 d, .int .i64 e, .int .i64 f, .int .i64 g], .agg #[.int .i64 a', .int .i64 b', .int .i64 c', .int .i64 d', .int .i64 e', .int .i64 f', .int .i64 g']] w fun ee w' => ee = .returned (.tuple #[.agg #[.int .i64 (a + a'), .int .i64 (b + b'), .int .i64 (c + c'), .int .i64 (d + d'), .int .i64 (e + e'), .int .i64 (f + f'), .int .i64 (g + g')], .int .i64 (0)]) ∧ Below w.heap.size w w' := by
  have H1 := fun W => iIsYear_any a b c d e f g W; rw [h] at H1; have H1 := Lib.hid H1
  have H2 := fun W => iIsYear_any a' b' c' d' e' f' g' W; rw [h'] at H2; have H2 := Lib.hid H2
  have H3 := fun W => iIsYear_any (a + a') (b + b') (c + c') (d + d') (e + e') (f + f') (g + g') W; rw [h3] at H3; have H3 := Lib.hid H3
  obtain ⟨ka, kb, kc, kd, ke, kf, kg⟩ := okY_bd h
  obtain ⟨ka', kb', kc', kd', ke', kf', kg'⟩ := okY_bd h'
  clear h h' h3
  go_enter Try.func6, Try.ntmps6
  go_wp2_with (first | (go_at_call 12; (with_reducible refine (H1.out _).mono ?_); rintro ee w1 ⟨rfl, hb1⟩; obtain ⟨hc1, hf1⟩ := bcell hb1; have hB1 := bel_step (w := w) (by go_grown) hb1; have hz1 := hb1.size; (try simp at hz1); (try have hy1 : w.heap.size < w1.heap.size := by omega); (try have hx1 : w.heap.size + 1 < w1.heap.size := by omega); (try have hv1 : w.heap.size + 1 + 1 < w1.heap.size := by omega)) | (go_at_call 12; (with_reducible refine (H2.out _).mono ?_); rintro ee w2 ⟨rfl, hb2⟩; obtain ⟨hc2, hf2⟩ := bcell hb2; have hB2 := bel_step (w := w) (by go_grown) hb2; have hz2 := hb2.size; (try simp at hz2); (try have hy2 : w.heap.size < w2.heap.size := by omega); (try have hx2 : w.heap.size + 1 < w2.heap.size := by omega); (try have hv2 : w.heap.size + 1 + 1 < w2.heap.size := by omega)) | (go_at_call 12; (with_reducible refine (H3.out _).mono ?_); rintro ee w3 ⟨rfl, hb3⟩; obtain ⟨hc3, hf3⟩ := bcell hb3; have hB3 := bel_step (w := w) (by go_grown) hb3; have hz3 := hb3.size; (try simp at hz3); (try have hy3 : w.heap.size < w3.heap.size := by omega); (try have hx3 : w.heap.size + 1 < w3.heap.size := by omega); (try have hv3 : w.heap.size + 1 + 1 < w3.heap.size := by omega)))
  (try simp only [Exit.inBlock, Exit.then]); refine bodyPost_ret (v := .tuple #[.agg #[.int .i64 (a + a'), .int .i64 (b + b'), .int .i64 (c + c'), .int .i64 (d + d'), .int .i64 (e + e'), .int .i64 (f + f'), .int .i64 (g + g')], .int .i64 (0)]) (by simp [results, Try.results6, go_sem, *]) rfl ⟨rfl, by go_grown⟩
set_option maxHeartbeats 2000000 in
theorem sJoin_lim (a b c d e f g a' b' c' d' e' f' g' : Int) (w : World) (h : okY a b c d e f g = true) (h' : okY a' b' c' d' e' f' g' = true) (h3 : okY (a + a') (b + b') (c + c') (d + d') (e + e') (f + f') (g + g') = false) : Calls Try.prog 7 #[.agg #[.int .i64 a, .int .i64 b, .int .i64 c, .int .i64 d, .int .i64 e, .int .i64 f, .int .i64 g], .agg #[.int .i64 a', .int .i64 b', .int .i64 c', .int .i64 d', .int .i64 e', .int .i64 f', .int .i64 g']] w fun ee w' => ee = .returned (.tuple #[.agg #[.int .i64 0, .int .i64 0, .int .i64 0, .int .i64 0, .int .i64 0, .int .i64 0, .int .i64 0], .int .i64 (3)]) ∧ Below w.heap.size w w' := by
  have H1 := fun W => sIsYear_any a b c d e f g W; rw [h] at H1; have H1 := Lib.hid H1
  have H2 := fun W => sIsYear_any a' b' c' d' e' f' g' W; rw [h'] at H2; have H2 := Lib.hid H2
  have H3 := Lib.hid (fun W => result_no (a + a') (b + b') (c + c') (d + d') (e + e') (f + f') (g + g') W h3)
  obtain ⟨ka, kb, kc, kd, ke, kf, kg⟩ := okY_bd h
  obtain ⟨ka', kb', kc', kd', ke', kf', kg'⟩ := okY_bd h'
  clear h h' h3
  go_enter Try.func7, Try.ntmps7
  go_wp2_with (first | (go_at_call 16; (with_reducible refine (H1.out _).mono ?_); rintro ee w1 ⟨rfl, hb1⟩; obtain ⟨hc1, hf1⟩ := bcell hb1; have hB1 := bel_step (w := w) (by go_grown) hb1; have hz1 := hb1.size; (try simp at hz1); (try have hy1 : w.heap.size < w1.heap.size := by omega); (try have hx1 : w.heap.size + 1 < w1.heap.size := by omega); (try have hv1 : w.heap.size + 1 + 1 < w1.heap.size := by omega)) | (go_at_call 16; (with_reducible refine (H2.out _).mono ?_); rintro ee w2 ⟨rfl, hb2⟩; obtain ⟨hc2, hf2⟩ := bcell hb2; have hB2 := bel_step (w := w) (by go_grown) hb2; have hz2 := hb2.size; (try simp at hz2); (try have hy2 : w.heap.size < w2.heap.size := by omega); (try have hx2 : w.heap.size + 1 < w2.heap.size := by omega); (try have hv2 : w.heap.size + 1 + 1 < w2.heap.size := by omega)) | (go_at_call 17; (with_reducible refine (H3.out _).mono ?_); rintro ee w3 ⟨rfl, hb3⟩; obtain ⟨hc3, hf3⟩ := bcell hb3; have hB3 := bel_step (w := w) (by go_grown) hb3; have hz3 := hb3.size; (try simp at hz3); (try have hy3 : w.heap.size < w3.heap.size := by omega); (try have hx3 : w.heap.size + 1 < w3.heap.size := by omega); (try have hv3 : w.heap.size + 1 + 1 < w3.heap.size := by omega)))
  (try simp only [Exit.inBlock, Exit.then]); refine bodyPost_ret (v := .tuple #[.agg #[.int .i64 0, .int .i64 0, .int .i64 0, .int .i64 0, .int .i64 0, .int .i64 0, .int .i64 0], .int .i64 (3)]) (by simp [results, Try.results7, go_sem, *]) rfl ⟨rfl, by go_grown⟩
set_option maxHeartbeats 2000000 in
theorem sJoin_yes (a b c d e f g a' b' c' d' e' f' g' : Int) (w : World) (h : okY a b c d e f g = true) (h' : okY a' b' c' d' e' f' g' = true) (h3 : okY (a + a') (b + b') (c + c') (d + d') (e + e') (f + f') (g + g') = true) : Calls Try.prog 7 #[.agg #[.int .i64 a, .int .i64 b, .int .i64 c, .int .i64 d, .int .i64 e, .int .i64 f, .int .i64 g], .agg #[.int .i64 a', .int .i64 b', .int .i64 c', .int .i64 d', .int .i64 e', .int .i64 f', .int .i64 g']] w fun ee w' => ee = .returned (.tuple #[.agg #[.int .i64 (a + a'), .int .i64 (b + b'), .int .i64 (c + c'), .int .i64 (d + d'), .int .i64 (e + e'), .int .i64 (f + f'), .int .i64 (g + g')], .int .i64 (0)]) ∧ Below w.heap.size w w' := by
  have H1 := fun W => sIsYear_any a b c d e f g W; rw [h] at H1; have H1 := Lib.hid H1
  have H2 := fun W => sIsYear_any a' b' c' d' e' f' g' W; rw [h'] at H2; have H2 := Lib.hid H2
  have H3 := Lib.hid (fun W => result_yes (a + a') (b + b') (c + c') (d + d') (e + e') (f + f') (g + g') W h3)
  obtain ⟨ka, kb, kc, kd, ke, kf, kg⟩ := okY_bd h
  obtain ⟨ka', kb', kc', kd', ke', kf', kg'⟩ := okY_bd h'
  clear h h' h3
  go_enter Try.func7, Try.ntmps7
  go_wp2_with (first | (go_at_call 16; (with_reducible refine (H1.out _).mono ?_); rintro ee w1 ⟨rfl, hb1⟩; obtain ⟨hc1, hf1⟩ := bcell hb1; have hB1 := bel_step (w := w) (by go_grown) hb1; have hz1 := hb1.size; (try simp at hz1); (try have hy1 : w.heap.size < w1.heap.size := by omega); (try have hx1 : w.heap.size + 1 < w1.heap.size := by omega); (try have hv1 : w.heap.size + 1 + 1 < w1.heap.size := by omega)) | (go_at_call 16; (with_reducible refine (H2.out _).mono ?_); rintro ee w2 ⟨rfl, hb2⟩; obtain ⟨hc2, hf2⟩ := bcell hb2; have hB2 := bel_step (w := w) (by go_grown) hb2; have hz2 := hb2.size; (try simp at hz2); (try have hy2 : w.heap.size < w2.heap.size := by omega); (try have hx2 : w.heap.size + 1 < w2.heap.size := by omega); (try have hv2 : w.heap.size + 1 + 1 < w2.heap.size := by omega)) | (go_at_call 17; (with_reducible refine (H3.out _).mono ?_); rintro ee w3 ⟨rfl, hb3⟩; obtain ⟨hc3, hf3⟩ := bcell hb3; have hB3 := bel_step (w := w) (by go_grown) hb3; have hz3 := hb3.size; (try simp at hz3); (try have hy3 : w.heap.size < w3.heap.size := by omega); (try have hx3 : w.heap.size + 1 < w3.heap.size := by omega); (try have hv3 : w.heap.size + 1 + 1 < w3.heap.size := by omega)))
  (try simp only [Exit.inBlock, Exit.then]); refine bodyPost_ret (v := .tuple #[.agg #[.int .i64 (a + a'), .int .i64 (b + b'), .int .i64 (c + c'), .int .i64 (d + d'), .int .i64 (e + e'), .int .i64 (f + f'), .int .i64 (g + g')], .int .i64 (0)]) (by simp [results, Try.results7, go_sem, *]) rfl ⟨rfl, by go_grown⟩
/-- the year that follows: whether there is one; its fund; the code -/
def folB (a b c d e f g : Int) (n l : Int) : Bool := okY a b c d e f g && okY (a + b + c - d + e - f) n l 0 0 0 0
def folC (a b c d e f g : Int) (n l : Int) : Int := if okY a b c d e f g = true then (if okY (a + b + c - d + e - f) n l 0 0 0 0 = true then 0 else 3) else 1
def iteI (b : Bool) (x : Int) : Int := if b = true then x else 0
theorem iteI_t (x : Int) : iteI true x = x := rfl
theorem iteI_f (x : Int) : iteI false x = 0 := rfl
def joinB (a b c d e f g a' b' c' d' e' f' g' : Int) : Bool := okY a b c d e f g && okY a' b' c' d' e' f' g' && okY (a + a') (b + b') (c + c') (d + d') (e + e') (f + f') (g + g')
def joinC (a b c d e f g a' b' c' d' e' f' g' : Int) : Int := if okY a b c d e f g = true then (if okY a' b' c' d' e' f' g' = true then (if okY (a + a') (b + b') (c + c') (d + d') (e + e') (f + f') (g + g') = true then 0 else 3) else 1) else 1
theorem iFoll_any (a b c d e f g : Int) (n l : Int) (w : World) : Calls Try.prog 9 #[.agg #[.int .i64 a, .int .i64 b, .int .i64 c, .int .i64 d, .int .i64 e, .int .i64 f, .int .i64 g], .int .i64 n, .int .i64 l] w fun ee w' => ee = .returned (.tuple #[.agg #[.int .i64 (iteI (folB a b c d e f g n l) (a + b + c - d + e - f)), .int .i64 (iteI (folB a b c d e f g n l) n), .int .i64 (iteI (folB a b c d e f g n l) l), .int .i64 0, .int .i64 0, .int .i64 0, .int .i64 0], .int .i64 (folC a b c d e f g n l)]) ∧ Below w.heap.size w w' := by
  unfold folB folC
  cases h : okY a b c d e f g with
  | false => exact iFoll_no a b c d e f g n l w h
  | true =>
    cases h2 : okY (a + b + c - d + e - f) n l 0 0 0 0 with
    | false => exact iFoll_lim a b c d e f g n l w h h2
    | true => exact iFoll_yes a b c d e f g n l w h h2
theorem iJoin_any (a b c d e f g a' b' c' d' e' f' g' : Int) (w : World) : Calls Try.prog 6 #[.agg #[.int .i64 a, .int .i64 b, .int .i64 c, .int .i64 d, .int .i64 e, .int .i64 f, .int .i64 g], .agg #[.int .i64 a', .int .i64 b', .int .i64 c', .int .i64 d', .int .i64 e', .int .i64 f', .int .i64 g']] w fun ee w' => ee = .returned (.tuple #[.agg #[.int .i64 (iteI (joinB a b c d e f g a' b' c' d' e' f' g') (a + a')), .int .i64 (iteI (joinB a b c d e f g a' b' c' d' e' f' g') (b + b')), .int .i64 (iteI (joinB a b c d e f g a' b' c' d' e' f' g') (c + c')), .int .i64 (iteI (joinB a b c d e f g a' b' c' d' e' f' g') (d + d')), .int .i64 (iteI (joinB a b c d e f g a' b' c' d' e' f' g') (e + e')), .int .i64 (iteI (joinB a b c d e f g a' b' c' d' e' f' g') (f + f')), .int .i64 (iteI (joinB a b c d e f g a' b' c' d' e' f' g') (g + g'))], .int .i64 (joinC a b c d e f g a' b' c' d' e' f' g')]) ∧ Below w.heap.size w w' := by
  unfold joinB joinC
  cases h : okY a b c d e f g with
  | false => exact iJoin_no a b c d e f g a' b' c' d' e' f' g' w h
  | true =>
    cases h2 : okY a' b' c' d' e' f' g' with
    | false => exact iJoin_no2 a b c d e f g a' b' c' d' e' f' g' w h h2
    | true =>
      cases h3 : okY (a + a') (b + b') (c + c') (d + d') (e + e') (f + f') (g + g') with
      | false => exact iJoin_lim a b c d e f g a' b' c' d' e' f' g' w h h2 h3
      | true => exact iJoin_yes a b c d e f g a' b' c' d' e' f' g' w h h2 h3
theorem sFoll_any (a b c d e f g : Int) (n l : Int) (w : World) : Calls Try.prog 10 #[.agg #[.int .i64 a, .int .i64 b, .int .i64 c, .int .i64 d, .int .i64 e, .int .i64 f, .int .i64 g], .int .i64 n, .int .i64 l] w fun ee w' => ee = .returned (.tuple #[.agg #[.int .i64 (iteI (folB a b c d e f g n l) (a + b + c - d + e - f)), .int .i64 (iteI (folB a b c d e f g n l) n), .int .i64 (iteI (folB a b c d e f g n l) l), .int .i64 0, .int .i64 0, .int .i64 0, .int .i64 0], .int .i64 (folC a b c d e f g n l)]) ∧ Below w.heap.size w w' := by
  unfold folB folC
  cases h : okY a b c d e f g with
  | false => exact sFoll_no a b c d e f g n l w h
  | true =>
    cases h2 : okY (a + b + c - d + e - f) n l 0 0 0 0 with
    | false => exact sFoll_lim a b c d e f g n l w h h2
    | true => exact sFoll_yes a b c d e f g n l w h h2
theorem sJoin_any (a b c d e f g a' b' c' d' e' f' g' : Int) (w : World) : Calls Try.prog 7 #[.agg #[.int .i64 a, .int .i64 b, .int .i64 c, .int .i64 d, .int .i64 e, .int .i64 f, .int .i64 g], .agg #[.int .i64 a', .int .i64 b', .int .i64 c', .int .i64 d', .int .i64 e', .int .i64 f', .int .i64 g']] w fun ee w' => ee = .returned (.tuple #[.agg #[.int .i64 (iteI (joinB a b c d e f g a' b' c' d' e' f' g') (a + a')), .int .i64 (iteI (joinB a b c d e f g a' b' c' d' e' f' g') (b + b')), .int .i64 (iteI (joinB a b c d e f g a' b' c' d' e' f' g') (c + c')), .int .i64 (iteI (joinB a b c d e f g a' b' c' d' e' f' g') (d + d')), .int .i64 (iteI (joinB a b c d e f g a' b' c' d' e' f' g') (e + e')), .int .i64 (iteI (joinB a b c d e f g a' b' c' d' e' f' g') (f + f')), .int .i64 (iteI (joinB a b c d e f g a' b' c' d' e' f' g') (g + g'))], .int .i64 (joinC a b c d e f g a' b' c' d' e' f' g')]) ∧ Below w.heap.size w w' := by
  unfold joinB joinC
  cases h : okY a b c d e f g with
  | false => exact sJoin_no a b c d e f g a' b' c' d' e' f' g' w h
  | true =>
    cases h2 : okY a' b' c' d' e' f' g' with
    | false => exact sJoin_no2 a b c d e f g a' b' c' d' e' f' g' w h h2
    | true =>
      cases h3 : okY (a + a') (b + b') (c + c') (d + d') (e + e') (f + f') (g + g') with
      | false => exact sJoin_lim a b c d e f g a' b' c' d' e' f' g' w h h2 h3
      | true => exact sJoin_yes a b c d e f g a' b' c' d' e' f' g' w h h2 h3
end Go.Proofs.Ytpnohdfdfehoiaa
