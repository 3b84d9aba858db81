/-
  Contracts of the functions of chapter 18, third part: the sources of the surplus and the worst one.
-/
import Derived.Test.YthpjfaibpgjokaaZ18
import Derived.Test.YthpjfaibpgjokaaS
namespace Go.Proofs.Ythpjfaibpgjokaa
open Go.RowKit
set_option maxHeartbeats 400000 in
theorem isRate_any (r : Int) (w : World) : Calls Try.prog 45 #[.int .i64 r] w fun ee w' => ee = .returned (.bool (inR 0 200 r)) ∧ w = w' := by
  go_enter Try.func45, Try.ntmps45
  go_wp2_with (go_at_call 53; (with_reducible refine (inRange_any _ _ _ _).mono ?_); rintro ee w1 ⟨rfl, rfl⟩)
  go_ret
  exact ⟨rfl, rfl⟩
set_option maxHeartbeats 400000 in
theorem l04Rate_any (r : Int) (w : World) : Calls Try.prog 54 #[.int .i64 r] w fun ee w' => ee = .returned (.bool (inR 0 200 r)) ∧ w = w' := by
  go_enter Try.func54, Try.ntmps54
  go_wp2_with (go_at_call 50; (with_reducible refine (sIn_any _ _ _ _).mono ?_); rintro ee w1 ⟨rfl, rfl⟩)
  go_ret
  exact ⟨rfl, rfl⟩
def srcL (a b c d e f g : Int) (r : Int) : List Int := if okY a b c d e f g = true ∧ inR 0 200 r = true then [e - expI (a + b) r, c - d, a + b + expI (a + b) r - f - g] else []
def srcC (a b c d e f g : Int) (r : Int) : Int := if okY a b c d e f g = true then (if inR 0 200 r = true then 0 else 2) else 1
theorem own3 (w : World) (x y z : Int) (base : Nat) (h : base ≤ w.heap.size) : OwI (w.alloc (.cells #[.int .i64 x, .int .i64 y, .int .i64 z] 2)) base (.slice (some ⟨w.heap.size, 0, none⟩) 3 3) [x, y, z] :=
  World.ownsRow_lit (base := base) (e := 2) (size := 1) w #[.int .i64 x, .int .i64 y, .int .i64 z] 3 h (by unfold maxLen; omega) rfl
theorem ownNil (w : World) (base : Nat) : OwI w base (.slice none 0 0) [] := World.ownsRow_nil w base _ _
set_option maxHeartbeats 1000000 in
theorem iSources_yes (a b c d e f g : Int) (r : Int) (w : World) (h : okY a b c d e f g = true) (hr : inR 0 200 r = true) : Calls Try.prog 29 #[.agg #[.int .i64 a, .int .i64 b, .int .i64 c, .int .i64 d, .int .i64 e, .int .i64 f, .int .i64 g], .int .i64 r] w fun ee w' => ∃ A c', ee = .returned (.tuple #[.slice A 3 c', .int .i64 0]) ∧ OwI w' w.heap.size (.slice A 3 c') [e - expI (a + b) r, c - d, a + b + expI (a + b) r - f - g] ∧ Below w.heap.size w w' := by
  obtain ⟨ha, hb, hc, hd, he, hf, hg⟩ := okY_bd h
  have hr2 := inR_iff.1 hr
  have hE := expI_bd ha hb hr2
  have H1 := fun W => iIsYear_any a b c d e f g W; rw [h] at H1; have H1 := Lib.hid H1
  have H4 := fun W => isRate_any r W; rw [hr] at H4; have H4 := Lib.hid H4
  have H2 := Lib.hid (fun W => iExp_any a b c d e f g r W h hr2)
  clear h hr
  go_enter Try.func29, Try.ntmps29
  go_wp2_with (go_at_call 14; (with_reducible refine (H1.out _).mono ?_); rintro ee w1 ⟨rfl, hb1⟩; obtain ⟨hc1, hf1⟩ := bcell hb1; have hB1 := bel_step (w := w) (by go_grown) hb1; have hz1 := hb1.size; (try simp at hz1); (try have hy1_0 : w.heap.size < w1.heap.size := by omega); (try have hy1_1 : w.heap.size + 1 < w1.heap.size := by omega); (try have hy1_2 : w.heap.size + 1 + 1 < w1.heap.size := by omega))
  go_wp2_with (go_at_call 45; (with_reducible refine (H4.out _).mono ?_); rintro ee w2 ⟨rfl, rfl⟩)
  go_wp2_with (go_at_call 41; (with_reducible refine (H2.out _).mono ?_); rintro ee w3 ⟨rfl, hb3⟩; obtain ⟨hc3, hf3⟩ := bcell hb3; have hB3 := bel_step (w := w) (by go_grown) hb3; have hz3 := hb3.size; (try simp at hz3); (try have hp3_1 : w1.heap.size < w3.heap.size := by omega); (try have hp3_2 : w2.heap.size < w3.heap.size := by omega); (try have hy3_0 : w.heap.size < w3.heap.size := by omega); (try have hy3_1 : w.heap.size + 1 < w3.heap.size := by omega); (try have hy3_2 : w.heap.size + 1 + 1 < w3.heap.size := by omega))
  go_returns
  exact ⟨_, _, rfl, own3 _ _ _ _ _ (by have := hB3.size; omega), by go_grown⟩
set_option maxHeartbeats 1000000 in
theorem iSources_rate (a b c d e f g : Int) (r : Int) (w : World) (h : okY a b c d e f g = true) (hr : inR 0 200 r = false) : Calls Try.prog 29 #[.agg #[.int .i64 a, .int .i64 b, .int .i64 c, .int .i64 d, .int .i64 e, .int .i64 f, .int .i64 g], .int .i64 r] w fun ee w' => ee = .returned (.tuple #[.slice none 0 0, .int .i64 2]) ∧ Below w.heap.size w w' := by
  have H1 := fun W => iIsYear_any a b c d e f g W; rw [h] at H1; have H1 := Lib.hid H1
  have H4 := fun W => isRate_any r W; rw [hr] at H4; have H4 := Lib.hid H4
  clear h hr
  go_enter Try.func29, Try.ntmps29
  go_wp2_with (go_at_call 14; (with_reducible refine (H1.out _).mono ?_); rintro ee w1 ⟨rfl, hb1⟩; obtain ⟨hc1, hf1⟩ := bcell hb1; have hB1 := bel_step (w := w) (by go_grown) hb1; have hz1 := hb1.size; (try simp at hz1); (try have hy1_0 : w.heap.size < w1.heap.size := by omega); (try have hy1_1 : w.heap.size + 1 < w1.heap.size := by omega); (try have hy1_2 : w.heap.size + 1 + 1 < w1.heap.size := by omega))
  go_wp2_with (go_at_call 45; (with_reducible refine (H4.out _).mono ?_); rintro ee w2 ⟨rfl, rfl⟩)
  go_returns
  exact ⟨rfl, by go_grown⟩
set_option maxHeartbeats 1000000 in
theorem iSources_no (a b c d e f g : Int) (r : Int) (w : World) (h : okY a b c d e f g = false) : Calls Try.prog 29 #[.agg #[.int .i64 a, .int .i64 b, .int .i64 c, .int .i64 d, .int .i64 e, .int .i64 f, .int .i64 g], .int .i64 r] w fun ee w' => ee = .returned (.tuple #[.slice none 0 0, .int .i64 1]) ∧ Below w.heap.size w w' := by
  have H1 := fun W => iIsYear_any a b c d e f g W; rw [h] at H1; have H1 := Lib.hid H1
  clear h
  go_enter Try.func29, Try.ntmps29
  go_wp2_with (go_at_call 14; (with_reducible refine (H1.out _).mono ?_); rintro ee w1 ⟨rfl, hb1⟩; obtain ⟨hc1, hf1⟩ := bcell hb1; have hB1 := bel_step (w := w) (by go_grown) hb1; have hz1 := hb1.size; (try simp at hz1); (try have hy1_0 : w.heap.size < w1.heap.size := by omega); (try have hy1_1 : w.heap.size + 1 < w1.heap.size := by omega); (try have hy1_2 : w.heap.size + 1 + 1 < w1.heap.size := by omega))
  go_returns
  exact ⟨rfl, by go_grown⟩
set_option maxHeartbeats 1000000 in
theorem sSrcs_yes (a b c d e f g : Int) (r : Int) (w : World) (h : okY a b c d e f g = true) (hr : inR 0 200 r = true) : Calls Try.prog 44 #[.agg #[.int .i64 a, .int .i64 b, .int .i64 c, .int .i64 d, .int .i64 e, .int .i64 f, .int .i64 g], .int .i64 r] w fun ee w' => ∃ A c', ee = .returned (.slice A 3 c') ∧ OwI w' w.heap.size (.slice A 3 c') [e - expI (a + b) r, c - d, a + b + expI (a + b) r - f - g] ∧ Below w.heap.size w w' := by
  obtain ⟨ha, hb, hc, hd, he, hf, hg⟩ := okY_bd h
  have hr2 := inR_iff.1 hr
  have hE := expI_bd ha hb hr2
  have H2 := Lib.hid (fun W => sExp_any a b c d e f g r W h hr2)
  clear h hr
  go_enter Try.func44, Try.ntmps44
  go_wp2_with (go_at_call 40; (with_reducible refine (H2.out _).mono ?_); rintro ee w1 ⟨rfl, hb1⟩; obtain ⟨hc1, hf1⟩ := bcell hb1; have hB1 := bel_step (w := w) (by go_grown) hb1; have hz1 := hb1.size; (try simp at hz1); (try have hy1_0 : w.heap.size < w1.heap.size := by omega); (try have hy1_1 : w.heap.size + 1 < w1.heap.size := by omega); (try have hy1_2 : w.heap.size + 1 + 1 < w1.heap.size := by omega))
  go_returns
  exact ⟨_, _, rfl, own3 _ _ _ _ _ (by have := hB1.size; omega), by go_grown⟩
set_option maxHeartbeats 1000000 in
theorem sCode_any (a b c d e f g : Int) (r : Int) (w : World) : Calls Try.prog 43 #[.agg #[.int .i64 a, .int .i64 b, .int .i64 c, .int .i64 d, .int .i64 e, .int .i64 f, .int .i64 g], .int .i64 r] w fun ee w' => ee = .returned (.int .i64 (srcC a b c d e f g r)) ∧ Below w.heap.size w w' := by
  unfold srcC
  cases h : okY a b c d e f g with
  | false =>
    have H1 := fun W => sIsYear_any a b c d e f g W; rw [h] at H1; have H1 := Lib.hid H1
    clear h
    go_enter Try.func43, Try.ntmps43
    go_wp2_with (go_at_call 12; (with_reducible refine (H1.out _).mono ?_); rintro ee w1 ⟨rfl, hb1⟩; obtain ⟨hc1, hf1⟩ := bcell hb1; have hB1 := bel_step (w := w) (by go_grown) hb1; have hz1 := hb1.size; (try simp at hz1); (try have hy1_0 : w.heap.size < w1.heap.size := by omega); (try have hy1_1 : w.heap.size + 1 < w1.heap.size := by omega); (try have hy1_2 : w.heap.size + 1 + 1 < w1.heap.size := by omega))
    go_returns
    exact ⟨rfl, by go_grown⟩
  | true =>
    cases hr : inR 0 200 r with
    | false =>
      have H1 := fun W => sIsYear_any a b c d e f g W; rw [h] at H1; have H1 := Lib.hid H1
      have H4 := fun W => l04Rate_any r W; rw [hr] at H4; have H4 := Lib.hid H4
      clear h hr
      go_enter Try.func43, Try.ntmps43
      go_wp2_with (go_at_call 12; (with_reducible refine (H1.out _).mono ?_); rintro ee w2 ⟨rfl, hb2⟩; obtain ⟨hc2, hf2⟩ := bcell hb2; have hB2 := bel_step (w := w) (by go_grown) hb2; have hz2 := hb2.size; (try simp at hz2); (try have hp2_1 : w1.heap.size < w2.heap.size := by omega); (try have hy2_0 : w.heap.size < w2.heap.size := by omega); (try have hy2_1 : w.heap.size + 1 < w2.heap.size := by omega); (try have hy2_2 : w.heap.size + 1 + 1 < w2.heap.size := by omega))
      go_wp2_with (go_at_call 54; (with_reducible refine (H4.out _).mono ?_); rintro ee w3 ⟨rfl, rfl⟩)
      go_returns
      exact ⟨rfl, by go_grown⟩
    | true =>
      have H1 := fun W => sIsYear_any a b c d e f g W; rw [h] at H1; have H1 := Lib.hid H1
      have H4 := fun W => l04Rate_any r W; rw [hr] at H4; have H4 := Lib.hid H4
      clear h hr
      go_enter Try.func43, Try.ntmps43
      go_wp2_with (go_at_call 12; (with_reducible refine (H1.out _).mono ?_); rintro ee w4 ⟨rfl, hb4⟩; obtain ⟨hc4, hf4⟩ := bcell hb4; have hB4 := bel_step (w := w) (by go_grown) hb4; have hz4 := hb4.size; (try simp at hz4); (try have hp4_1 : w1.heap.size < w4.heap.size := by omega); (try have hp4_2 : w2.heap.size < w4.heap.size := by omega); (try have hp4_3 : w3.heap.size < w4.heap.size := by omega); (try have hy4_0 : w.heap.size < w4.heap.size := by omega); (try have hy4_1 : w.heap.size + 1 < w4.heap.size := by omega); (try have hy4_2 : w.heap.size + 1 + 1 < w4.heap.size := by omega))
      go_wp2_with (go_at_call 54; (with_reducible refine (H4.out _).mono ?_); rintro ee w5 ⟨rfl, rfl⟩)
      go_returns
      exact ⟨rfl, by go_grown⟩
theorem srcC_yes {a b c d e f g r : Int} (h : okY a b c d e f g = true) (hr : inR 0 200 r = true) : srcC a b c d e f g r = 0 := by unfold srcC; rw [if_pos h, if_pos hr]
theorem srcC_no {a b c d e f g r : Int} (h : ¬ (okY a b c d e f g = true ∧ inR 0 200 r = true)) : srcC a b c d e f g r = 1 ∨ srcC a b c d e f g r = 2 := by
  unfold srcC
  by_cases h1 : okY a b c d e f g = true
  · rw [if_pos h1, if_neg (fun h2 => h ⟨h1, h2⟩)]; exact .inr rfl
  · rw [if_neg h1]; exact .inl rfl
set_option maxHeartbeats 1000000 in
theorem sSources_yes (a b c d e f g : Int) (r : Int) (w : World) (h : okY a b c d e f g = true) (hr : inR 0 200 r = true) : Calls Try.prog 28 #[.agg #[.int .i64 a, .int .i64 b, .int .i64 c, .int .i64 d, .int .i64 e, .int .i64 f, .int .i64 g], .int .i64 r] w fun ee w' => ∃ A c', ee = .returned (.tuple #[.slice A 3 c', .int .i64 0]) ∧ OwI w' w.heap.size (.slice A 3 c') [e - expI (a + b) r, c - d, a + b + expI (a + b) r - f - g] ∧ Below w.heap.size w w' := by
  have H1 := fun W => sCode_any a b c d e f g r W
  rw [srcC_yes h hr] at H1
  have H1 := Lib.hid H1
  have H2 := Lib.hid (fun W => sSrcs_yes a b c d e f g r W h hr)
  clear h hr
  go_enter Try.func28, Try.ntmps28
  go_wp2_with (go_at_call 43; (with_reducible refine (H1.out _).mono ?_); rintro ee w1 ⟨rfl, hb1⟩; obtain ⟨hc1, hf1⟩ := bcell hb1; have hB1 := bel_step (w := w) (by go_grown) hb1; have hz1 := hb1.size; (try simp at hz1); (try have hy1_0 : w.heap.size < w1.heap.size := by omega); (try have hy1_1 : w.heap.size + 1 < w1.heap.size := by omega); (try have hy1_2 : w.heap.size + 1 + 1 < w1.heap.size := by omega))
  go_wp2_with (go_at_call 44; (with_reducible refine (H2.out _).mono ?_); rintro ee w2 ⟨A, c', rfl, ho, hb2⟩; have HO := Lib.hid ho; clear ho; have hB2 := bel_step (w := w) (by go_grown) hb2)
  go_returns
  exact ⟨_, _, rfl, HO.out.mono hB1.size, by go_grown⟩
set_option maxHeartbeats 1000000 in
theorem sSources_no (a b c d e f g : Int) (r k : Int) (w : World) (h : srcC a b c d e f g r = k) (hk : k = 1 ∨ k = 2) : Calls Try.prog 28 #[.agg #[.int .i64 a, .int .i64 b, .int .i64 c, .int .i64 d, .int .i64 e, .int .i64 f, .int .i64 g], .int .i64 r] w fun ee w' => ee = .returned (.tuple #[.slice none 0 0, .int .i64 k]) ∧ Below w.heap.size w w' := by
  have H1 := fun W => sCode_any a b c d e f g r W
  rw [h] at H1
  have H1 := Lib.hid H1
  clear h
  rcases hk with rfl | rfl
  all_goals
    go_enter Try.func28, Try.ntmps28
    go_wp2_with (go_at_call 43; (with_reducible refine (H1.out _).mono ?_); rintro ee w1 ⟨rfl, hb1⟩; obtain ⟨hc1, hf1⟩ := bcell hb1; have hB1 := bel_step (w := w) (by go_grown) hb1; have hz1 := hb1.size; (try simp at hz1); (try have hy1_0 : w.heap.size < w1.heap.size := by omega); (try have hy1_1 : w.heap.size + 1 < w1.heap.size := by omega); (try have hy1_2 : w.heap.size + 1 + 1 < w1.heap.size := by omega))
    go_returns
    exact ⟨rfl, by go_grown⟩
/-- the sources and the code, in one word -/
theorem iSources_any (a b c d e f g : Int) (r : Int) (w : World) : Calls Try.prog 29 #[.agg #[.int .i64 a, .int .i64 b, .int .i64 c, .int .i64 d, .int .i64 e, .int .i64 f, .int .i64 g], .int .i64 r] w fun ee w' => ∃ A n c', ee = .returned (.tuple #[.slice A n c', .int .i64 (srcC a b c d e f g r)]) ∧ OwI w' w.heap.size (.slice A n c') (srcL a b c d e f g r) ∧ Below w.heap.size w w' := by
  by_cases h : okY a b c d e f g = true ∧ inR 0 200 r = true
  · unfold srcL
    rw [srcC_yes h.1 h.2, if_pos h]
    exact (iSources_yes a b c d e f g r w h.1 h.2).mono fun _ _ ⟨A, c', h1, h2, h3⟩ => ⟨A, 3, c', h1, h2, h3⟩
  · unfold srcL
    rw [if_neg h]
    unfold srcC; by_cases h1 : okY a b c d e f g = true
    · (rw [if_pos h1, if_neg (fun h2 => h ⟨h1, h2⟩)]; exact (iSources_rate a b c d e f g r w h1 (by cases hr : inR 0 200 r with | true => exact absurd ⟨h1, hr⟩ h | false => rfl)).mono fun _ _ ⟨h1, h3⟩ => ⟨none, 0, 0, h1, ownNil _ _, h3⟩)
    · (rw [if_neg h1]; exact (iSources_no a b c d e f g r w (by simpa using h1)).mono fun _ _ ⟨h1, h3⟩ => ⟨none, 0, 0, h1, ownNil _ _, h3⟩)
/-- the sources and the code, in one word -/
theorem sSources_any (a b c d e f g : Int) (r : Int) (w : World) : Calls Try.prog 28 #[.agg #[.int .i64 a, .int .i64 b, .int .i64 c, .int .i64 d, .int .i64 e, .int .i64 f, .int .i64 g], .int .i64 r] w fun ee w' => ∃ A n c', ee = .returned (.tuple #[.slice A n c', .int .i64 (srcC a b c d e f g r)]) ∧ OwI w' w.heap.size (.slice A n c') (srcL a b c d e f g r) ∧ Below w.heap.size w w' := by
  by_cases h : okY a b c d e f g = true ∧ inR 0 200 r = true
  · unfold srcL
    rw [srcC_yes h.1 h.2, if_pos h]
    exact (sSources_yes a b c d e f g r w h.1 h.2).mono fun _ _ ⟨A, c', h1, h2, h3⟩ => ⟨A, 3, c', h1, h2, h3⟩
  · unfold srcL
    rw [if_neg h]
    exact (sSources_no a b c d e f g r _ w rfl (srcC_no h)).mono fun _ _ ⟨h1, h3⟩ => ⟨none, 0, 0, h1, ownNil _ _, h3⟩
/-- the place of the first least one of three -/
def wI (x y z : Int) : Int := if y < x then (if z < y then 2 else 1) else (if z < x then 2 else 0)
theorem own_cells {w : World} {base : Nat} {A : Option Addr} {n c : Nat} {x y z : Int} (h : OwI w base (.slice A n c) [x, y, z]) :
    ∃ g, A = some ⟨g, 0, none⟩ ∧ n = 3 ∧ base ≤ g ∧ g < w.heap.size ∧ w.cell? ⟨g, 0, none⟩ = some (.int .i64 x) ∧ w.cell? ⟨g, 1, none⟩ = some (.int .i64 y) ∧ w.cell? ⟨g, 2, none⟩ = some (.int .i64 z) := by
  rcases h.form with ⟨_, h2⟩ | ⟨g, cap, h1, hg, hlt, _, _⟩
  · cases h2
  · injection h1 with h1 h3 h4
    subst h1 h3 h4
    exact ⟨g, rfl, rfl, hg, hlt, World.ownsRow.cellAt h 0 (by simp), World.ownsRow.cellAt h 1 (by simp), World.ownsRow.cellAt h 2 (by simp)⟩
set_option maxHeartbeats 1000000 in
theorem iWorst_yes (a b c d e f g : Int) (r : Int) (w : World) (h : okY a b c d e f g = true) (hr : inR 0 200 r = true) : Calls Try.prog 25 #[.agg #[.int .i64 a, .int .i64 b, .int .i64 c, .int .i64 d, .int .i64 e, .int .i64 f, .int .i64 g], .int .i64 r] w fun ee w' => ee = .returned (.tuple #[.int .i64 (wI (e - expI (a + b) r) (c - d) (a + b + expI (a + b) r - f - g)), .int .i64 0]) ∧ Below w.heap.size w w' := by
  have H1 := Lib.hid (fun W => iSources_yes a b c d e f g r W h hr)
  clear h hr
  generalize e - expI (a + b) r = x at *
  generalize c - d = y at *
  generalize a + b + expI (a + b) r - f - g = z at *
  obtain ⟨m, hm, hw⟩ : ∃ m : Int, Hid (wI x y z = m) ∧ ((y < x ∧ z < y ∧ Hid (m = 2)) ∨ (y < x ∧ ¬ z < y ∧ Hid (m = 1)) ∨ (¬ y < x ∧ z < x ∧ Hid (m = 2)) ∨ (¬ y < x ∧ ¬ z < x ∧ Hid (m = 0))) := by
    refine ⟨_, rfl, ?_⟩
    unfold wI
    by_cases h1 : y < x
    · by_cases h2 : z < y
      · exact .inl ⟨h1, h2, by rw [if_pos h1, if_pos h2]; rfl⟩
      · exact .inr (.inl ⟨h1, h2, by rw [if_pos h1, if_neg h2]; rfl⟩)
    · by_cases h2 : z < x
      · exact .inr (.inr (.inl ⟨h1, h2, by rw [if_neg h1, if_pos h2]; rfl⟩))
      · exact .inr (.inr (.inr ⟨h1, h2, by rw [if_neg h1, if_neg h2]; rfl⟩))
  rw [hm.out]
  rcases hw with ⟨h1, h2, hq⟩ | ⟨h1, h2, hq⟩ | ⟨h1, h2, hq⟩ | ⟨h1, h2, hq⟩
  all_goals
    go_enter Try.func25, Try.ntmps25
    go_wp2_with (go_at_call 29; (with_reducible refine (H1.out _).mono ?_); rintro ee w1 ⟨A, c', rfl, ho, hb1⟩; obtain ⟨gg, rfl, _, hg1, hg2, k0, k1, k2⟩ := own_cells ho; clear ho; have hB1 := bel_step (w := w) (by go_grown) hb1)
    go_rounds 4
    go_returns
    exact ⟨by rw [hq.out]; rfl, by go_grown⟩
set_option maxHeartbeats 1000000 in
theorem iWorst_no (a b c d e f g : Int) (r : Int) (w : World) (h : srcL a b c d e f g r = []) (hc : srcC a b c d e f g r = 1 ∨ srcC a b c d e f g r = 2) : Calls Try.prog 25 #[.agg #[.int .i64 a, .int .i64 b, .int .i64 c, .int .i64 d, .int .i64 e, .int .i64 f, .int .i64 g], .int .i64 r] w fun ee w' => ee = .returned (.tuple #[.int .i64 0, .int .i64 (srcC a b c d e f g r)]) ∧ Below w.heap.size w w' := by
  have H1 := fun W => iSources_any a b c d e f g r W
  rw [h] at H1
  clear h
  generalize srcC a b c d e f g r = k at *
  have H1 := Lib.hid H1
  rcases hc with rfl | rfl
  all_goals
    go_enter Try.func25, Try.ntmps25
    go_wp2_with (go_at_call 29; (with_reducible refine (H1.out _).mono ?_); rintro ee w1 ⟨A, n, c', rfl, ho, hb1⟩; clear ho; have hB1 := bel_step (w := w) (by go_grown) hb1)
    go_returns
    exact ⟨rfl, by go_grown⟩
set_option maxHeartbeats 1000000 in
theorem sWorst_yes (a b c d e f g : Int) (r : Int) (w : World) (h : okY a b c d e f g = true) (hr : inR 0 200 r = true) : Calls Try.prog 24 #[.agg #[.int .i64 a, .int .i64 b, .int .i64 c, .int .i64 d, .int .i64 e, .int .i64 f, .int .i64 g], .int .i64 r] w fun ee w' => ee = .returned (.tuple #[.int .i64 (wI (e - expI (a + b) r) (c - d) (a + b + expI (a + b) r - f - g)), .int .i64 0]) ∧ Below w.heap.size w w' := by
  have H1 := Lib.hid (fun W => sSrcs_yes a b c d e f g r W h hr)
  have H2 := fun W => sCode_any a b c d e f g r W
  rw [srcC_yes h hr] at H2
  have H2 := Lib.hid H2
  clear h hr
  generalize e - expI (a + b) r = x at *
  generalize c - d = y at *
  generalize a + b + expI (a + b) r - f - g = z at *
  obtain ⟨m, hm, hw⟩ : ∃ m : Int, Hid (wI x y z = m) ∧ ((y < x ∧ z < y ∧ Hid (m = 2)) ∨ (y < x ∧ ¬ z < y ∧ Hid (m = 1)) ∨ (¬ y < x ∧ z < x ∧ Hid (m = 2)) ∨ (¬ y < x ∧ ¬ z < x ∧ Hid (m = 0))) := by
    refine ⟨_, rfl, ?_⟩
    unfold wI
    by_cases h1 : y < x
    · by_cases h2 : z < y
      · exact .inl ⟨h1, h2, by rw [if_pos h1, if_pos h2]; rfl⟩
      · exact .inr (.inl ⟨h1, h2, by rw [if_pos h1, if_neg h2]; rfl⟩)
    · by_cases h2 : z < x
      · exact .inr (.inr (.inl ⟨h1, h2, by rw [if_neg h1, if_pos h2]; rfl⟩))
      · exact .inr (.inr (.inr ⟨h1, h2, by rw [if_neg h1, if_neg h2]; rfl⟩))
  rw [hm.out]
  rcases hw with ⟨h1, h2, hq⟩ | ⟨h1, h2, hq⟩ | ⟨h1, h2, hq⟩ | ⟨h1, h2, hq⟩
  all_goals
    go_enter Try.func24, Try.ntmps24
    go_wp2_with (go_at_call 43; (with_reducible refine (H2.out _).mono ?_); rintro ee w1 ⟨rfl, hb1⟩; obtain ⟨hc1, hf1⟩ := bcell hb1; have hB1 := bel_step (w := w) (by go_grown) hb1; have hz1 := hb1.size; (try simp at hz1); (try have hy1_0 : w.heap.size < w1.heap.size := by omega); (try have hy1_1 : w.heap.size + 1 < w1.heap.size := by omega); (try have hy1_2 : w.heap.size + 1 + 1 < w1.heap.size := by omega))
    go_wp2_with (go_at_call 44; (with_reducible refine (H1.out _).mono ?_); rintro ee w2 ⟨A, c', rfl, ho, hb2⟩; obtain ⟨gg, rfl, _, hg1, hg2, k0, k1, k2⟩ := own_cells ho; clear ho; have hB2 := bel_step (w := w) (by go_grown) hb2)
    refine wp_loop_rounds 3 ?_
    rw [rounds_succ]
    go_wp2
    go_quiet (fail)
    go_wp2
    rw [rounds_succ]
    go_wp2
    go_quiet (fail)
    go_wp2
    rw [rounds_succ]
    go_wp2
    go_returns
    exact ⟨by rw [hq.out]; rfl, below_drewN hB2 _⟩
set_option maxHeartbeats 1000000 in
theorem sWorst_no (a b c d e f g : Int) (r : Int) (w : World) (hc : srcC a b c d e f g r = 1 ∨ srcC a b c d e f g r = 2) : Calls Try.prog 24 #[.agg #[.int .i64 a, .int .i64 b, .int .i64 c, .int .i64 d, .int .i64 e, .int .i64 f, .int .i64 g], .int .i64 r] w fun ee w' => ee = .returned (.tuple #[.int .i64 0, .int .i64 (srcC a b c d e f g r)]) ∧ Below w.heap.size w w' := by
  have H2 := fun W => sCode_any a b c d e f g r W
  generalize srcC a b c d e f g r = k at *
  have H2 := Lib.hid H2
  rcases hc with rfl | rfl
  all_goals
    go_enter Try.func24, Try.ntmps24
    go_wp2_with (go_at_call 43; (with_reducible refine (H2.out _).mono ?_); rintro ee w1 ⟨rfl, hb1⟩; obtain ⟨hc1, hf1⟩ := bcell hb1; have hB1 := bel_step (w := w) (by go_grown) hb1; have hz1 := hb1.size; (try simp at hz1); (try have hy1_0 : w.heap.size < w1.heap.size := by omega); (try have hy1_1 : w.heap.size + 1 < w1.heap.size := by omega); (try have hy1_2 : w.heap.size + 1 + 1 < w1.heap.size := by omega))
    go_returns
    exact ⟨rfl, by go_grown⟩
def worV (a b c d e f g : Int) (r : Int) : Int := if okY a b c d e f g = true ∧ inR 0 200 r = true then wI (e - expI (a + b) r) (c - d) (a + b + expI (a + b) r - f - g) else 0
theorem sWorst_any (a b c d e f g : Int) (r : Int) (w : World) : Calls Try.prog 24 #[.agg #[.int .i64 a, .int .i64 b, .int .i64 c, .int .i64 d, .int .i64 e, .int .i64 f, .int .i64 g], .int .i64 r] w fun ee w' => ee = .returned (.tuple #[.int .i64 (worV a b c d e f g r), .int .i64 (srcC a b c d e f g r)]) ∧ Below w.heap.size w w' := by
  unfold worV
  by_cases h : okY a b c d e f g = true ∧ inR 0 200 r = true
  · rw [if_pos h, srcC_yes h.1 h.2]
    exact sWorst_yes a b c d e f g r w h.1 h.2
  · rw [if_neg h]
    exact sWorst_no a b c d e f g r w (srcC_no h)
theorem iWorst_any (a b c d e f g : Int) (r : Int) (w : World) : Calls Try.prog 25 #[.agg #[.int .i64 a, .int .i64 b, .int .i64 c, .int .i64 d, .int .i64 e, .int .i64 f, .int .i64 g], .int .i64 r] w fun ee w' => ee = .returned (.tuple #[.int .i64 (worV a b c d e f g r), .int .i64 (srcC a b c d e f g r)]) ∧ Below w.heap.size w w' := by
  unfold worV
  by_cases h : okY a b c d e f g = true ∧ inR 0 200 r = true
  · rw [if_pos h, srcC_yes h.1 h.2]
    exact iWorst_yes a b c d e f g r w h.1 h.2
  · rw [if_neg h]
    exact iWorst_no a b c d e f g r w (by unfold srcL; rw [if_neg h]) (srcC_no h)
end Go.Proofs.Ythpjfaibpgjokaa
