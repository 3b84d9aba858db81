/-
  Contracts of the functions of chapter 14: the widow's and the orphans' pensions in a month.
-/
import Derived.Test.YtmgaooinkdmpbaaC4
set_option linter.unusedSimpArgs false
set_option linter.unusedVariables false
namespace Go.Proofs.Ytmgaooinkdmpbaa
open Go.RowKit
/-- does the widow get the pension -/
def widB (wd lf x : Int) : Bool := decide (wd ≠ -1) && decide (wd ≤ x) && (decide (lf = -1) || decide (x < lf))
/-- gets this child a pension -/
def orpB (d x b : Int) : Bool := decide (d < x) && decide (b ≤ x) && decide (x - b < 192)
def orpN (d x : Int) (xs : List Int) : Int := ((xs.countP (orpB d x) : Nat) : Int)
theorem orp_take {d x z : Int} {xs : List Int} {k : Nat} (h : xs[k]? = some z) : orpN d x (xs.take (k + 1)) = orpN d x (xs.take k) + (if orpB d x z = true then 1 else 0) := by
  obtain ⟨hk, he⟩ := List.getElem?_eq_some_iff.1 h
  unfold orpN
  rw [List.take_succ_eq_append_getElem hk, List.countP_append, he]
  simp only [List.countP_cons, List.countP_nil, Nat.zero_add]
  split <;> simp
theorem orp_bd (d x : Int) (xs : List Int) : 0 ≤ orpN d x xs ∧ orpN d x xs ≤ (xs.length : Int) := by
  unfold orpN
  have := List.countP_le_length (p := orpB d x) (l := xs)
  omega
theorem widB_cases (wd lf x : Int) : widB wd lf x = (decide (wd ≠ -1) && decide (wd ≤ x) && (decide (lf = -1) || decide (x < lf))) := rfl
set_option maxHeartbeats 1000000 in
theorem iWid_any (d m wd lf : Int) (A : Option Addr) (n c : Nat) (xs : List Int) (x : Int) (w : World) : Calls Try.prog 43 #[.agg #[.int .i64 d, .int .i64 m, .int .i64 wd, .int .i64 lf, .slice A n c], .int .i64 x] w fun ee w' => ee = .returned (.bool (widB wd lf x)) ∧ Below w.heap.size w w' := by
  have HV := Lib.hid (widB_cases wd lf x)
  rcases eqC wd (-1) with ⟨a1, a2, a3⟩ | ⟨a1, a2, a3⟩
  · have HQ : Hid (widB wd lf x = false) := by show _ = _; rw [HV.out, decide_eq_false (fun h => h a3.out)]; rfl
    go_enter Try.func43, Try.ntmps43
    go_wp2
    go_returns
    exact ⟨by rw [HQ.out]; rfl, by go_grown⟩
  · by_cases h1 : wd ≤ x
    · rcases eqC lf (-1) with ⟨b1, b2, b3⟩ | ⟨b1, b2, b3⟩
      · have HQ : Hid (widB wd lf x = true) := by show _ = _; rw [HV.out, decide_eq_true a3.out, decide_eq_true h1, decide_eq_true b3.out]; rfl
        go_enter Try.func43, Try.ntmps43
        go_wp2
        go_returns
        exact ⟨by rw [HQ.out]; rfl, by go_grown⟩
      · have HQ : Hid (widB wd lf x = decide (x < lf)) := by show _ = _; rw [HV.out, decide_eq_true a3.out, decide_eq_true h1, decide_eq_false b3.out]; rfl
        go_enter Try.func43, Try.ntmps43
        go_wp2
        go_returns
        exact ⟨by rw [HQ.out]; rfl, by go_grown⟩
    · have HQ : Hid (widB wd lf x = false) := by show _ = _; rw [HV.out, decide_eq_false h1]; simp
      go_enter Try.func43, Try.ntmps43
      go_wp2
      go_returns
      exact ⟨by rw [HQ.out]; rfl, by go_grown⟩
set_option maxHeartbeats 1000000 in
theorem sWid_any (d m wd lf : Int) (A : Option Addr) (n c : Nat) (xs : List Int) (x : Int) (w : World) : Calls Try.prog 39 #[.agg #[.int .i64 d, .int .i64 m, .int .i64 wd, .int .i64 lf, .slice A n c], .int .i64 x] w fun ee w' => ee = .returned (.bool (widB wd lf x)) ∧ Below w.heap.size w w' := by
  have HV := Lib.hid (widB_cases wd lf x)
  rcases eqC wd (-1) with ⟨a1, a2, a3⟩ | ⟨a1, a2, a3⟩
  · have HQ : Hid (widB wd lf x = false) := by show _ = _; rw [HV.out, decide_eq_false (fun h => h a3.out)]; rfl
    go_enter Try.func39, Try.ntmps39
    go_wp2
    go_returns
    exact ⟨by rw [HQ.out]; rfl, by go_grown⟩
  · by_cases h1 : wd ≤ x
    · rcases eqC lf (-1) with ⟨b1, b2, b3⟩ | ⟨b1, b2, b3⟩
      · have HQ : Hid (widB wd lf x = true) := by show _ = _; rw [HV.out, decide_eq_true a3.out, decide_eq_true h1, decide_eq_true b3.out]; rfl
        go_enter Try.func39, Try.ntmps39
        go_wp2
        go_returns
        exact ⟨by rw [HQ.out]; rfl, by go_grown⟩
      · have HQ : Hid (widB wd lf x = decide (x < lf)) := by show _ = _; rw [HV.out, decide_eq_true a3.out, decide_eq_true h1, decide_eq_false b3.out]; rfl
        go_enter Try.func39, Try.ntmps39
        go_wp2
        go_returns
        exact ⟨by rw [HQ.out]; rfl, by go_grown⟩
    · have HQ : Hid (widB wd lf x = false) := by show _ = _; rw [HV.out, decide_eq_false h1]; simp
      go_enter Try.func39, Try.ntmps39
      go_wp2
      go_returns
      exact ⟨by rw [HQ.out]; rfl, by go_grown⟩
set_option maxHeartbeats 2000000 in
theorem iOrp_any (d m wd lf : Int) (A : Option Addr) (n c : Nat) (xs : List Int) (x : Int) (w : World) (h : RdI w w.heap.size A n xs) (hn : n ≤ 12) (hk : kidsP d n xs) (hx : 0 ≤ x ∧ x ≤ 35999) : Calls Try.prog 58 #[.agg #[.int .i64 d, .int .i64 m, .int .i64 wd, .int .i64 lf, .slice A n c], .int .i64 x] w fun ee w' => ee = .returned (.int .i64 (orpN d x xs)) ∧ Below w.heap.size w w' := by
  have H := Lib.hid h
  have hl := Lib.hid h.len
  have HK := Lib.hid hk
  have hW : Below w.heap.size w (w.alloc (.cells #[.int .i64 d, .int .i64 m, .int .i64 wd, .int .i64 lf, .slice A n c] 26)) := al_ _ _
  have hc0 : ((w.alloc (.cells #[.int .i64 d, .int .i64 m, .int .i64 wd, .int .i64 lf, .slice A n c] 26))).cell? ⟨w.heap.size, 0, none⟩ = some (.int .i64 d) := by simp [go_sem]
  clear h hk
  go_enter Try.func58, Try.ntmps58
  go_wp2
  go_loop [5, 11] (fun v i => ∃ k : Nat, k ≤ n ∧ i = .int .i64 k ∧ v = .int .i64 (orpN d x (xs.take k))) (fun _ i => n - (intOf i).toNat)
  case atStart => exact ⟨0, Nat.zero_le _, rfl, rfl⟩
  case round =>
    obtain ⟨k, hk, rfl, rfl⟩ := hrel
    have hb0 := orp_bd d x (xs.take k)
    have hb1 : (xs.take k).length ≤ n := by rw [List.length_take, hl.out]; omega
    by_cases hlt : k < n
    · obtain ⟨ad, z, rfl, hb, hz, hx1⟩ := RdI.atI H.out hlt
      have HT := Lib.hid (orp_take (d := d) (x := x) hz)
      have hkz := HK.out k hlt
      rw [gv_at hz] at hkz
      have hz1 := hkz.1
      have hb4 : (ad.add k).block < w.heap.size := by rw [block_of_add]; exact hb
      clear hz hkz
      generalize orpN d x (xs.take k) = t0 at *
      by_cases g1 : d < x ∧ z ≤ x ∧ x - z < 192
      · have HQ : Hid (orpB d x z = true) := by show _ = _; unfold orpB; simp [g1]
        obtain ⟨g1, g2, g3⟩ := g1
        go_wp2
        go_round
        case rel => exact ⟨k + 1, by omega, by go_num, by rw [HT.out, if_pos HQ.out]⟩
        case measure => simp [intOf]; omega
      · have HQ : Hid (¬ orpB d x z = true) := by show ¬ _; unfold orpB; simp; omega
        have hc1 : ¬ d < x ∨ (d < x ∧ ¬ z ≤ x) ∨ (d < x ∧ z ≤ x ∧ ¬ x - z < 192) := by omega
        clear g1
        rcases hc1 with g1 | ⟨g1, g2⟩ | ⟨g1, g2, g3⟩
        all_goals
          go_wp2
          go_round
          case rel => exact ⟨k + 1, by omega, by go_num, by rw [HT.out, if_neg HQ.out, Int.add_zero]⟩
          case measure => simp [intOf]; omega
    · have HE : Hid (xs.take k = xs) := List.take_of_length_le (by rw [hl.out]; omega)
      go_wp2
      go_ret
      exact ⟨by rw [HE.out]; rfl, hW⟩
set_option maxHeartbeats 2000000 in
theorem sOrp_any (d m wd lf : Int) (A : Option Addr) (n c : Nat) (xs : List Int) (x : Int) (w : World) (h : RdI w w.heap.size A n xs) (hn : n ≤ 12) (hk : kidsP d n xs) (hx : 0 ≤ x ∧ x ≤ 35999) : Calls Try.prog 59 #[.agg #[.int .i64 d, .int .i64 m, .int .i64 wd, .int .i64 lf, .slice A n c], .int .i64 x] w fun ee w' => ee = .returned (.int .i64 (orpN d x xs)) ∧ Below w.heap.size w w' := by
  have H := Lib.hid h
  have hl := Lib.hid h.len
  have HK := Lib.hid hk
  have hW : Below w.heap.size w (w.alloc (.cells #[.int .i64 d, .int .i64 m, .int .i64 wd, .int .i64 lf, .slice A n c] 26)) := al_ _ _
  clear h hk
  go_enter Try.func59, Try.ntmps59
  go_wp2
  go_loop [5, 6] (fun v i => ∃ k : Nat, k ≤ n ∧ i = .int .i64 k ∧ v = .int .i64 (orpN d x (xs.take k))) (fun _ i => n - (intOf i).toNat)
  case atStart => exact ⟨0, Nat.zero_le _, rfl, rfl⟩
  case round =>
    obtain ⟨k, hk, rfl, rfl⟩ := hrel
    have hb0 := orp_bd d x (xs.take k)
    have hb1 : (xs.take k).length ≤ n := by rw [List.length_take, hl.out]; omega
    by_cases hlt : k < n
    · obtain ⟨ad, z, rfl, hb, hz, hx1⟩ := RdI.atI H.out hlt
      have HT := Lib.hid (orp_take (d := d) (x := x) hz)
      have hkz := HK.out k hlt
      rw [gv_at hz] at hkz
      have hz1 := hkz.1
      have hb4 : (ad.add k).block < w.heap.size := by rw [block_of_add]; exact hb
      clear hz hkz
      generalize orpN d x (xs.take k) = t0 at *
      by_cases g1 : d < x ∧ z ≤ x ∧ x - z < 192
      · have HQ : Hid (orpB d x z = true) := by show _ = _; unfold orpB; simp [g1]
        obtain ⟨g1, g2, g3⟩ := g1
        go_wp2
        go_round
        case rel => exact ⟨k + 1, by omega, by go_num, by rw [HT.out, if_pos HQ.out]⟩
        case measure => simp [intOf]; omega
      · have HQ : Hid (¬ orpB d x z = true) := by show ¬ _; unfold orpB; simp; omega
        have hc1 : ¬ d < x ∨ (d < x ∧ ¬ z ≤ x) ∨ (d < x ∧ z ≤ x ∧ ¬ x - z < 192) := by omega
        clear g1
        rcases hc1 with g1 | ⟨g1, g2⟩ | ⟨g1, g2, g3⟩
        all_goals
          go_wp2
          go_round
          case rel => exact ⟨k + 1, by omega, by go_num, by rw [HT.out, if_neg HQ.out, Int.add_zero]⟩
          case measure => simp [intOf]; omega
    · have HE : Hid (xs.take k = xs) := List.take_of_length_le (by rw [hl.out]; omega)
      go_wp2
      go_ret
      exact ⟨by rw [HE.out]; rfl, hW⟩
end Go.Proofs.Ytmgaooinkdmpbaa
