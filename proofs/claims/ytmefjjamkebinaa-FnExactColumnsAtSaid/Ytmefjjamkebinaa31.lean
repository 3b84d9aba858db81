/-
  Contracts of the discounts.
-/
import Derived.Test.YtmefjjamkebinaaF3
import Derived.Test.YtmefjjamkebinaaOW
import Derived.Test.YtmefjjamkebinaaOL
set_option linter.unusedSimpArgs false
set_option linter.unusedVariables false
namespace Go.Proofs.Ytmefjjamkebinaa
open Go.RowKit
/-- the discount after k years -/
def dsc (r : Int) : Nat → Int
  | 0 => 1000000000
  | k + 1 => dsc r k * 1000 / (1000 + r)
theorem dsc_bd {r : Int} (hr : 0 ≤ r ∧ r ≤ 200) : ∀ k, 0 ≤ dsc r k ∧ dsc r k ≤ 1000000000
  | 0 => by unfold dsc; omega
  | k + 1 => by
    have h := dsc_bd hr k
    show 0 ≤ dsc r k * 1000 / (1000 + r) ∧ dsc r k * 1000 / (1000 + r) ≤ 1000000000
    generalize dsc r k = d at *
    exact ⟨Int.ediv_nonneg (by omega) (by omega), Int.ediv_le_of_le_mul (by omega) (by omega)⟩
theorem dsc_step {r d : Int} (hr : 0 ≤ r ∧ r ≤ 200) (hd : 0 ≤ d ∧ d ≤ 1000000000) : IntKind.i64.wrap ((d * 1000).tdiv (1000 + r)) = d * 1000 / (1000 + r) := by
  rw [Int.tdiv_eq_ediv_of_nonneg (by omega)]
  have h : 0 ≤ d * 1000 / (1000 + r) ∧ d * 1000 / (1000 + r) ≤ 1000000000 := ⟨Int.ediv_nonneg (by omega) (by omega), Int.ediv_le_of_le_mul (by omega) (by omega)⟩
  exact IntWalk.i64_in _ (by omega)
/-- the discounts after 0 to k - 1 years -/
def dscL (r : Int) (k : Nat) : List Int := (List.range k).map (dsc r)
theorem dscL_succ (r : Int) (k : Nat) : dscL r (k + 1) = dscL r k ++ [dsc r k] := by unfold dscL; rw [List.range_succ, List.map_append]; rfl
theorem dscL_len (r : Int) (k : Nat) : (dscL r k).length = k := by unfold dscL; simp
theorem dscL_at (r : Int) {k j : Nat} (h : j < k) : (dscL r k)[j]? = some (dsc r j) := by unfold dscL; rw [List.getElem?_map, List.getElem?_range h]; rfl
set_option maxHeartbeats 1000000 in
theorem sDisc_any (r : Int) (n : Nat) (w : World) (hr : 0 ≤ r ∧ r ≤ 200) (hn : n ≤ 200) : Calls Try.prog 64 #[.int .i64 r, .int .i64 n] w fun e w' => e = .returned (.int .i64 (dsc r n)) ∧ w = w' := by
  go_enter Try.func64, Try.ntmps64
  go_wp2
  go_loop [5, 6] (fun d i => ∃ k : Nat, i = .int .i64 k ∧ k ≤ n ∧ d = .int .i64 (dsc r k)) (fun _ i => n - (intOf i).toNat)
  case atStart => exact ⟨0, rfl, Nat.zero_le _, rfl⟩
  case round =>
    obtain ⟨k, rfl, hk, rfl⟩ := hrel
    by_cases hlt : k < n
    · have hd := dsc_bd hr k
      have hs := dsc_step hr hd
      have HE : Hid (dsc r k * 1000 / (1000 + r) = dsc r (k + 1)) := rfl
      have hne : ¬ 1000 + r = 0 := by omega
      generalize dsc r k = d at *
      go_wp2
      go_round
      case rel => exact ⟨k + 1, by go_num, by omega, by rw [HE.out]⟩
      case measure => simp [intOf]; omega
    · obtain rfl : k = n := by omega
      go_wp2
      go_returns
      exact ⟨rfl, rfl⟩
set_option maxHeartbeats 1000000 in
set_option maxRecDepth 100000 in
theorem iDisc_any (r : Int) (w : World) (hr : 0 ≤ r ∧ r ≤ 200) : Calls Try.prog 67 #[.int .i64 r] w fun e w' => ∃ A c, e = .returned (.slice A 121 c) ∧ OwI w' w.heap.size (.slice A 121 c) (dscL r 121) ∧ Below w.heap.size w w' := by
  have O := Lib.hid (ownEmpty w w.heap.size (Nat.le_refl _))
  go_enter Try.func67, Try.ntmps67
  go_wp2
  go_loopw [3, 4, 6] (fun v d i wr => ∃ k : Nat, i = .int .i64 k ∧ k ≤ 121 ∧ d = .int .i64 (dsc r k) ∧ (∃ A m c, v = .slice A m c) ∧ Hid (OwI wr w.heap.size v (dscL r k)) ∧ Below w.heap.size w wr) (fun _ _ i _ => 121 - (intOf i).toNat)
  case atStart => exact ⟨0, rfl, Nat.zero_le _, rfl, ⟨_, _, _, rfl⟩, O.out, by go_grown⟩
  case round =>
    clear O
    obtain ⟨k, rfl, hk, rfl, ⟨A, m, c, rfl⟩, O, hB⟩ := hrel
    by_cases hlt : k < 121
    · have hd := dsc_bd hr k
      have hs := dsc_step hr hd
      have HE : Hid (dsc r k * 1000 / (1000 + r) = dsc r (k + 1)) := rfl
      have HL := Lib.hid (dscL_succ r k)
      have hne : ¬ 1000 + r = 0 := by omega
      generalize dsc r k = d at *
      go_wp2_with (at_builtin; refine wpl_app_intL rfl _ _ rfl w.heap.size (dscL r k) _ (by rfl) (O.out.alloc _) _ _ 1 (by rfl) ((Blk.new _ _ _).cell 0) (by rw [dscL_len]; omega) (by have := hB.size; simp; omega) ?_; intro A3 m3 c3 w3 ho3 hg3 _; have rw3 := own_rowI O.out; have O3 := Lib.hid ho3; have hB3 := (hB.alloc hB.size _).grown hg3 (by have := hB.size; simp; omega) (fun b e => (rw3 b e).1); clear ho3 hg3 rw3)
      go_roundw
      case rel => exact ⟨k + 1, by go_num, by omega, by rw [HE.out], ⟨_, _, _, rfl⟩, by rw [HL.out]; exact O3.out, hB3⟩
      case measure => simp [intOf]; omega
    · obtain rfl : k = 121 := by omega
      have hm : m = 121 := by have := O.out.rd.1; rw [dscL_len] at this; exact this
      subst hm
      go_wp2
      go_returns
      exact ⟨A, c, rfl, O.out, hB⟩
end Go.Proofs.Ytmefjjamkebinaa
