/-
  Contracts of the functions of chapter 16: members, their contributions and payments.
-/
import Derived.Test.YtnklpdckclgilaaP2
set_option linter.unusedSimpArgs false
set_option linter.unusedVariables false
namespace Go.Proofs.Ytnklpdckclgilaa
open Go.RowKit
/-- are these payments, in order, none before 'last' -/
def payOk (last : Int) : List (Int × Int) → Bool
  | [] => true
  | (m, a) :: t => inR 0 35999 m && decide (last ≤ m) && inR 1 100000000 a && payOk m t
def areP (j : Int) (xs : List (Int × Int)) : Bool := inR 0 35999 j && decide (xs.length ≤ 100) && payOk j xs
theorem drop_cons {α : Type} {xs : List α} {k : Nat} {x : α} (h : xs[k]? = some x) : xs.drop k = x :: xs.drop (k + 1) := by
  obtain ⟨hk, he⟩ := List.getElem?_eq_some_iff.1 h
  rw [List.drop_eq_getElem_cons hk, he]
theorem payOk_step {xs : List (Int × Int)} {k : Nat} {m a last : Int} (h : xs[k]? = some (m, a)) :
    (inR 0 35999 m = false ∧ Hid (payOk last (xs.drop k) = false)) ∨ (inR 0 35999 m = true ∧ m < last ∧ Hid (payOk last (xs.drop k) = false)) ∨ (inR 0 35999 m = true ∧ last ≤ m ∧ inR 1 100000000 a = false ∧ Hid (payOk last (xs.drop k) = false)) ∨
    (inR 0 35999 m = true ∧ last ≤ m ∧ inR 1 100000000 a = true ∧ Hid (payOk last (xs.drop k) = payOk m (xs.drop (k + 1)))) := by
  have hd := drop_cons h
  have hp : payOk last (xs.drop k) = (inR 0 35999 m && decide (last ≤ m) && inR 1 100000000 a && payOk m (xs.drop (k + 1))) := by rw [hd]; rfl
  cases h1 : inR 0 35999 m with
  | false => exact .inl ⟨rfl, by show _ = _; rw [hp, h1]; rfl⟩
  | true =>
    by_cases h2 : last ≤ m
    · cases h3 : inR 1 100000000 a with
      | false => exact .inr (.inr (.inl ⟨rfl, h2, rfl, by show _ = _; rw [hp, h1, h3]; simp⟩))
      | true => exact .inr (.inr (.inr ⟨rfl, h2, rfl, by show _ = _; rw [hp, h1, h3]; simp [h2]⟩))
    · exact .inr (.inl ⟨rfl, by omega, by show _ = _; rw [hp, h1]; simp [h2]⟩)
set_option maxHeartbeats 2000000 in
theorem iAreP_in (j : Int) (A : Option Addr) (n c : Nat) (xs : List (Int × Int)) (w : World) (h : RdP w w.heap.size A n xs) (hj : inR 0 35999 j = true) (hn : n ≤ 100) : Calls Try.prog 26 #[.int .i64 j, .slice A n c] w fun ee w' => ee = .returned (.bool (payOk j xs)) ∧ Below w.heap.size w w' := by
  have H := Lib.hid h
  have hl := Lib.hid h.len
  have HM := fun W => isMonth_any j W
  rw [hj] at HM
  have HJ := Lib.hid HM
  clear h hj HM
  go_enter Try.func26, Try.ntmps26
  go_wp2_with (go_at_call 52; (with_reducible refine (HJ.out _).mono ?_); rintro ee w1 ⟨rfl, rfl⟩)
  go_loopw [5, 19] (fun l i wr => ∃ (k : Nat) (last : Int), k ≤ n ∧ i = .int .i64 k ∧ l = .int .i64 last ∧ Hid (payOk j xs = payOk last (xs.drop k)) ∧ Below w.heap.size w wr) (fun _ i _ => n - (intOf i).toNat)
  case atStart => exact ⟨0, j, Nat.zero_le _, rfl, rfl, rfl, Below.refl _ _⟩
  case round =>
    obtain ⟨k, last, hk, rfl, rfl, HP, hR⟩ := hrel
    have hs := hR.size
    by_cases hlt : k < n
    · obtain ⟨ad, m, a, rfl, hb, hz, hx, hy⟩ := RdP.atP (H.out.below hR) hlt
      have HM := Lib.hid (fun W => isMonth_any m W)
      have HA := Lib.hid (fun W => inRange_any a 1 100000000 W)
      rcases payOk_step (last := last) hz with ⟨h1, hq⟩ | ⟨h1, h2, hq⟩ | ⟨h1, h2, h3, hq⟩ | ⟨h1, h2, h3, hq⟩
      all_goals clear hz
      · rw [h1] at HM
        clear h1
        go_wp2_with (go_at_call 52; (with_reducible refine (HM.out _).mono ?_); rintro ee w1 ⟨rfl, rfl⟩)
        go_ret
        exact ⟨by rw [HP.out, hq.out]; rfl, by go_grown⟩
      · rw [h1] at HM
        clear h1
        go_wp2_with (go_at_call 52; (with_reducible refine (HM.out _).mono ?_); rintro ee w1 ⟨rfl, rfl⟩)
        go_ret
        exact ⟨by rw [HP.out, hq.out]; rfl, by go_grown⟩
      · rw [h1] at HM
        rw [h3] at HA
        clear h1 h3
        go_wp2_with (first | (go_at_call 52; (with_reducible refine (HM.out _).mono ?_); rintro ee w1 ⟨rfl, rfl⟩) | (go_at_call 44; (with_reducible refine (HA.out _).mono ?_); rintro ee w2 ⟨rfl, rfl⟩))
        go_ret
        exact ⟨by rw [HP.out, hq.out]; rfl, by go_grown⟩
      · rw [h1] at HM
        rw [h3] at HA
        clear h1 h3
        go_wp2_with (first | (go_at_call 52; (with_reducible refine (HM.out _).mono ?_); rintro ee w1 ⟨rfl, rfl⟩) | (go_at_call 44; (with_reducible refine (HA.out _).mono ?_); rintro ee w2 ⟨rfl, rfl⟩))
        go_roundw
        case rel => exact ⟨k + 1, m, by omega, by go_num, rfl, HP.out.trans hq.out, by go_grown⟩
        case measure => simp [intOf]; omega
    · obtain rfl : k = n := by omega
      have HE : Hid (payOk j xs = true) := by
        show _ = _
        rw [HP.out, List.drop_of_length_le (by have := hl.out; omega)]
        rfl
      go_wp2
      go_ret
      exact ⟨by rw [HE.out]; rfl, by go_grown⟩
set_option maxHeartbeats 1000000 in
theorem iAreP_no (j : Int) (A : Option Addr) (n c : Nat) (w : World) (hj : inR 0 35999 j = false) : Calls Try.prog 26 #[.int .i64 j, .slice A n c] w fun ee w' => ee = .returned (.bool false) ∧ Below w.heap.size w w' := by
  have HM := fun W => isMonth_any j W
  rw [hj] at HM
  have HJ := Lib.hid HM
  clear hj HM
  go_enter Try.func26, Try.ntmps26
  go_wp2_with (go_at_call 52; (with_reducible refine (HJ.out _).mono ?_); rintro ee w1 ⟨rfl, rfl⟩)
  go_ret
  exact ⟨rfl, by go_grown⟩
set_option maxHeartbeats 1000000 in
theorem iAreP_many (j : Int) (A : Option Addr) (n c : Nat) (w : World) (hj : inR 0 35999 j = true) (hn : 100 < n) (hm : n ≤ 1048576) : Calls Try.prog 26 #[.int .i64 j, .slice A n c] w fun ee w' => ee = .returned (.bool false) ∧ Below w.heap.size w w' := by
  have HM := fun W => isMonth_any j W
  rw [hj] at HM
  have HJ := Lib.hid HM
  clear hj HM
  go_enter Try.func26, Try.ntmps26
  go_wp2_with (go_at_call 52; (with_reducible refine (HJ.out _).mono ?_); rintro ee w1 ⟨rfl, rfl⟩)
  go_ret
  exact ⟨rfl, by go_grown⟩
theorem iAreP_any (j : Int) (A : Option Addr) (n c : Nat) (xs : List (Int × Int)) (w : World) (h : RdP w w.heap.size A n xs) (hm : n ≤ 1048576) : Calls Try.prog 26 #[.int .i64 j, .slice A n c] w fun ee w' => ee = .returned (.bool (areP j xs)) ∧ Below w.heap.size w w' := by
  unfold areP
  rw [h.len]
  cases hj : inR 0 35999 j with
  | false => simpa using iAreP_no j A n c w hj
  | true =>
    by_cases hn : n ≤ 100
    · simpa [hn] using iAreP_in j A n c xs w h hj hn
    · simpa [hn] using iAreP_many j A n c w hj (by omega) hm
set_option maxHeartbeats 2000000 in
theorem sAreP_any (j : Int) (A : Option Addr) (n c : Nat) (xs : List (Int × Int)) (w : World) (h : RdP w w.heap.size A n xs) (hm : n ≤ 1048576) : Calls Try.prog 27 #[.int .i64 j, .slice A n c] w fun ee w' => ee = .returned (.bool (areP j xs)) ∧ Below w.heap.size w w' := by
  have H := Lib.hid h
  have hl := Lib.hid h.len
  have HD : Hid (areP j xs = (inR 0 35999 j && decide (n ≤ 100) && payOk j xs)) := by show _ = _; unfold areP; rw [h.len]
  clear h
  go_enter Try.func27, Try.ntmps27
  go_wp2
  go_loop [5, 6] (fun l i => ∃ (k : Nat) (last : Int), k ≤ n ∧ i = .int .i64 k ∧ l = .int .i64 last ∧ Hid (payOk j xs = payOk last (xs.drop k))) (fun _ i => n - (intOf i).toNat)
  case atStart => exact ⟨0, j, Nat.zero_le _, rfl, rfl, rfl⟩
  case round =>
    obtain ⟨k, last, hk, rfl, rfl, HP⟩ := hrel
    by_cases hlt : k < n
    · obtain ⟨ad, m, a, rfl, hb, hz, hx, hy⟩ := RdP.atP H.out hlt
      have HM := Lib.hid (fun W => l02Month_any m W)
      have HA := Lib.hid (fun W => sIn_any a 1 100000000 W)
      rcases payOk_step (last := last) hz with ⟨h1, hq⟩ | ⟨h1, h2, hq⟩ | ⟨h1, h2, h3, hq⟩ | ⟨h1, h2, h3, hq⟩
      all_goals clear hz
      · rw [h1] at HM
        clear h1
        go_wp2_with (go_at_call 53; (with_reducible refine (HM.out _).mono ?_); rintro ee w1 ⟨rfl, rfl⟩)
        go_ret
        exact ⟨by rw [HD.out, HP.out, hq.out]; simp, by go_grown⟩
      · rw [h1] at HM
        clear h1
        go_wp2_with (go_at_call 53; (with_reducible refine (HM.out _).mono ?_); rintro ee w1 ⟨rfl, rfl⟩)
        go_ret
        exact ⟨by rw [HD.out, HP.out, hq.out]; simp, by go_grown⟩
      · rw [h1] at HM
        rw [h3] at HA
        clear h1 h3
        go_wp2_with (first | (go_at_call 53; (with_reducible refine (HM.out _).mono ?_); rintro ee w1 ⟨rfl, rfl⟩) | (go_at_call 42; (with_reducible refine (HA.out _).mono ?_); rintro ee w2 ⟨rfl, rfl⟩))
        go_ret
        exact ⟨by rw [HD.out, HP.out, hq.out]; simp, by go_grown⟩
      · rw [h1] at HM
        rw [h3] at HA
        clear h1 h3
        go_wp2_with (first | (go_at_call 53; (with_reducible refine (HM.out _).mono ?_); rintro ee w1 ⟨rfl, rfl⟩) | (go_at_call 42; (with_reducible refine (HA.out _).mono ?_); rintro ee w2 ⟨rfl, rfl⟩))
        go_round
        case rel => exact ⟨k + 1, m, by omega, by go_num, rfl, HP.out.trans hq.out⟩
        case measure => simp [intOf]; omega
    · obtain rfl : k = n := by omega
      have HE : Hid (payOk j xs = true) := by
        show _ = _
        rw [HP.out, List.drop_of_length_le (by have := hl.out; omega)]
        rfl
      have HM := Lib.hid (fun W => l02Month_any j W)
      cases hj : inR 0 35999 j with
      | false =>
        have HQ : Hid (areP j xs = false) := by show _ = _; rw [HD.out, hj]; rfl
        rw [hj] at HM
        clear hj
        go_wp2_with (go_at_call 53; (with_reducible refine (HM.out _).mono ?_); rintro ee w1 ⟨rfl, rfl⟩)
        go_ret
        exact ⟨by rw [HQ.out]; rfl, by go_grown⟩
      | true =>
        have HQ : Hid (areP j xs = decide (k ≤ 100)) := by show _ = _; rw [HD.out, HE.out, hj]; simp
        rw [hj] at HM
        clear hj
        by_cases h100 : k ≤ 100
        · go_wp2_with (go_at_call 53; (with_reducible refine (HM.out _).mono ?_); rintro ee w1 ⟨rfl, rfl⟩)
          go_ret
          exact ⟨by rw [HQ.out]; simp [h100]; omega, by go_grown⟩
        · go_wp2_with (go_at_call 53; (with_reducible refine (HM.out _).mono ?_); rintro ee w1 ⟨rfl, rfl⟩)
          go_ret
          exact ⟨by rw [HQ.out]; simp [h100]; omega, by go_grown⟩
end Go.Proofs.Ytnklpdckclgilaa
