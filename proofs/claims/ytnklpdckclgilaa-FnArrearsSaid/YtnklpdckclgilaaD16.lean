/-
  Contracts of the functions of chapter 16, second part: codes, sums of payments, balances.
-/
import Derived.Test.YtnklpdckclgilaaC16
set_option linter.unusedSimpArgs false
set_option linter.unusedVariables false
namespace Go.Proofs.Ytnklpdckclgilaa
open Go.RowKit
/-- the sum of the payments whose months p holds of -/
def paidL (p : Int → Bool) : List (Int × Int) → Int
  | [] => 0
  | (m, a) :: t => (if p m = true then a else 0) + paidL p t
theorem paidL_app (p : Int → Bool) (xs ys : List (Int × Int)) : paidL p (xs ++ ys) = paidL p xs + paidL p ys := by
  induction xs with
  | nil => simp [paidL]
  | cons x xs ih => obtain ⟨m, a⟩ := x; simp only [List.cons_append, paidL, ih]; omega
theorem paidL_take (p : Int → Bool) {xs : List (Int × Int)} {k : Nat} {m a : Int} (h : xs[k]? = some (m, a)) : paidL p (xs.take (k + 1)) = paidL p (xs.take k) + (if p m = true then a else 0) := by
  obtain ⟨hk, he⟩ := List.getElem?_eq_some_iff.1 h
  rw [List.take_succ_eq_append_getElem hk, paidL_app, he]
  simp [paidL]
def okA (xs : List (Int × Int)) : Prop := ∀ (i : Nat) (m a : Int), xs[i]? = some (m, a) → 1 ≤ a ∧ a ≤ 100000000
theorem paid_bd {p : Int → Bool} {xs : List (Int × Int)} (h : okA xs) : ∀ k : Nat, k ≤ xs.length → 0 ≤ paidL p (xs.take k) ∧ paidL p (xs.take k) ≤ 100000000 * (k : Int) := by
  intro k
  induction k with
  | zero => intro _; simp [paidL]
  | succ k ih =>
    intro hk
    have h1 := ih (by omega)
    have hx : xs[k]? = some ((xs[k]'(by omega)).1, (xs[k]'(by omega)).2) := List.getElem?_eq_getElem (by omega)
    rw [paidL_take p hx]
    have h2 := h _ _ _ hx
    split <;> omega
theorem payOk_all : ∀ {xs : List (Int × Int)} {last : Int}, payOk last xs = true → ∀ (i : Nat) (m a : Int), xs[i]? = some (m, a) → inR 0 35999 m = true ∧ last ≤ m ∧ inR 1 100000000 a = true
  | [], _, _, i, m, a, hi => by simp at hi
  | (m0, a0) :: t, last, h, i, m, a, hi => by
    have h' : ((inR 0 35999 m0 = true ∧ last ≤ m0) ∧ inR 1 100000000 a0 = true) ∧ payOk m0 t = true := by
      simpa only [payOk, Bool.and_eq_true, decide_eq_true_eq] using h
    obtain ⟨⟨⟨h1, h2⟩, h3⟩, h4⟩ := h'
    cases i with
    | zero =>
      simp only [List.getElem?_cons_zero, Option.some.injEq, Prod.mk.injEq] at hi
      obtain ⟨rfl, rfl⟩ := hi
      exact ⟨h1, h2, h3⟩
    | succ i =>
      simp only [List.getElem?_cons_succ] at hi
      obtain ⟨h5, h6, h7⟩ := payOk_all h4 i m a hi
      exact ⟨h5, by omega, h7⟩
theorem areP_split {j : Int} {xs : List (Int × Int)} (h : areP j xs = true) : inR 0 35999 j = true ∧ xs.length ≤ 100 ∧ payOk j xs = true := by
  simpa only [areP, Bool.and_eq_true, decide_eq_true_eq, and_assoc] using h
theorem areP_okA {j : Int} {xs : List (Int × Int)} (h : areP j xs = true) : okA xs := fun i m a hi => inR_iff.1 (payOk_all (areP_split h).2.2 i m a hi).2.2
theorem paidL_congr {p q : Int → Bool} {xs : List (Int × Int)} (h : ∀ (i : Nat) (m a : Int), xs[i]? = some (m, a) → p m = q m) : paidL p xs = paidL q xs := by
  induction xs with
  | nil => rfl
  | cons x xs ih =>
    obtain ⟨m, a⟩ := x
    simp only [paidL]
    rw [h 0 m a rfl, ih (fun i m' a' hi => h (i + 1) m' a' (by simpa using hi))]
set_option maxHeartbeats 2000000 in
theorem l16Paid_any (lo hi : Int) (A : Option Addr) (n c : Nat) (xs : List (Int × Int)) (w : World) (h : RdP w w.heap.size A n xs) (hA : okA xs) (hn : n ≤ 100) (hh : -1000000 ≤ hi ∧ hi ≤ 1000000) :
    Calls Try.prog 54 #[.slice A n c, .int .i64 lo, .int .i64 hi] w fun ee w' => ee = .returned (.int .i64 (paidL (inR lo (hi - 1)) xs)) ∧ w = w' := by
  have H := Lib.hid h
  have hl := Lib.hid h.len
  have HB := Lib.hid (fun k hk => paid_bd (p := inR lo (hi - 1)) hA k (by rw [h.len]; exact hk))
  have HA := Lib.hid hA
  clear h hA
  go_enter Try.func54, Try.ntmps54
  go_wp2
  go_loop [7, 8] (fun s i => ∃ k : Nat, k ≤ n ∧ i = .int .i64 k ∧ s = .int .i64 (paidL (inR lo (hi - 1)) (xs.take k))) (fun _ i => n - (intOf i).toNat)
  case atStart => exact ⟨0, Nat.zero_le _, rfl, rfl⟩
  case round =>
    obtain ⟨k, hk, rfl, rfl⟩ := hrel
    obtain ⟨hb0, hb1⟩ := HB.out k hk
    by_cases hlt : k < n
    · obtain ⟨ad, m, a, rfl, hb, hz, hx, hy⟩ := RdP.atP H.out hlt
      obtain ⟨ha1, ha2⟩ := HA.out _ _ _ hz
      have HT := Lib.hid (paidL_take (inR lo (hi - 1)) hz)
      have HM := Lib.hid (fun W => sIn_any m lo (hi - 1) W)
      clear hz
      cases hq : inR lo (hi - 1) m with
      | true =>
        rw [hq] at HM
        have HT2 := HT.out
        rw [hq, if_pos rfl] at HT2
        have HT2 := Lib.hid HT2
        clear hq HT
        go_wp2_with (go_at_call 42; (with_reducible refine (HM.out _).mono ?_); rintro ee w1 ⟨rfl, rfl⟩)
        go_round
        case rel => exact ⟨k + 1, by omega, by go_num, by rw [HT2.out]⟩
        case measure => simp [intOf]; omega
      | false =>
        rw [hq] at HM
        have HT2 := HT.out
        rw [hq, if_neg (by simp), Int.add_zero] at HT2
        have HT2 := Lib.hid HT2
        clear hq HT
        go_wp2_with (go_at_call 42; (with_reducible refine (HM.out _).mono ?_); rintro ee w1 ⟨rfl, rfl⟩)
        go_round
        case rel => exact ⟨k + 1, by omega, by go_num, by rw [HT2.out]⟩
        case measure => simp [intOf]; omega
    · obtain rfl : k = n := by omega
      have HE : Hid (xs.take k = xs) := List.take_of_length_le (by have := hl.out; omega)
      go_wp2
      go_ret
      exact ⟨by rw [HE.out]; rfl, rfl⟩
/-- the code of a member and a month -/
def memC (j c n : Int) (xs : List (Int × Int)) : Int := if inR 0 35999 j = true ∧ inR 1 1000000 c = true ∧ inR j 35999 n = true then (if areP j xs = true then 0 else 1) else 2
theorem memC_2 {j c n : Int} {xs : List (Int × Int)} (h : ¬ (inR 0 35999 j = true ∧ inR 1 1000000 c = true ∧ inR j 35999 n = true)) : Hid (memC j c n xs = 2) := by
  show _ = _
  unfold memC
  rw [if_neg h]
theorem memC_1 {j c n : Int} {xs : List (Int × Int)} (h : inR 0 35999 j = true ∧ inR 1 1000000 c = true ∧ inR j 35999 n = true) (h2 : areP j xs = false) : Hid (memC j c n xs = 1) := by
  show _ = _
  unfold memC
  rw [if_pos h, if_neg (by simp [h2])]
theorem memC_0 {j c n : Int} {xs : List (Int × Int)} (h : inR 0 35999 j = true ∧ inR 1 1000000 c = true ∧ inR j 35999 n = true) (h2 : areP j xs = true) : Hid (memC j c n xs = 0) := by
  show _ = _
  unfold memC
  rw [if_pos h, if_pos h2]
set_option maxHeartbeats 2000000 in
theorem iMem_any (j cb : Int) (A : Option Addr) (n c : Nat) (xs : List (Int × Int)) (m : Int) (w : World) (h : RdP w w.heap.size A n xs) (hm : n ≤ 1048576) : Calls Try.prog 37 #[.int .i64 j, .int .i64 cb, .slice A n c, .int .i64 m] w fun ee w' => ee = .returned (.int .i64 (memC j cb m xs)) ∧ Below w.heap.size w w' := by
  have HA := fun W hR => iAreP_any j A n c xs W hR hm
  have HJ := fun W => isMonth_any j W
  have HC := fun W => inRange_any cb 1 1000000 W
  have HM := fun W => isMonth_any m W
  have H := Lib.hid h
  clear h
  cases h1 : inR 0 35999 j with
  | false =>
    have HQ := memC_2 (c := cb) (n := m) (xs := xs) (j := j) (by simp [h1])
    rw [h1] at HJ
    have HJ := Lib.hid HJ
    clear h1 HM HC HA
    go_enter Try.func37, Try.ntmps37
    go_wp2_with (go_at_call 52; (with_reducible refine (HJ.out _).mono ?_); rintro ee w1 ⟨rfl, rfl⟩)
    (go_ret; exact ⟨by rw [HQ.out]; rfl, by go_grown⟩)
  | true =>
    rw [h1] at HJ
    have HJ := Lib.hid HJ
    cases h2 : inR 1 1000000 cb with
    | false =>
      have HQ := memC_2 (c := cb) (n := m) (xs := xs) (j := j) (by simp [h2])
      rw [h2] at HC
      have HC := Lib.hid HC
      clear h1 h2 HM HA
      go_enter Try.func37, Try.ntmps37
      go_wp2_with (first | (go_at_call 52; (with_reducible refine (HJ.out _).mono ?_); rintro ee w1 ⟨rfl, rfl⟩) | (go_at_call 44; (with_reducible refine (HC.out _).mono ?_); rintro ee w1 ⟨rfl, rfl⟩))
      (go_ret; exact ⟨by rw [HQ.out]; rfl, by go_grown⟩)
    | true =>
      rw [h2] at HC
      have HC := Lib.hid HC
      cases h3 : inR 0 35999 m with
      | false =>
        have HQ := memC_2 (c := cb) (n := m) (xs := xs) (j := j) (by rw [inR_iff] at h1; rw [inR_ff] at h3; rintro ⟨_, _, h4⟩; rw [inR_iff] at h4; omega)
        rw [h3] at HM
        have HM := Lib.hid HM
        clear h1 h2 h3 HA
        go_enter Try.func37, Try.ntmps37
        go_wp2_with (first | (go_at_call 52; (with_reducible refine (HJ.out _).mono ?_); rintro ee w1 ⟨rfl, rfl⟩) | (go_at_call 44; (with_reducible refine (HC.out _).mono ?_); rintro ee w1 ⟨rfl, rfl⟩) | (go_at_call 52; (with_reducible refine (HM.out _).mono ?_); rintro ee w1 ⟨rfl, rfl⟩))
        (go_ret; exact ⟨by rw [HQ.out]; rfl, by go_grown⟩)
      | true =>
        rw [h3] at HM
        have HM := Lib.hid HM
        by_cases h5 : m < j
        · have HQ := memC_2 (c := cb) (n := m) (xs := xs) (j := j) (by rintro ⟨_, _, h4⟩; rw [inR_iff] at h4; omega)
          clear h1 h2 h3 HA
          go_enter Try.func37, Try.ntmps37
          go_wp2_with (first | (go_at_call 52; (with_reducible refine (HJ.out _).mono ?_); rintro ee w1 ⟨rfl, rfl⟩) | (go_at_call 44; (with_reducible refine (HC.out _).mono ?_); rintro ee w1 ⟨rfl, rfl⟩) | (go_at_call 52; (with_reducible refine (HM.out _).mono ?_); rintro ee w1 ⟨rfl, rfl⟩))
          (go_ret; exact ⟨by rw [HQ.out]; rfl, by go_grown⟩)
        · have h4 : inR j 35999 m = true := by rw [inR_iff] at h3 ⊢; omega
          cases h6 : areP j xs with
          | false =>
            have HQ := memC_1 ⟨h1, h2, h4⟩ h6
            rw [h6] at HA
            have HA := Lib.hid HA
            clear h1 h2 h3 h4 h6
            go_enter Try.func37, Try.ntmps37
            go_wp2_with (first | (go_at_call 52; (with_reducible refine (HJ.out _).mono ?_); rintro ee w1 ⟨rfl, rfl⟩) | (go_at_call 44; (with_reducible refine (HC.out _).mono ?_); rintro ee w1 ⟨rfl, rfl⟩) | (go_at_call 52; (with_reducible refine (HM.out _).mono ?_); rintro ee w1 ⟨rfl, rfl⟩) | (go_at_call 26; (with_reducible refine (HA.out _ H.out).mono ?_); rintro ee w2 ⟨rfl, hb2⟩; have hB2 := bel_step (w := w) (by go_grown) hb2; have hs2 := hB2.size))
            (go_ret; exact ⟨by rw [HQ.out]; rfl, by go_grown⟩)
          | true =>
            have HQ := memC_0 ⟨h1, h2, h4⟩ h6
            rw [h6] at HA
            have HA := Lib.hid HA
            clear h1 h2 h3 h4 h6
            go_enter Try.func37, Try.ntmps37
            go_wp2_with (first | (go_at_call 52; (with_reducible refine (HJ.out _).mono ?_); rintro ee w1 ⟨rfl, rfl⟩) | (go_at_call 44; (with_reducible refine (HC.out _).mono ?_); rintro ee w1 ⟨rfl, rfl⟩) | (go_at_call 52; (with_reducible refine (HM.out _).mono ?_); rintro ee w1 ⟨rfl, rfl⟩) | (go_at_call 26; (with_reducible refine (HA.out _ H.out).mono ?_); rintro ee w2 ⟨rfl, hb2⟩; have hB2 := bel_step (w := w) (by go_grown) hb2; have hs2 := hB2.size))
            (go_ret; exact ⟨by rw [HQ.out]; rfl, by go_grown⟩)
set_option maxHeartbeats 2000000 in
theorem sMem_any (j cb : Int) (A : Option Addr) (n c : Nat) (xs : List (Int × Int)) (m : Int) (w : World) (h : RdP w w.heap.size A n xs) (hm : n ≤ 1048576) : Calls Try.prog 34 #[.int .i64 j, .int .i64 cb, .slice A n c, .int .i64 m] w fun ee w' => ee = .returned (.int .i64 (memC j cb m xs)) ∧ Below w.heap.size w w' := by
  have HA := fun W hR => sAreP_any j A n c xs W hR hm
  have HJ := fun W => l02Month_any j W
  have HC := fun W => sIn_any cb 1 1000000 W
  have HM := fun W => sIn_any m j 35999 W
  have H := Lib.hid h
  clear h
  cases h1 : inR 0 35999 j with
  | false =>
    have HQ := memC_2 (c := cb) (n := m) (xs := xs) (j := j) (by simp [h1])
    rw [h1] at HJ
    have HJ := Lib.hid HJ
    clear h1 HM HC HA
    go_enter Try.func34, Try.ntmps34
    go_wp2_with (go_at_call 53; (with_reducible refine (HJ.out _).mono ?_); rintro ee w1 ⟨rfl, rfl⟩)
    (go_ret; exact ⟨by rw [HQ.out]; rfl, by go_grown⟩)
  | true =>
    rw [h1] at HJ
    have HJ := Lib.hid HJ
    cases h2 : inR 1 1000000 cb with
    | false =>
      have HQ := memC_2 (c := cb) (n := m) (xs := xs) (j := j) (by simp [h2])
      rw [h2] at HC
      have HC := Lib.hid HC
      clear h1 h2 HM HA
      go_enter Try.func34, Try.ntmps34
      go_wp2_with (first | (go_at_call 53; (with_reducible refine (HJ.out _).mono ?_); rintro ee w1 ⟨rfl, rfl⟩) | (go_at_call 42; (with_reducible refine (HC.out _).mono ?_); rintro ee w1 ⟨rfl, rfl⟩))
      (go_ret; exact ⟨by rw [HQ.out]; rfl, by go_grown⟩)
    | true =>
      rw [h2] at HC
      have HC := Lib.hid HC
      cases h3 : inR j 35999 m with
      | false =>
        have HQ := memC_2 (c := cb) (n := m) (xs := xs) (j := j) (by simp [h3])
        rw [h3] at HM
        have HM := Lib.hid HM
        clear h1 h2 h3 HA
        go_enter Try.func34, Try.ntmps34
        go_wp2_with (first | (go_at_call 53; (with_reducible refine (HJ.out _).mono ?_); rintro ee w1 ⟨rfl, rfl⟩) | (go_at_call 42; (with_reducible refine (HC.out _).mono ?_); rintro ee w1 ⟨rfl, rfl⟩) | (go_at_call 42; (with_reducible refine (HM.out _).mono ?_); rintro ee w1 ⟨rfl, rfl⟩))
        (go_ret; exact ⟨by rw [HQ.out]; rfl, by go_grown⟩)
      | true =>
        rw [h3] at HM
        have HM := Lib.hid HM
        cases h6 : areP j xs with
        | false =>
          have HQ := memC_1 ⟨h1, h2, h3⟩ h6
          rw [h6] at HA
          have HA := Lib.hid HA
          clear h1 h2 h3 h6
          go_enter Try.func34, Try.ntmps34
          go_wp2_with (first | (go_at_call 53; (with_reducible refine (HJ.out _).mono ?_); rintro ee w1 ⟨rfl, rfl⟩) | (go_at_call 42; (with_reducible refine (HC.out _).mono ?_); rintro ee w1 ⟨rfl, rfl⟩) | (go_at_call 42; (with_reducible refine (HM.out _).mono ?_); rintro ee w1 ⟨rfl, rfl⟩) | (go_at_call 27; (with_reducible refine (HA.out _ H.out).mono ?_); rintro ee w2 ⟨rfl, hb2⟩; have hB2 := bel_step (w := w) (by go_grown) hb2; have hs2 := hB2.size))
          (go_ret; exact ⟨by rw [HQ.out]; rfl, by go_grown⟩)
        | true =>
          have HQ := memC_0 ⟨h1, h2, h3⟩ h6
          rw [h6] at HA
          have HA := Lib.hid HA
          clear h1 h2 h3 h6
          go_enter Try.func34, Try.ntmps34
          go_wp2_with (first | (go_at_call 53; (with_reducible refine (HJ.out _).mono ?_); rintro ee w1 ⟨rfl, rfl⟩) | (go_at_call 42; (with_reducible refine (HC.out _).mono ?_); rintro ee w1 ⟨rfl, rfl⟩) | (go_at_call 42; (with_reducible refine (HM.out _).mono ?_); rintro ee w1 ⟨rfl, rfl⟩) | (go_at_call 27; (with_reducible refine (HA.out _ H.out).mono ?_); rintro ee w2 ⟨rfl, hb2⟩; have hB2 := bel_step (w := w) (by go_grown) hb2; have hs2 := hB2.size))
          (go_ret; exact ⟨by rw [HQ.out]; rfl, by go_grown⟩)
end Go.Proofs.Ytnklpdckclgilaa
