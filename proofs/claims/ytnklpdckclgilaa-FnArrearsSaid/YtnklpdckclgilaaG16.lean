/-
  Contract of impl.balances: it calls the function handed over with each month and its balance, until that says true. Conditions: a member and payments that are ones; what the function keeps from call to call is I.
-/
import Derived.Test.YtnklpdckclgilaaF16
import Derived.Handy
set_option linter.unusedSimpArgs false
set_option linter.unusedVariables false
namespace Go.Proofs.Ytnklpdckclgilaa
open Go.RowKit
def tt (_ : Int) : Bool := true
theorem payOk_sorted {xs : List (Int × Int)} {last : Int} (h : payOk last xs = true) : ∀ (i i' : Nat) (m a m' a' : Int), i ≤ i' → xs[i]? = some (m, a) → xs[i']? = some (m', a') → m ≤ m' := by
  induction xs generalizing last with
  | nil => intro i i' m a m' a' _ h1; simp at h1
  | cons x t ih =>
    obtain ⟨m0, a0⟩ := x
    have h' : ((inR 0 35999 m0 = true ∧ last ≤ m0) ∧ inR 1 100000000 a0 = true) ∧ payOk m0 t = true := by
      simpa only [payOk, Bool.and_eq_true, decide_eq_true_eq] using h
    intro i i' m a m' a' hi h1 h2
    cases i with
    | zero =>
      simp only [List.getElem?_cons_zero, Option.some.injEq, Prod.mk.injEq] at h1
      obtain ⟨rfl, rfl⟩ := h1
      cases i' with
      | zero =>
        simp only [List.getElem?_cons_zero, Option.some.injEq, Prod.mk.injEq] at h2
        omega
      | succ i' =>
        simp only [List.getElem?_cons_succ] at h2
        exact (payOk_all h'.2 i' m' a' h2).2.1
    | succ i =>
      cases i' with
      | zero => omega
      | succ i' =>
        simp only [List.getElem?_cons_succ] at h1 h2
        exact ih h'.2 i i' m a m' a' (by omega) h1 h2
theorem paidL_none {p : Int → Bool} {xs : List (Int × Int)} (h : ∀ (i : Nat) (m a : Int), xs[i]? = some (m, a) → p m = false) : paidL p xs = 0 := by
  induction xs with
  | nil => rfl
  | cons x xs ih =>
    obtain ⟨m, a⟩ := x
    simp only [paidL]
    rw [if_neg (by rw [h 0 m a rfl]; simp), ih (fun i m' a' hi => h (i + 1) m' a' (by simpa using hi))]
    rfl
/-- the payments up to a month are the first ones -/
theorem paid_pre {xs : List (Int × Int)} {j M : Int} (h : payOk j xs = true) {p : Nat} (h1 : ∀ i, i < p → ∀ m a, xs[i]? = some (m, a) → m ≤ M) (h2 : ∀ m a, xs[p]? = some (m, a) → M < m) : paidL (inR j M) xs = paidL tt (xs.take p) := by
  have e : paidL (inR j M) xs = paidL (inR j M) (xs.take p) + paidL (inR j M) (xs.drop p) := by rw [← paidL_app, List.take_append_drop]
  have e1 : paidL (inR j M) (xs.take p) = paidL tt (xs.take p) := paidL_congr fun i m a hi => by
    rw [List.getElem?_take] at hi
    split at hi
    · have := h1 i (by assumption) m a hi
      have := (payOk_all h i m a hi).2.1
      exact inR_iff.2 ⟨by omega, by omega⟩
    · cases hi
  have e2 : paidL (inR j M) (xs.drop p) = 0 := paidL_none fun i m a hi => by
    rw [List.getElem?_drop] at hi
    have hp : p < xs.length := by have := (List.getElem?_eq_some_iff.1 hi).1; omega
    have hx : xs[p]? = some ((xs[p]'hp).1, (xs[p]'hp).2) := List.getElem?_eq_getElem hp
    have h3 := h2 _ _ hx
    have h4 := payOk_sorted h p (p + i) _ _ m a (by omega) hx hi
    rw [inR_ff]
    omega
  omega
/-- what balances leaves: k calls were made -/
def BalP (I : Nat → World → Prop) (stop : Nat → Bool) (T : Nat) (e : Ending) (w' : World) : Prop :=
  e = .returned (.tuple #[]) ∧ ∃ k : Nat, k ≤ T ∧ I k w' ∧ ((k = T ∧ ∀ i, i < T → stop i = false) ∨ (0 < k ∧ stop (k - 1) = true ∧ ∀ i, i < k - 1 → stop i = false))
set_option maxHeartbeats 4000000 in
theorem balances_any (I : Nat → World → Prop) (stop : Nat → Bool) (B : Nat) (K : Nat) (caps : Array Value) (eg : ∀ args w, (callFunc K args).run Try.prog w = .ok (.enter K args) w) (j cb m : Int) (A : Option Addr) (n c : Nat) (xs : List (Int × Int)) (w : World) (T : Nat) (hT : (T : Int) = m - j + 1)
    (h1 : inR 0 35999 j = true) (h2 : inR 1 1000000 cb = true) (h3 : inR j 35999 m = true) (h4 : areP j xs = true) (hI : I 0 w) (hR : ∀ k W, I k W → RdP W B A n xs)
    (hc : ∀ (k : Nat) W, k < T → (∀ i, i < k → stop i = false) → I k W → Calls Try.prog K (#[.int .i64 (j + k), .int .i64 (balL j cb (j + k) xs)] ++ caps) W fun e W' => e = .returned (.bool (stop k)) ∧ I (k + 1) W') :
    Calls Try.prog 38 #[.int .i64 j, .int .i64 cb, .slice A n c, .int .i64 m, .func (.func K) #[] caps] w (BalP I stop T) := by
  have hl := Lib.hid (hR 0 w hI).len
  have hn : n ≤ 100 := by have := (areP_split h4).2.1; have := hl.out; omega
  have hok := areP_okA h4
  have HP := Lib.hid (areP_split h4).2.2
  have HB := Lib.hid (fun k hk => paid_bd (p := tt) hok k (by rw [hl.out]; exact hk))
  have HO := Lib.hid hok
  have HR := Lib.hid hR
  have HC := Lib.hid hc
  rw [inR_iff] at h1 h2 h3
  clear hok hR hc h4
  go_enter Try.func38, Try.ntmps38
  go_wp2
  go_loopw [10, 11, 12] (fun b nx mo wr => ∃ (k p : Nat) (S : Int), k ≤ T ∧ p ≤ n ∧ mo = .int .i64 (j + (k : Int)) ∧ nx = .int .i64 (p : Int) ∧ b = .int .i64 (paidL tt (xs.take p) - S) ∧ Hid (S = cb * (k : Int)) ∧ 0 ≤ S ∧ S ≤ 1000000 * (k : Int) ∧ Hid (∀ i, i < p → ∀ q a, xs[i]? = some (q, a) → q ≤ j + (k : Int)) ∧ Hid (∀ i, i < k → stop i = false) ∧ Hid (I k wr)) (fun _ _ mo _ => (m + 1 - intOf mo).toNat)
  case atStart => exact ⟨0, 0, 0, Nat.zero_le _, Nat.zero_le _, by simp, rfl, by simp [paidL], by show (0 : Int) = _; simp, by omega, by omega, fun i hi => by omega, fun i hi => by omega, hI⟩
  case round =>
    obtain ⟨k, p, S, hk, hp, rfl, rfl, rfl, HS, hS0, hS1, HQ, HN, HI⟩ := hrel
    by_cases hlt : k < T
    · have hlt' : j + (k : Int) ≤ m := by omega
      obtain ⟨hb0, hb1⟩ := HB.out p hp
      go_wp2
      go_loop [10, 11] (fun b nx => ∃ q : Nat, q ≤ n ∧ nx = .int .i64 (q : Int) ∧ b = .int .i64 (paidL tt (xs.take q) - S - cb) ∧ Hid (∀ i, i < q → ∀ z a, xs[i]? = some (z, a) → z ≤ j + (k : Int))) (fun _ nx => n - (intOf nx).toNat)
      case atStart => exact ⟨p, hp, rfl, rfl, HQ⟩
      case round =>
        obtain ⟨q, hq, rfl, rfl, HZ⟩ := hrel
        obtain ⟨hd0, hd1⟩ := HB.out q hq
        have HRq := HR.out k wr HI.out
        have hout : (q = n ∨ ∃ z a, xs[q]? = some (z, a) ∧ j + (k : Int) < z) → paidL tt (xs.take q) - S - cb = balL j cb (j + (k : Int)) xs := fun ho => by
          have e := paid_pre (M := j + (k : Int)) HP.out HZ.out (fun z a hz => by
            rcases ho with ho | ⟨z', a', hz', ho⟩
            · have := (List.getElem?_eq_some_iff.1 hz).1; have := hl.out; omega
            · cases hz.symm.trans hz'; exact ho)
          unfold balL
          rw [e, HS.out, show j + (k : Int) - j + 1 = (k : Int) + 1 by omega, Int.mul_add, Int.mul_one]
          omega
        have HOUT := Lib.hid hout
        clear hout
        by_cases hqn : q < n
        · obtain ⟨ad, z, a, rfl, hb, hz, hx, hy⟩ := RdP.atP HRq hqn
          obtain ⟨ha1, ha2⟩ := HO.out _ _ _ hz
          have HTk := Lib.hid (paidL_take tt hz)
          have HZ2 := Lib.hid hz
          clear hz HRq
          have hqn' : (q : Int) < (n : Int) := by omega
          by_cases hzm : z ≤ j + (k : Int)
          · go_wp2
            go_round
            case rel =>
              refine ⟨q + 1, by omega, by go_num, ?_, fun i hi y b hyy => ?_⟩
              · rw [HTk.out]
                show Value.int .i64 _ = Value.int .i64 (paidL tt (xs.take q) + (if True then a else 0) - S - cb)
                rw [if_pos trivial]
                congr 1
                omega
              · rcases Nat.lt_or_ge i q with h5 | h5
                · exact HZ.out i h5 y b hyy
                · obtain rfl : i = q := by omega
                  cases hyy.symm.trans HZ2.out
                  exact hzm
            case measure => simp [intOf]; omega
          ·
            have he := HOUT.out (by first | exact .inl (by omega) | exact .inr ⟨_, _, HZ2.out, by omega⟩)
            have HX := HC.out k wr hlt HN.out HI.out
            rw [← he] at HX
            have HS2 : Hid (S + cb = cb * ((k + 1 : Nat) : Int)) := Lib.hid (by rw [HS.out, Int.natCast_succ, Int.mul_add, Int.mul_one])
            clear he HOUT
            cases hs : stop k with
            | true =>
              rw [hs] at HX
              have HK := Lib.hid hs
              have HX := Lib.hid HX
              clear hs
              go_wp2_with (go_at_fn K; refine HX.out.mono ?_; rintro e w1 ⟨rfl, hi⟩; have HI2 := Lib.hid hi; clear hi)
              go_returns
              exact ⟨rfl, k + 1, by omega, HI2.out, .inr ⟨by omega, HK.out, fun i hi => HN.out i (by omega)⟩⟩
            | false =>
              rw [hs] at HX
              have HK := Lib.hid hs
              have HX := Lib.hid HX
              clear hs
              go_wp2_with (go_at_fn K; refine HX.out.mono ?_; rintro e w1 ⟨rfl, hi⟩; have HI2 := Lib.hid hi; clear hi)
              go_roundw
              case rel => exact ⟨k + 1, q, S + cb, by omega, hq, by go_num, rfl, by congr 1; omega, HS2.out, by omega, by omega, fun i hi y b hy => by have := HZ.out i hi y b hy; omega, fun i hi => by rcases Nat.lt_or_ge i k with h5 | h5; exact HN.out i h5; (obtain rfl : i = k := by omega); exact HK.out, HI2.out⟩
              case measure => simp [intOf]; omega
        · clear HRq
          have hqn' : ¬ (q : Int) < (n : Int) := by omega
          have he := HOUT.out (by first | exact .inl (by omega) | exact .inr ⟨_, _, HZ2.out, by omega⟩)
          have HX := HC.out k wr hlt HN.out HI.out
          rw [← he] at HX
          have HS2 : Hid (S + cb = cb * ((k + 1 : Nat) : Int)) := Lib.hid (by rw [HS.out, Int.natCast_succ, Int.mul_add, Int.mul_one])
          clear he HOUT
          cases hs : stop k with
          | true =>
            rw [hs] at HX
            have HK := Lib.hid hs
            have HX := Lib.hid HX
            clear hs
            go_wp2_with (go_at_fn K; refine HX.out.mono ?_; rintro e w1 ⟨rfl, hi⟩; have HI2 := Lib.hid hi; clear hi)
            go_returns
            exact ⟨rfl, k + 1, by omega, HI2.out, .inr ⟨by omega, HK.out, fun i hi => HN.out i (by omega)⟩⟩
          | false =>
            rw [hs] at HX
            have HK := Lib.hid hs
            have HX := Lib.hid HX
            clear hs
            go_wp2_with (go_at_fn K; refine HX.out.mono ?_; rintro e w1 ⟨rfl, hi⟩; have HI2 := Lib.hid hi; clear hi)
            go_roundw
            case rel => exact ⟨k + 1, q, S + cb, by omega, hq, by go_num, rfl, by congr 1; omega, HS2.out, by omega, by omega, fun i hi y b hy => by have := HZ.out i hi y b hy; omega, fun i hi => by rcases Nat.lt_or_ge i k with h5 | h5; exact HN.out i h5; (obtain rfl : i = k := by omega); exact HK.out, HI2.out⟩
            case measure => simp [intOf]; omega
    · have hkT : k = T := by omega
      subst hkT
      have hlt' : ¬ j + (k : Int) ≤ m := by omega
      go_wp2
      go_returns
      exact ⟨rfl, k, Nat.le_refl _, HI.out, .inl ⟨rfl, HN.out⟩⟩
end Go.Proofs.Ytnklpdckclgilaa
