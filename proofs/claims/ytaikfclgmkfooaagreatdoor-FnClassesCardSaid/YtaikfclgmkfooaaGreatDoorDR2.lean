/-
  Plain law of ReadClass: both sides read the same class.
-/
import Derived.Test.YtaikfclgmkfooaaGreatDoorDR1
import Derived.Test.YtaikfclgmkfooaaGreatDoorA1
set_option linter.unusedSimpArgs false
set_option linter.unusedVariables false
namespace Go.Proofs.YtaikfclgmkfooaaGreatDoor
open Go
def isD (c : UInt8) : Bool := decide (48 ≤ c.toNat ∧ c.toNat ≤ 57)
/-- what digits spell -/
def vlN (l : List UInt8) : Nat := l.foldl (fun a c => 10 * a + (c.toNat - 48)) 0
theorem vlN_app (l : List UInt8) (c : UInt8) : vlN (l ++ [c]) = 10 * vlN l + (c.toNat - 48) := by unfold vlN; rw [List.foldl_append]; rfl
theorem vlN_dec : ∀ u : Nat, vlN (Lib.decDigits u) = u := by
  intro u
  induction u using Nat.strongRecOn with
  | ind u ih =>
    have hd : ∀ d, d < 10 → (UInt8.ofNat (48 + d)).toNat = 48 + d := fun d hd => by
      rw [UInt8.toNat_ofNat']
      omega
    rw [Lib.decDigits]
    split
    · next h =>
      show 10 * 0 + ((UInt8.ofNat (48 + u)).toNat - 48) = u
      rw [hd u h]
      omega
    · next h =>
      rw [vlN_app, ih (u / 10) (by omega), hd (u % 10) (by omega)]
      omega
theorem dec_len : ∀ (k u : Nat), u < 10 ^ (k + 1) → (Lib.decDigits u).length ≤ k + 1
  | 0, u, h => by rw [Lib.decDigits, dif_pos (by simpa using h)]; simp
  | k + 1, u, h => by
    rw [Lib.decDigits]
    split
    · simp
    · have h1 := dec_len k (u / 10) (by rw [Nat.pow_succ] at h; omega)
      simp
      omega
/-- a number of at least 0, as the reference reads it -/
def dgt (l : List UInt8) : Option Int := if (1 ≤ l.length ∧ l.length ≤ 13) ∧ l.all isD = true ∧ Lib.decDigits (vlN l) = l then some (vlN l : Int) else none
/-- a number, as the reference reads it -/
def sgn (l : List UInt8) : Option Int := match l with
  | [] => none
  | c :: r => if c = 45 then (match dgt r with | some n => if 0 < n then some (-n) else none | none => none) else dgt (c :: r)
theorem sgn_neg (r : List UInt8) : sgn (45 :: r) = (match dgt r with | some n => if 0 < n then some (-n) else none | none => none) := rfl
theorem sgn_pos {c : UInt8} (r : List UInt8) (h : ¬ c = 45) : sgn (c :: r) = dgt (c :: r) := by unfold sgn; dsimp only; rw [if_neg h]
theorem dgt_dec {u : Nat} (h : (Lib.decDigits u).length ≤ 13) : dgt (Lib.decDigits u) = some (u : Int) := by
  obtain ⟨h1, h2⟩ := dec_digit u
  unfold dgt
  rw [vlN_dec, if_pos]
  refine ⟨⟨?_, h⟩, ?_, rfl⟩
  · cases hl : Lib.decDigits u with
    | nil => exact absurd hl h2
    | cons c r => simp
  · rw [List.all_eq_true]
    intro c hc
    exact decide_eq_true (h1 c hc)
theorem dgt_some {l : List UInt8} {n : Int} (h : dgt l = some n) : ∃ u : Nat, n = (u : Int) ∧ l = Lib.decDigits u ∧ l.length ≤ 13 := by
  unfold dgt at h
  split at h
  · next h1 =>
    injection h with h
    exact ⟨vlN l, h.symm, h1.2.2.symm, h1.1.2⟩
  · cases h
theorem sgn_itoa {n : Int} (h0 : -1000000000000 ≤ n) (h1 : n ≤ 1000000000000) : sgn (Lib.itoa n) = some n := by
  by_cases hn : n < 0
  · obtain ⟨u, rfl⟩ : ∃ u : Nat, n = -(u : Int) := ⟨n.natAbs, by omega⟩
    rw [Lib.itoa_neg u (by omega)]
    rw [sgn_neg, dgt_dec (dec_len 12 u (by omega))]
    show (if (0 : Int) < (u : Int) then _ else _) = _
    rw [if_pos (by omega)]
  · obtain ⟨u, rfl⟩ : ∃ u : Nat, n = (u : Int) := ⟨n.toNat, by omega⟩
    rw [Lib.itoa_nonneg]
    have hd := dgt_dec (dec_len 12 u (by omega))
    obtain ⟨hdg, hne⟩ := dec_digit u
    cases hl : Lib.decDigits u with
    | nil => exact absurd hl hne
    | cons c r =>
      rw [hl] at hd hdg
      have hc := hdg c (by simp)
      have h45 : ¬ c = 45 := fun e => by subst e; exact absurd hc.1 (by decide)
      rw [sgn_pos r h45, hd]
theorem sgn_some {l : List UInt8} {n : Int} (h : sgn l = some n) : l = Lib.itoa n ∧ (-10000000000000 < n ∧ n < 10000000000000) := by
  have hb : ∀ (u : Nat), (Lib.decDigits u).length ≤ 13 → u < 10000000000000 := by
    intro u hu
    rcases Nat.lt_or_ge u 10000000000000 with h1 | h1
    · exact h1
    · exfalso
      have hge : ∀ (k v : Nat), 10 ^ k ≤ v → k + 1 ≤ (Lib.decDigits v).length := by
        intro k
        induction k with
        | zero => intro v _; have := (dec_digit v).2; cases hl : Lib.decDigits v with
          | nil => exact absurd hl this
          | cons c r => simp
        | succ k ih =>
          intro v hv
          rw [Nat.pow_succ] at hv
          have hp : 1 ≤ 10 ^ k := Nat.pos_of_ne_zero (by simp)
          rw [Lib.decDigits, dif_neg (by omega)]
          have := ih (v / 10) (by omega)
          simp
          omega
      have := hge 13 u (by omega)
      omega
  cases l with
  | nil => cases h
  | cons c r =>
    by_cases hc : c = 45
    · subst hc
      rw [sgn_neg] at h
      cases hd : dgt r with
      | none => rw [hd] at h; cases h
      | some m =>
        rw [hd] at h
        dsimp only at h
        split at h
        · next hm =>
          injection h with h
          obtain ⟨u, rfl, h2, h3⟩ := dgt_some hd
          subst h
          have := hb u (by rw [← h2]; exact h3)
          rw [h2, Lib.itoa_neg u (by omega)]
          exact ⟨rfl, by omega, by omega⟩
        · cases h
    · rw [sgn_pos r hc] at h
      obtain ⟨u, rfl, h2, h3⟩ := dgt_some h
      have := hb u (by rw [← h2]; exact h3)
      rw [h2, Lib.itoa_nonneg]
      exact ⟨rfl, by omega, by omega⟩
end Go.Proofs.YtaikfclgmkfooaaGreatDoor
