/-
  Plain law of ReadClass: words, numerals. No program is named here.
-/
import Derived.Lib.Split
import Derived.Lib.SplitLaws
import Derived.Lib.Join
import Derived.Lib.ItoaNum
import Derived.Lib.ItoaMem
import Derived.Lib.ParseIntB
set_option linter.unusedSimpArgs false
set_option linter.unusedVariables false
namespace Go.Proofs.YtaikfclgmkfooaaGreatDoor
open Go
/-- a text, cut at its blanks -/
def spl : List UInt8 → List (List UInt8)
  | [] => [[]]
  | c :: r => if c = 32 then [] :: spl r else match spl r with
    | [] => [[c]]
    | h :: t => (c :: h) :: t
theorem spl_ne : ∀ l, spl l ≠ []
  | [] => by simp [spl]
  | c :: r => by
    unfold spl
    split
    · simp
    · split <;> simp
theorem spl_free : ∀ l, ∀ x ∈ spl l, (32 : UInt8) ∉ x
  | [], x, hx => by simp [spl] at hx; subst hx; simp
  | c :: r, x, hx => by
    have ih := spl_free r
    unfold spl at hx
    split at hx
    · rcases List.mem_cons.1 hx with h | h
      · subst h; simp
      · exact ih x h
    · next hc =>
      split at hx
      · simp at hx; subst hx; simp; exact fun e => hc e.symm
      · next h t he =>
        rcases List.mem_cons.1 hx with h1 | h1
        · subst h1
          have h2 := ih h (by rw [he]; simp)
          simp only [List.mem_cons, not_or]
          exact ⟨fun e => hc e.symm, h2⟩
        · exact ih x (by rw [he]; simp [h1])
theorem spl_word : ∀ (x : List UInt8), (32 : UInt8) ∉ x → spl x = [x]
  | [], _ => rfl
  | c :: r, h => by
    have h1 : ¬ c = 32 := fun e => h (by simp [e])
    unfold spl
    rw [if_neg h1, spl_word r (fun e => h (by simp [e]))]
theorem spl_blank : ∀ (x r : List UInt8), (32 : UInt8) ∉ x → spl (x ++ 32 :: r) = x :: spl r
  | [], r, _ => by show spl (32 :: r) = _; rw [spl, if_pos rfl]
  | c :: x, r, h => by
    have h1 : ¬ c = 32 := fun e => h (by simp [e])
    show spl (c :: (x ++ 32 :: r)) = _
    rw [spl, if_neg h1, spl_blank x r (fun e => h (by simp [e]))]
theorem join_two (x y : List UInt8) (r : List (List UInt8)) : Lib.join (x :: y :: r) [32] = x ++ 32 :: Lib.join (y :: r) [32] := by
  rw [Lib.join_cons, Lib.join_cons]
  simp [Lib.joinTail]
/-- words that hold no blank come back -/
theorem spl_join : ∀ (ws : List (List UInt8)), ws ≠ [] → (∀ x ∈ ws, (32 : UInt8) ∉ x) → spl (Lib.join ws [32]) = ws
  | [], h, _ => absurd rfl h
  | [x], _, h => by rw [Lib.join_one]; exact spl_word x (h x (by simp))
  | x :: y :: r, _, h => by
    rw [join_two, spl_blank x _ (h x (by simp)), spl_join (y :: r) (by simp) (fun z hz => h z (by simp [hz]))]
/-- the words, joined, are the text -/
theorem join_spl : ∀ l, Lib.join (spl l) [32] = l
  | [] => Lib.join_one _ _
  | c :: r => by
    have ih := join_spl r
    unfold spl
    split
    · next hc =>
      cases hs : spl r with
      | nil => exact absurd hs (spl_ne r)
      | cons h t =>
        rw [join_two, ← hs, ih, hc]
        rfl
    · split
      · next he => exact absurd he (spl_ne r)
      · next h t he =>
        rw [he] at ih
        cases t with
        | nil => rw [Lib.join_one] at ih ⊢; rw [ih]
        | cons y t => rw [join_two] at ih ⊢; rw [← ih]; rfl
/-- the library's cutting is this one -/
theorem split_spl : ∀ s : List UInt8, Lib.splitK [32] 0 (Lib.count s [32]) s = spl s
  | [] => by rfl
  | c :: r => by
    have ih := split_spl r
    by_cases hc : c = 32
    · subst hc
      rw [Lib.count_cons_eq, Nat.add_comm, spl, if_pos rfl, Lib.splitK]
      have h0 : Lib.index (32 :: r) [32] = 0 := by simp [Lib.index, List.isPrefixOf]
      rw [h0, if_neg (by decide)]
      show [] :: Lib.splitK [32] 0 (Lib.count r [32]) r = _
      rw [ih]
    · rw [Lib.count_cons_ne c 32 r hc, spl, if_neg hc]
      have hi : Lib.index (c :: r) [32] = if Lib.index r [32] == -1 then -1 else Lib.index r [32] + 1 := by
        have h1 : List.isPrefixOf [32] (c :: r) = false := by simp [List.isPrefixOf]; exact fun e => hc e.symm
        rw [Lib.index, h1]
        rfl
      cases hk : Lib.count r [32] with
      | zero =>
        rw [hk] at ih
        have h2 : spl r = [r] := by rw [← ih]; rfl
        rw [h2]
        rfl
      | succ j =>
        rw [hk] at ih
        rw [Lib.splitK] at ih ⊢
        rw [hi]
        by_cases hm : (Lib.index r [32] == -1) = true
        · rw [if_pos hm] at ih
          rw [if_pos hm, ← ih]
          rfl
        · rw [if_neg hm] at ih
          have hg := Lib.index_ge r [32]
          have hne : Lib.index r [32] ≠ -1 := fun e => hm (by rw [e]; rfl)
          rw [if_neg hm, if_neg (by rw [beq_iff_eq]; omega), ← ih]
          have e1 : (Lib.index r [32] + 1).toNat = (Lib.index r [32]).toNat + 1 := by omega
          rw [e1]
          rfl
/-- digits of a numeral -/
theorem dec_digit : ∀ (u : Nat), (∀ c ∈ Lib.decDigits u, 48 ≤ c.toNat ∧ c.toNat ≤ 57) ∧ Lib.decDigits u ≠ [] := by
  intro u
  induction u using Nat.strongRecOn with
  | ind u ih =>
    have hd : ∀ d, d < 10 → (UInt8.ofNat (48 + d)).toNat = 48 + d := fun d hd => by
      rw [UInt8.toNat_ofNat']
      omega
    rw [Lib.decDigits]
    split
    · next h =>
      refine ⟨fun c hc => ?_, by simp⟩
      rw [List.mem_singleton] at hc
      subst hc
      rw [hd u h]
      omega
    · next h =>
      refine ⟨fun c hc => ?_, by simp⟩
      rcases List.mem_append.1 hc with h1 | h1
      · exact (ih (u / 10) (by omega)).1 c h1
      · rw [List.mem_singleton] at h1
        subst h1
        rw [hd (u % 10) (by omega)]
        omega
theorem parse_app (M : Nat) : ∀ (l : List UInt8) (acc : Nat) (c : UInt8), Lib.parseUintM M acc (l ++ [c]) = match Lib.parseUintM M acc l with
    | .ok a => Lib.parseUintM M a [c]
    | x => x
  | [], acc, c => by simp only [List.nil_append, Lib.parseUintM]
  | b :: r, acc, c => by
    simp only [List.cons_append]
    rw [Lib.parseUintM, Lib.parseUintM]
    split
    · split
      · rfl
      · split
        · rfl
        · exact parse_app M r _ c
    · rfl
theorem parse_dec : ∀ (u : Nat), u ≤ 18446744073709551615 → Lib.parseUintM 18446744073709551615 0 (Lib.decDigits u) = .ok u := by
  intro u
  induction u using Nat.strongRecOn with
  | ind u ih =>
    intro hu
    have hd : ∀ d, d < 10 → (UInt8.ofNat (48 + d)).toNat = 48 + d := fun d hd => by
      rw [UInt8.toNat_ofNat']
      omega
    rw [Lib.decDigits]
    split
    · next h =>
      rw [Lib.parseUintM, hd u h, if_pos (by omega), if_neg (by omega), if_neg (by omega), Lib.parseUintM]
      congr 1
      omega
    · next h =>
      rw [parse_app, ih (u / 10) (by omega) (by omega)]
      show Lib.parseUintM _ (u / 10) [UInt8.ofNat (48 + u % 10)] = _
      rw [Lib.parseUintM, hd (u % 10) (by omega), if_pos (by omega), if_neg (by omega), if_neg (by omega), Lib.parseUintM]
      congr 1
      omega
/-- a numeral is read as its number -/
theorem parse_itoa {n : Int} (h0 : -9223372036854775808 ≤ n) (h1 : n ≤ 9223372036854775807) : Lib.parseIntB 64 (Lib.itoa n) = .ok n := by
  have hM : (2 : Nat) ^ 64 - 1 = 18446744073709551615 := by decide
  have hM2 : (2 : Nat) ^ (64 - 1) = 9223372036854775808 := by decide
  by_cases hn : n < 0
  · obtain ⟨u, rfl⟩ : ∃ u : Nat, n = -(u : Int) := ⟨n.natAbs, by omega⟩
    rw [Lib.itoa_neg u (by omega)]
    unfold Lib.parseIntB
    have hne := (dec_digit u).2
    have hp := parse_dec u (by omega)
    have h45 : (45 : UInt8).toNat = 45 := rfl
    simp only [h45, or_true, if_true, Lib.parseUintB, hne, if_false, hM, hM2, hp, not_true_eq_false, false_and, true_and]
    rw [if_neg (by omega)]
  · obtain ⟨u, rfl⟩ : ∃ u : Nat, n = (u : Int) := ⟨n.toNat, by omega⟩
    rw [Lib.itoa_nonneg]
    obtain ⟨hdg, hne⟩ := dec_digit u
    have hp := parse_dec u (by omega)
    unfold Lib.parseIntB
    cases hl : Lib.decDigits u with
    | nil => exact absurd hl hne
    | cons c r =>
      rw [hl] at hp hdg
      have hc := hdg c (by simp)
      have hs : ¬ c.toNat = 43 := by omega
      have hs2 : ¬ c.toNat = 45 := by omega
      simp only [hs, hs2, or_self, if_false, Lib.parseUintB, hM, hM2, hp, not_false_eq_true, true_and, false_and, List.cons_ne_nil, reduceCtorEq]
      rw [if_neg (by omega)]
/-- a numeral holds no blank -/
theorem itoa_free (n : Int) : (32 : UInt8) ∉ Lib.itoa n := by
  intro h
  unfold Lib.itoa at h
  split at h
  · rcases List.mem_cons.1 h with h1 | h1
    · exact absurd h1 (by decide)
    · have h2 := (dec_digit _).1 _ h1
      have h3 : (32 : UInt8).toNat = 32 := rfl
      omega
  · have h2 := (dec_digit _).1 _ h
    have h3 : (32 : UInt8).toNat = 32 := rfl
    omega
end Go.Proofs.YtaikfclgmkfooaaGreatDoor
