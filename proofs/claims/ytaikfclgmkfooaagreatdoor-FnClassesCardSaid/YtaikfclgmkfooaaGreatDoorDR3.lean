/-
  Plain law of ReadClass: both sides read the same class.
-/
import Derived.Test.YtaikfclgmkfooaaGreatDoorDR2
import Derived.Lib.ParseIntBTie
import Derived.WalkKit
set_option linter.unusedSimpArgs false
set_option linter.unusedVariables false
namespace Go.Proofs.YtaikfclgmkfooaaGreatDoor
open Go
/-- all words, read one by one -/
def nums (f : List UInt8 → Option Int) : List (List UInt8) → Option (List Int)
  | [] => some []
  | x :: r => match f x with
    | none => none
    | some n => match nums f r with
      | none => none
      | some ns => some (n :: ns)
/-- a word, as the program reads it -/
def prs (x : List UInt8) : Option Int := match Lib.parseIntB 64 x with
  | .ok v => some v
  | _ => none
/-- the places of those below 0 -/
def deadOf : Nat → List Int → List Int
  | _, [] => []
  | k, n :: r => if n < 0 then (k : Int) :: deadOf (k + 1) r else deadOf (k + 1) r
def shS (r : List Int) : List Int := r.map (fun n => if n < 0 then -n else n)
def shI (r : List Int) : List Int := r.map (fun n => if n < 0 then IntKind.i64.wrap (-n) else n)
/-- the numbers of a class's text -/
def txL (ds : List Int) : Nat → List Int → List Int
  | _, [] => []
  | k, x :: r => (if hs ds (k : Int) = true then IntKind.i64.wrap (-x) else x) :: txL ds (k + 1) r
/-- what the reference reads -/
def rdS (s : List UInt8) : Option (List Int × List Int × Int) := match nums sgn (spl s) with
  | some (n :: r) => if okC (shS r) (deadOf 0 r) n = true then some (shS r, deadOf 0 r, n) else none
  | _ => none
/-- what the program reads -/
def rdI (s : List UInt8) : Option (List Int × List Int × Int) := match nums prs (spl s) with
  | some (n :: r) => if okC (shI r) (deadOf 0 r) n = true ∧ Lib.join ((n :: txL (deadOf 0 r) 0 (shI r)).map Lib.itoa) [32] = s then some (shI r, deadOf 0 r, n) else none
  | _ => none
theorem nums_sgn : ∀ (ws : List (List UInt8)) (ns : List Int), nums sgn ws = some ns → ws = ns.map Lib.itoa ∧ ∀ n ∈ ns, -10000000000000 < n ∧ n < 10000000000000
  | [], ns, h => by injection h with h; subst h; simp
  | x :: r, ns, h => by
    unfold nums at h
    cases hx : sgn x with
    | none => rw [hx] at h; cases h
    | some n =>
      rw [hx] at h
      dsimp only at h
      cases hr : nums sgn r with
      | none => rw [hr] at h; cases h
      | some m =>
        rw [hr] at h
        injection h with h
        subst h
        obtain ⟨h1, h2⟩ := nums_sgn r m hr
        obtain ⟨h3, h4⟩ := sgn_some hx
        refine ⟨by rw [h3, h1]; rfl, fun k hk => ?_⟩
        rcases List.mem_cons.1 hk with h5 | h5
        · subst h5; exact h4
        · exact h2 k h5
theorem nums_back {f : List UInt8 → Option Int} : ∀ (ns : List Int), (∀ n ∈ ns, f (Lib.itoa n) = some n) → nums f (ns.map Lib.itoa) = some ns
  | [], _ => rfl
  | n :: r, h => by
    rw [List.map_cons, nums, h n (by simp)]
    dsimp only
    rw [nums_back r (fun k hk => h k (by simp [hk]))]
theorem nums_prs : ∀ (ws : List (List UInt8)) (ns : List Int), nums prs ws = some ns → ns.length = ws.length ∧ ∀ n ∈ ns, -9223372036854775808 ≤ n ∧ n ≤ 9223372036854775807
  | [], ns, h => by injection h with h; subst h; simp
  | x :: r, ns, h => by
    unfold nums at h
    cases hx : prs x with
    | none => rw [hx] at h; cases h
    | some n =>
      rw [hx] at h
      dsimp only at h
      cases hr : nums prs r with
      | none => rw [hr] at h; cases h
      | some m =>
        rw [hr] at h
        injection h with h
        subst h
        obtain ⟨h1, h2⟩ := nums_prs r m hr
        refine ⟨by simp [h1], fun k hk => ?_⟩
        rcases List.mem_cons.1 hk with h5 | h5
        · subst h5
          unfold prs at hx
          cases hp : Lib.parseIntB 64 x with
          | ok v =>
            rw [hp] at hx
            injection hx with hx
            subst hx
            have h6 := Lib.parseIntB_bounds hp
            have h7 : ((2 ^ (64 - 1) : Nat) : Int) = 9223372036854775808 := by decide
            rw [h7] at h6
            omega
          | _ => rw [hp] at hx; cases hx
        · exact h2 k h5
theorem deadOf_mem : ∀ (r : List Int) (k : Nat) (x : Int), x ∈ deadOf k r ↔ ∃ j n, r[j]? = some n ∧ n < 0 ∧ x = ((k + j : Nat) : Int)
  | [], k, x => by simp [deadOf]
  | n :: r, k, x => by
    have ih := deadOf_mem r (k + 1) x
    constructor
    · intro h
      unfold deadOf at h
      split at h
      · next hn =>
        rcases List.mem_cons.1 h with h1 | h1
        · exact ⟨0, n, rfl, hn, by simpa using h1⟩
        · obtain ⟨j, m, h2, h3, h4⟩ := ih.1 h1
          exact ⟨j + 1, m, by simpa using h2, h3, by rw [h4]; congr 1; omega⟩
      · obtain ⟨j, m, h2, h3, h4⟩ := ih.1 h
        exact ⟨j + 1, m, by simpa using h2, h3, by rw [h4]; congr 1; omega⟩
    · rintro ⟨j, m, h2, h3, h4⟩
      unfold deadOf
      cases j with
      | zero =>
        simp at h2
        subst h2
        rw [if_pos h3, h4]
        simp
      | succ j =>
        have h5 := ih.2 ⟨j, m, by simpa using h2, h3, by rw [h4]; congr 1; omega⟩
        split
        · exact List.mem_cons_of_mem _ h5
        · exact h5
theorem wrap_in {x : Int} (h : -9223372036854775808 ≤ x ∧ x ≤ 9223372036854775807) : IntKind.i64.wrap x = x := IntWalk.i64_in x (by omega)
/-- the text's numbers are those that were read -/
theorem txL_back (ds : List Int) : ∀ (r : List Int) (k : Nat), (∀ n ∈ r, -10000000000000 < n ∧ n < 10000000000000) → (∀ j n, r[j]? = some n → (hs ds ((k + j : Nat) : Int) = true ↔ n < 0)) → txL ds k (shI r) = r
  | [], _, _, _ => rfl
  | n :: r, k, hb, hd => by
    have h0 := hd 0 n rfl
    rw [Nat.add_zero] at h0
    have hn := hb n (by simp)
    have ih := txL_back ds r (k + 1) (fun m hm => hb m (by simp [hm])) (fun j m hj => by
      have := hd (j + 1) m (by simpa using hj)
      rw [show k + (j + 1) = k + 1 + j by omega] at this
      exact this)
    show (if hs ds (k : Int) = true then IntKind.i64.wrap (-(if n < 0 then IntKind.i64.wrap (-n) else n)) else (if n < 0 then IntKind.i64.wrap (-n) else n)) :: txL ds (k + 1) (shI r) = _
    rw [ih]
    congr 1
    by_cases h1 : n < 0
    · rw [if_pos (h0.2 h1), if_pos h1, wrap_in (x := -n) (by omega), wrap_in (by omega)]
      omega
    · rw [if_neg (fun e => h1 (h0.1 e)), if_neg h1]
theorem sh_same {r : List Int} (hb : ∀ n ∈ r, -10000000000000 < n ∧ n < 10000000000000) : shI r = shS r := by
  unfold shI shS
  refine List.map_congr_left fun n hn => ?_
  have := hb n hn
  split
  · rw [wrap_in (by omega)]
  · rfl
theorem tx_same {r : List Int} (hb : ∀ n ∈ r, -10000000000000 < n ∧ n < 10000000000000) : txL (deadOf 0 r) 0 (shI r) = r := by
  refine txL_back _ r 0 hb (fun j n hj => ?_)
  rw [hs_iff, deadOf_mem]
  constructor
  · rintro ⟨i, m, h1, h2, h3⟩
    have : j = i := by omega
    subst this
    rw [hj] at h1
    injection h1 with h1
    omega
  · intro h
    exact ⟨j, n, hj, h, rfl⟩
theorem rd_same (s : List UInt8) : rdI s = rdS s := by
  have hfree : ∀ (ns : List Int), ∀ x ∈ ns.map Lib.itoa, (32 : UInt8) ∉ x := fun ns x hx => by
    obtain ⟨n, _, rfl⟩ := List.mem_map.1 hx
    exact itoa_free n
  have hprs : ∀ n : Int, (-9223372036854775808 ≤ n ∧ n ≤ 9223372036854775807) → prs (Lib.itoa n) = some n := fun n h => by
    unfold prs
    rw [parse_itoa h.1 h.2]
  -- what one side gives, the other gives
  have hA : ∀ c, rdS s = some c → rdI s = some c := by
    intro c h
    unfold rdS at h
    split at h
    · next n r hn =>
      split at h
      · next hok =>
        obtain ⟨h1, h2⟩ := nums_sgn _ _ hn
        have hr : ∀ m ∈ r, -10000000000000 < m ∧ m < 10000000000000 := fun m hm => h2 m (by simp [hm])
        have h3 : nums prs (spl s) = some (n :: r) := by rw [h1]; exact nums_back _ (fun m hm => hprs m (by have := h2 m hm; omega))
        have hj : Lib.join ((n :: txL (deadOf 0 r) 0 (shI r)).map Lib.itoa) [32] = s := by
          rw [tx_same hr, ← h1]
          exact join_spl s
        unfold rdI
        rw [h3]
        dsimp only
        rw [if_pos ⟨by rw [sh_same hr]; exact hok, hj⟩, sh_same hr]
        exact h
      · cases h
    · cases h
  have hB : ∀ c, rdI s = some c → rdS s = some c := by
    intro c h
    unfold rdI at h
    split at h
    · next n r hn =>
      split at h
      · next hok =>
        obtain ⟨h1, h2⟩ := nums_prs _ _ hn
        have hk := okC_iff.1 hok.1
        have hr : ∀ m ∈ r, -10000000000000 < m ∧ m < 10000000000000 := by
          intro m hm
          have h3 := h2 m (by simp [hm])
          have h4 : (if m < 0 then IntKind.i64.wrap (-m) else m) ∈ shI r := List.mem_map.2 ⟨m, hm, rfl⟩
          have h5 := inR_iff.1 (List.all_eq_true.1 hk.2.1 _ h4)
          by_cases h6 : m < 0
          · rw [if_pos h6] at h5
            by_cases h7 : m = -9223372036854775808
            · subst h7
              exact absurd h5.1 (by decide)
            · rw [wrap_in (by omega)] at h5
              omega
          · rw [if_neg h6] at h5
            omega
        have hall : ∀ m ∈ n :: r, -1000000000000 ≤ m ∧ m ≤ 1000000000000 := by
          intro m hm
          rcases List.mem_cons.1 hm with h3 | h3
          · subst h3
            have := hk.2.2.2.1
            omega
          · have h4 : (if m < 0 then IntKind.i64.wrap (-m) else m) ∈ shI r := List.mem_map.2 ⟨m, h3, rfl⟩
            have h5 := inR_iff.1 (List.all_eq_true.1 hk.2.1 _ h4)
            have h6 := hr m h3
            by_cases h7 : m < 0
            · rw [if_pos h7, wrap_in (by omega)] at h5
              omega
            · rw [if_neg h7] at h5
              omega
        have h3 : spl s = (n :: r).map Lib.itoa := by
          rw [← hok.2, tx_same hr]
          exact spl_join _ (by simp) (hfree _)
        have h4 : nums sgn (spl s) = some (n :: r) := by rw [h3]; exact nums_back _ (fun m hm => by have := hall m hm; exact sgn_itoa this.1 this.2)
        unfold rdS
        rw [h4]
        dsimp only
        rw [← sh_same hr, if_pos hok.1]
        exact h
      · cases h
    · cases h
  cases hI : rdI s with
  | some c => exact (hB c hI).symm
  | none =>
    cases hS : rdS s with
    | none => rfl
    | some c => rw [hA c hS] at hI; cases hI
end Go.Proofs.YtaikfclgmkfooaaGreatDoor
