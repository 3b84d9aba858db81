/-
  Contracts of chapter 13: burying, the reference's side.
-/
import Derived.Test.YtmhbkabdiciakaaDoorD1
import Derived.Test.YtmhbkabdiciakaaDoorQ
set_option linter.unusedSimpArgs false
set_option linter.unusedVariables false
namespace Go.Proofs.YtmhbkabdiciakaaDoor
open Go.RowKit
/-- two operations may come up -/
theorem wpAnyD_two {P : Program} {ops : Array Oper} {Q : Exit → Act → World → Prop} {S : World → Prop} {md : Region.Mode} {L i j : Nat} {oi oj : Oper} {fuel : Nat} {listed : Array Bool} {a : Act} {w : World} (hi : ops[i]? = some oi) (hj : ops[j]? = some oj) (hr : Region.ready md ops listed = [i, j])
    (h1 : ∀ K : Act → World → Prop, (∀ a' w', (i ≠ L → S w') → wpAnyD P md ops Q S L fuel (listed.setIfInBounds i true) a' w' → K a' w') → if Region.wanted oi (yielded ops a.tmps) = true then oi.wp P a w K Q else K (a.put oi.dst undef) w)
    (h2 : ∀ K : Act → World → Prop, (∀ a' w', (j ≠ L → S w') → wpAnyD P md ops Q S L fuel (listed.setIfInBounds j true) a' w' → K a' w') → if Region.wanted oj (yielded ops a.tmps) = true then oj.wp P a w K Q else K (a.put oj.dst undef) w) : wpAnyD P md ops Q S L (fuel + 1) listed a w := by
  refine ⟨fun h0 => (by rw [hr] at h0; cases h0), fun k hk => ?_⟩
  rw [hr] at hk
  have hk2 : k = i ∨ k = j := by simpa using hk
  rcases hk2 with rfl | rfl
  · have h1 := h1 (fun a' w' => (k ≠ L → S w') ∧ wpAnyD P md ops Q S L fuel (listed.setIfInBounds k true) a' w') (fun a' w' h2 h3 => ⟨h2, h3⟩)
    unfold wpOp
    simp only [hi]
    split
    · next hw => rw [if_pos hw] at h1; exact .inl h1
    · next hw => rw [if_neg hw] at h1; exact h1
  · have h1 := h2 (fun a' w' => (k ≠ L → S w') ∧ wpAnyD P md ops Q S L fuel (listed.setIfInBounds k true) a' w') (fun a' w' h2 h3 => ⟨h2, h3⟩)
    unfold wpOp
    simp only [hj]
    split
    · next hw => rw [if_pos hw] at h1; exact .inl h1
    · next hw => rw [if_neg hw] at h1; exact h1
/-- the code of putting in -/
def bR (ds ms : List Int) : Int := if incB (srt (ds ++ ms)) = true then 0 else 5
theorem bR_none {ds ms : List Int} (hd : ds.Pairwise (· < ·)) (h : buR ds ms = none) : Hid (bR ds ms = 5) := by
  show _ = _
  rw [buR_eq ms ds hd] at h
  unfold bR
  split
  · next h1 => rw [if_pos h1] at h; cases h
  · rfl
theorem bR_some {ds ms cur : List Int} (hd : ds.Pairwise (· < ·)) (h : buR ds ms = some cur) : Hid (bR ds ms = 0) ∧ cur = srt (ds ++ ms) := by
  rw [buR_eq ms ds hd] at h
  have hb : bR ds ms = 0 := by
    unfold bR
    split
    · rfl
    · next h1 => rw [if_neg h1] at h; cases h
  split at h
  · next h1 => injection h with h; exact ⟨hb, h.symm⟩
  · next h1 => cases h
theorem cutI {w : World} {B : Nat} {A : Option Addr} {n cap k : Nat} {xs : List Int} (h : RdI w B A n xs) (hk : k ≤ n) (hc : n ≤ cap) : RdI w B (if cap = k then A else A.map (fun x => x.add k)) (n - k) (xs.drop k) := by
  have h2 := RdS.cut h hk hc
  simp only [Nat.mul_one] at h2
  exact h2
theorem cutI_none {A : Option Addr} {cap k : Nat} (h : A = none → cap = 0) : (if cap = k then A else A.map (fun x => x.add k)) = none → cap - k = 0 := by
  intro e
  by_cases hk : cap = k
  · omega
  · rw [if_neg hk] at e
    cases A with
    | none => have := h rfl; omega
    | some a => cases e
theorem own_cap1 {w : World} {base : Nat} {A : Option Addr} {n c : Nat} {zs : List Int} (h : OwI w base (.slice A n c) zs) : n ≤ c ∧ c ≤ maxLen := by
  rcases h.form with ⟨h1, h2⟩ | ⟨g, cap, h1, _, _, h3, h4⟩
  · injection h1 with h1 h2 h3; subst h2 h3; exact ⟨Nat.le_refl _, Nat.zero_le _⟩
  · injection h1 with h1 h2 h5; subst h2 h5; exact ⟨h3, h4⟩
end Go.Proofs.YtmhbkabdiciakaaDoor
