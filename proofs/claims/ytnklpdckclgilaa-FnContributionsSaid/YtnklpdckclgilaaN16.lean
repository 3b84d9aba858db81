/-
  Chapter 16, for the law of contributions: a list put behind one payment; what one more payment does to arrears and to lapsing.
-/
import Derived.Test.YtnklpdckclgilaaI16
import Derived.Test.YtnklpdckclgilaaQ16
import Derived.Laws.AppendOwnNone
set_option linter.unusedSimpArgs false
set_option linter.unusedVariables false
namespace Go.Proofs.Ytnklpdckclgilaa
open Go.RowKit
theorem flat_split : ∀ (xs : List (Int × Int)) (j : Nat) (u : Value), (xs.flatMap enP)[j]? = some u → ∃ (i : Nat) (x : Int × Int) (t : Nat), xs[i]? = some x ∧ (enP x)[t]? = some u ∧ j = i * 2 + t
  | [], j, u, h => by simp at h
  | x :: r, j, u, h => by
    rw [List.flatMap_cons] at h
    match j, h with
    | 0, h => exact ⟨0, x, 0, rfl, by simpa [enP] using h, rfl⟩
    | 1, h => exact ⟨0, x, 1, rfl, by simpa [enP] using h, rfl⟩
    | j + 2, h =>
      obtain ⟨i, y, t, h1, h2, h3⟩ := flat_split r j u (by simpa [enP] using h)
      exact ⟨i + 1, y, t, by simpa using h1, h2, by omega⟩
theorem wpl_app_pays {ops : Array Oper} {rest : List Oper} {o : Oper} {a : Act} {Q : Exit → Act → World → Prop} {w : World} (hgd : o.guard = none) (s x : Operand)
    (ho : o.op = .call { callee := .builtin .append, args := #[s, x], argTypes := #[26, 26] })
    (base : Nat) (zs : List (Int × Int)) (v : Value) (hs : a.eval s = v) (hown : OwP w base v zs) (B : Nat) (A : Option Addr) (m c : Nat) (src : List (Int × Int)) (hx : a.eval x = .slice A m c) (hr : RdP w B A m src) (hA : A = none → c = 0) (hl : zs.length + m ≤ 1000000) (hbase : base ≤ w.heap.size)
    (h : ∀ v' w', OwP w' base v' (zs ++ src) → w.grownBy w' v.ownBlock → wpList Try.prog ops Q rest (a.put o.dst v') w') : wpList Try.prog ops Q (o :: rest) a w := by
  have HN : (Try.prog.info? 43).map (fun i => (i.zero, i.size, i.bytes)) = some (some (.agg #[.int .i64 0, .int .i64 0]), 2, 16) := by kernel_rfl
  obtain ⟨i0, hi, hz0, hz1, hz2⟩ := info_parts HN
  cases A with
  | none =>
    have hm : m = 0 := by
      rcases Nat.eq_zero_or_pos m with h0 | h0
      · exact h0
      · obtain ⟨ad, h1, _⟩ := hr.2 h0
        cases h1
    have hsrc : src = [] := List.eq_nil_of_length_eq_zero (by rw [hr.len, hm])
    have hc := hA rfl
    subst hm hc hsrc
    refine wpList_append_own_none hgd s x 26 ho base 43 i0 2 Try.underlying26 hi v zs.length (zs.flatMap enP) hs hown hx ?_
    exact h v w (by rw [List.append_nil]; exact hown) (World.grownBy.refl _ _)
  | some ad =>
    refine wpList_append_own w hgd s x 26 ho base 43 i0 (.agg #[.int .i64 0, .int .i64 0]) 2 16 Try.underlying26 hi hz0 hz1 hz2 rfl (by decide) v zs.length (zs.flatMap enP) hs hown ad m c (src.flatMap enP) hx (by rw [flat_len, hr.len]) ?_ ?_ ?_ ?_ hbase ?_
    · intro j u hj
      obtain ⟨i, y, t, h1, h2, rfl⟩ := flat_split src j u hj
      have hm : 0 < m := by have := (List.getElem?_eq_some_iff.1 h1).1; have := hr.len; omega
      obtain ⟨ad', e1, _, e2⟩ := hr.2 hm
      cases e1
      exact e2 i y h1 t u h2
    · intro u hu
      simp only [List.mem_flatMap] at hu
      obtain ⟨z, _, hz⟩ := hu
      simp only [enP, List.mem_cons, List.not_mem_nil, or_false] at hz
      rcases hz with rfl | rfl <;> rfl
    · unfold maxLen; omega
    · omega
    · intro v' w' h1 h2 _
      refine h v' w' ?_ h2
      unfold OwP
      rw [List.length_append, List.flatMap_append, hr.len]
      exact h1
theorem ownOneP (w : World) (base : Nat) (h : base ≤ w.heap.size) (x y : Int) : OwP (w.alloc (.cells #[.int .i64 x, .int .i64 y] 43)) base (.slice (some ⟨w.heap.size, 0, none⟩) 1 1) [(x, y)] :=
  World.ownsRow_lit (base := base) (e := 43) (size := 2) w #[.int .i64 x, .int .i64 y] 1 h (by unfold maxLen; omega) rfl
/-! plain -/
theorem first_cases (p : Nat → Bool) : ∀ T : Nat, (∀ i, i < T → p i = false) ∨ ∃ k, k < T ∧ p k = true ∧ ∀ i, i < k → p i = false := by
  intro T
  induction T with
  | zero => exact .inl (fun i hi => by omega)
  | succ T ih =>
    rcases ih with ih | ⟨k, h1, h2, h3⟩
    · cases hp : p T with
      | true => exact .inr ⟨T, by omega, hp, ih⟩
      | false => exact .inl (fun i hi => by rcases Nat.lt_or_ge i T with h | h; exact ih i h; (obtain rfl : i = T := by omega); exact hp)
    · exact .inr ⟨k, by omega, h2, h3⟩
theorem bal_more {j cb M : Int} {xs : List (Int × Int)} (h : j ≤ M) : balL j cb M ((j, 1) :: xs) = balL j cb M xs + 1 := by
  have e : inR j M j = true := inR_iff.2 ⟨by omega, h⟩
  unfold balL
  rw [paidL, if_pos e]
  omega
theorem arr_more {j cb M : Int} {xs : List (Int × Int)} (h : j ≤ M) : arrL j cb M ((j, 1) :: xs) ≤ arrL j cb M xs := by
  unfold arrL
  rw [bal_more h]
  split <;> split <;> omega
theorem mem_more {j cb m : Int} {xs : List (Int × Int)} (h : memC j cb m xs = 0) (hl : xs.length < 100) : memC j cb m ((j, 1) :: xs) = 0 := by
  rcases memC_cases j cb m xs with ⟨_, hj, hc, hmm, ha⟩ | h9 | h9
  · have hs := areP_split ha
    have : areP j ((j, 1) :: xs) = true := by
      unfold areP payOk
      rw [hj, hs.2.2, decide_eq_true (show ((j, (1 : Int)) :: xs).length ≤ 100 by simp; omega), decide_eq_true (Int.le_refl j)]
      rfl
    unfold memC
    rw [if_pos ⟨hj, hc, hmm⟩, if_pos this]
  · rw [h] at h9; cases h9
  · rw [h] at h9; cases h9
theorem lapB_more {j cb : Int} {xs : List (Int × Int)} {k : Nat} (h : lapB j cb ((j, 1) :: xs) k = true) : lapB j cb xs k = true := by
  have h1 := of_decide_eq_true h
  have := arr_more (j := j) (cb := cb) (M := j + (k : Int)) (xs := xs) (by omega)
  exact decide_eq_true (by omega)
/-- one more payment never makes a member lapse earlier -/
theorem lap_more {j cb m : Int} {xs : List (Int × Int)} (h : memC j cb m xs = 0) (hl : xs.length < 100) :
    (lapC j cb m xs = 4 ∧ lapC j cb m ((j, 1) :: xs) = 4) ∨ (lapC j cb m xs = 0 ∧ lapC j cb m ((j, 1) :: xs) = 4) ∨ (lapC j cb m xs = 0 ∧ lapC j cb m ((j, 1) :: xs) = 0 ∧ lapV j cb m xs ≤ lapV j cb m ((j, 1) :: xs)) := by
  have h2 := mem_more h hl
  rcases first_cases (lapB j cb xs) (monN j m) with h3 | ⟨k, h3, h4, h5⟩
  · have h6 : ∀ i, i < monN j m → lapB j cb ((j, 1) :: xs) i = false := fun i hi => by
      cases hb : lapB j cb ((j, 1) :: xs) i with
      | false => rfl
      | true => have := lapB_more hb; rw [h3 i hi] at this; cases this
    exact .inl ⟨(lap_none h h3).out.2, (lap_none h2 h6).out.2⟩
  · have e1 := (lap_some h h3 h5 h4).out
    rcases first_cases (lapB j cb ((j, 1) :: xs)) (monN j m) with h6 | ⟨k', h6, h7, h8⟩
    · exact .inr (.inl ⟨e1.2, (lap_none h2 h6).out.2⟩)
    · have e2 := (lap_some h2 h6 h8 h7).out
      refine .inr (.inr ⟨e1.2, e2.2, ?_⟩)
      rw [e1.1, e2.1]
      have h9 := lapB_more h7
      rcases Nat.lt_or_ge k' k with c | c
      · rw [h5 k' c] at h9; cases h9
      · omega
theorem tot_bal {j cb m : Int} {xs : List (Int × Int)} (h : memC j cb m xs = 0) (hm : m + 1 < 36000) : totC j j (m + 1) xs = 0 ∧ totV j j (m + 1) xs - cb * (m - j + 1) = balL j cb m xs ∧ 0 ≤ totV j j (m + 1) xs ∧ totV j j (m + 1) xs ≤ 10000000000 := by
  rcases memC_cases j cb m xs with ⟨_, hj, hc, hmm, ha⟩ | h9 | h9
  · have hmj := inR_iff.1 hmm
    have hjj := inR_iff.1 hj
    have e := (totC_0 (f := j) (t := m + 1) ⟨hj, hj, inR_iff.2 (by omega)⟩ ha).out
    have hp := paid_total_bd (p := inR j m) (areP_okA ha) rfl (areP_split ha).2.1
    rw [e.1, e.2, show m + 1 - 1 = m by omega]
    exact ⟨rfl, rfl, hp.1, hp.2⟩
  · rw [h] at h9; cases h9
  · rw [h] at h9; cases h9
end Go.Proofs.Ytnklpdckclgilaa
