/-
  Chapter 15 in plain mathematics, for the law of spells: a list with a spell added is one, it holds the day added, and its days lie between. No program is named here.
-/
import Derived.Test.YtldemcdocpdkfaaU6
import Derived.Test.YtldemcdocpdkfaaG5
import Derived.Test.YtldemcdocpdkfaaH5
import Derived.Test.YtldemcdocpdkfaaE5
set_option linter.unusedSimpArgs false
set_option linter.unusedVariables false
namespace Go.Proofs.Ytldemcdocpdkfaa
theorem spOk_of : ∀ {xs : List (Int × Int)} {last : Int}, (∀ x ∈ xs, spB x.1 x.2 = true) → (∀ x ∈ xs, last < x.1) → (xs.Pairwise fun x y => x.2 < y.1) → spOk last xs = true
  | [], _, _, _, _ => rfl
  | (f, t) :: r, last, h1, h2, h3 => by
    have h4 := List.pairwise_cons.1 h3
    have h5 := h1 (f, t) List.mem_cons_self
    have h6 := h2 (f, t) List.mem_cons_self
    have h7 := spOk_of (last := t) (fun x hx => h1 x (List.mem_cons_of_mem _ hx)) (fun x hx => h4.1 x hx) h4.2
    show (spB f t && decide (last < f) && spOk t r) = true
    rw [show spB f t = true from h5, decide_eq_true (show last < f from h6), h7]
    rfl
theorem joinF_last {a b : Int} : ∀ (xs : List (Int × Int)) (p : Int × Int) (z : Int), p.2 < z → (∀ x ∈ xs, outB a b x = false → x.2 < z) → (xs.foldl (joinF a b) p).2 < z
  | [], _, _, h, _ => h
  | x :: r, p, z, h, hx => by
    rw [List.foldl_cons]
    refine joinF_last r _ z ?_ (fun y hy => hx y (List.mem_cons_of_mem _ hy))
    unfold joinF
    by_cases c : outB a b x = true
    · rw [if_pos c]; exact h
    · rw [if_neg c]
      have := hx x List.mem_cons_self (by simpa using c)
      show max p.2 x.2 < z
      omega
theorem addR_apart {xs : List (Int × Int)} (h : areS xs = true) {a b : Int} (hab : 0 ≤ a ∧ a < b ∧ b ≤ 100000) : (addR a b xs).Pairwise fun x y => x.2 < y.1 := by
  have hp := spOk_pair (areS_split h).2
  have hm := fun x (hx : x ∈ xs) => areS_mem h hx
  unfold addR
  rw [List.pairwise_append]
  refine ⟨hp.filter _, List.Pairwise.cons (fun y hy => ?_) (hp.filter _), fun x hx y hy => ?_⟩
  · obtain ⟨hy1, hy2⟩ := List.mem_filter.1 hy
    simp only [decide_eq_true_eq] at hy2
    have hy3 := hm y hy1
    refine joinF_last xs (a, b) y.1 (by show b < y.1; omega) (fun x hx hb => ?_)
    have hb' : ¬ (x.2 < a ∨ b < x.1) := by simpa only [outB, Bool.or_eq_false_iff, decide_eq_false_iff_not, not_or] using hb
    have hne : x ≠ y := fun e => by subst e; omega
    have hx3 := hm x hx
    obtain ⟨i, hi, rfl⟩ := List.mem_iff_getElem.1 hx
    obtain ⟨j, hj, rfl⟩ := List.mem_iff_getElem.1 hy1
    rcases Nat.lt_trichotomy i j with c | c | c
    · exact List.pairwise_iff_getElem.1 hp i j hi hj c
    · subst c; exact absurd rfl hne
    · have := List.pairwise_iff_getElem.1 hp j i hj hi c; omega
  · obtain ⟨hx1, hx2⟩ := List.mem_filter.1 hx
    simp only [decide_eq_true_eq] at hx2
    have hx3 := hm x hx1
    rcases List.mem_cons.1 hy with rfl | hy
    · refine joinF_first xs (a, b) x.2 (by show x.2 < a; omega) (fun y hy hb => ?_)
      have hb' : ¬ (y.2 < a ∨ b < y.1) := by simpa only [outB, Bool.or_eq_false_iff, decide_eq_false_iff_not, not_or] using hb
      have hne : x ≠ y := fun e => by subst e; omega
      have hy3 := hm y hy
      obtain ⟨i, hi, rfl⟩ := List.mem_iff_getElem.1 hx1
      obtain ⟨j, hj, rfl⟩ := List.mem_iff_getElem.1 hy
      rcases Nat.lt_trichotomy i j with c | c | c
      · exact List.pairwise_iff_getElem.1 hp i j hi hj c
      · subst c; exact absurd rfl hne
      · have := List.pairwise_iff_getElem.1 hp j i hj hi c; omega
    · have e := (List.mem_filter.1 hy).2
      simp only [decide_eq_true_eq] at e
      omega
theorem areS_addR {xs : List (Int × Int)} (h : areS xs = true) {a b : Int} (hab : 0 ≤ a ∧ a < b ∧ b ≤ 100000) (hl : (addR a b xs).length ≤ 20) : areS (addR a b xs) = true := by
  have hj := joinS_inv h hab xs.length (Nat.le_refl _)
  rw [List.take_length] at hj
  have hm : ∀ x ∈ addR a b xs, spB x.1 x.2 = true := fun x hx => by
    unfold addR at hx
    rcases List.mem_append.1 hx with hx | hx
    · exact spB_iff.2 (areS_mem h (List.mem_filter.1 hx).1)
    · rcases List.mem_cons.1 hx with rfl | hx
      · exact spB_iff.2 (by omega)
      · exact spB_iff.2 (areS_mem h (List.mem_filter.1 hx).1)
  unfold areS
  rw [decide_eq_true hl, Bool.true_and]
  exact spOk_of hm (fun x hx => by have := spB_iff.1 (hm x hx); omega) (addR_apart h hab)
theorem daysL_perm {xs ys : List (Int × Int)} (h : xs.Perm ys) : daysL xs = daysL ys := by
  induction h with
  | nil => rfl
  | cons x _ ih => obtain ⟨f, t⟩ := x; simp only [daysL, ih]
  | swap x y l => obtain ⟨f, t⟩ := x; obtain ⟨f', t'⟩ := y; simp only [daysL]; omega
  | trans _ _ h1 h2 => exact h1.trans h2
theorem daysL_one (x : Int × Int) : daysL [x] = x.2 - x.1 := by obtain ⟨f, t⟩ := x; simp [daysL]
theorem join_days {xs : List (Int × Int)} (h : areS xs = true) {a b : Int} (hab : 0 ≤ a ∧ a < b ∧ b ≤ 100000) : ∀ k : Nat, k ≤ xs.length →
    (joinS a b (xs.take k)).1 ≤ a ∧ b ≤ (joinS a b (xs.take k)).2 ∧ daysL (outL a b (xs.take k)) ≤ daysL (xs.take k) ∧ (joinS a b (xs.take k)).2 - (joinS a b (xs.take k)).1 ≤ daysL (xs.take k) - daysL (outL a b (xs.take k)) + (b - a)
    ∧ (daysL (xs.take k) = daysL (outL a b (xs.take k)) ∨ (daysL (xs.take k) - daysL (outL a b (xs.take k)) ≤ (joinS a b (xs.take k)).2 - (joinS a b (xs.take k)).1 ∧ daysL (xs.take k) - daysL (outL a b (xs.take k)) ≤ lastT xs k - (joinS a b (xs.take k)).1)) := by
  intro k
  induction k with
  | zero => intro _; simp only [List.take_zero]; show a ≤ a ∧ b ≤ b ∧ (0 : Int) ≤ 0 ∧ b - a ≤ 0 - 0 + (b - a) ∧ ((0 : Int) = 0 ∨ _); omega
  | succ k ih =>
    intro hk
    have h1 := ih (by omega)
    obtain ⟨f, t, hx⟩ := at_ex xs (show k < xs.length by omega)
    rw [joinS_at hx, lastT_succ hx, outL_at hx, daysL_take hx, daysL_app]
    have h2 := areS_at h hx
    have h3 : lastT xs k < f := areS_last h hx
    generalize joinS a b (xs.take k) = p at h1
    obtain ⟨p1, p2⟩ := p
    unfold joinF
    by_cases c : outB a b (f, t) = true
    · rw [if_pos c, if_pos c, daysL_one]
      simp only at h1 ⊢
      omega
    · rw [if_neg c, if_neg c]
      have c' : ¬ (t < a ∨ b < f) := by simpa only [outB, Bool.or_eq_true, decide_eq_true_eq] using c
      simp only [daysL] at h1 ⊢
      omega
theorem addR_days {xs : List (Int × Int)} (h : areS xs = true) {a b : Int} (hab : 0 ≤ a ∧ a < b ∧ b ≤ 100000) : daysL xs ≤ daysL (addR a b xs) ∧ daysL (addR a b xs) ≤ daysL xs + b - a := by
  have h1 := join_days h hab xs.length (Nat.le_refl _)
  rw [List.take_length] at h1
  have h2 : daysL (outL a b xs) = daysL (lowL a xs ++ highL b xs) := daysL_perm (addR_perm hab.2.1 xs (fun x hx => (areS_mem h hx).2.2))
  have h3 : daysL (addR a b xs) = daysL (lowL a xs) + ((joinS a b xs).2 - (joinS a b xs).1 + daysL (highL b xs)) := by
    unfold addR
    rw [daysL_app]
    rfl
  rw [daysL_app] at h2
  omega
/-- the three facts of the law -/
theorem exh_law {ys : List (Int × Int)} (h : exhC ys = 0) : nuV ys (exW ys) = 368 ∧ spC ys (inR 0 100000 (exW ys)) = 0 ∧ poV ys (exW ys) 10 = 0 ∧ spC ys (inR 0 100000 (exW ys) && inR 1 100000 10) = 0 := by
  have ha : areS ys = true := by
    cases e : areS ys with
    | true => rfl
    | false => rw [exh_bad e] at h; cases h
  cases hd : exhD ys with
  | none => rw [(exh_none ha hd).1] at h; cases h
  | some d =>
    have he := exh_some ha hd
    have hn := exhD_num ha hd
    have hw : exW ys = d := by unfold exW; rw [if_pos ha, he.2]
    have hr : inR 0 100000 d = true := inR_iff.2 hn.1
    have hs : spC ys true = 0 := by unfold spC; rw [if_pos ha]; rfl
    rw [hw, hr]
    refine ⟨?_, hs, ?_, hs⟩
    · unfold nuV
      rw [hr, if_pos hs]
      exact hn.2
    · unfold poV
      rw [hr, if_pos (show spC ys (true && inR 1 100000 10) = 0 from hs), hn.2]
      exact payN_368 10
theorem cas_law {ys : List (Int × Int)} (h : casC ys = 0) : spC ys (pbB 0 100000 2) = 0 ∧ 0 ≤ pbV ys 0 100000 2 ∧ pbV ys 0 100000 2 ≤ 546 * ((casL ys).length : Int) := by
  have ha : areS ys = true := by
    cases e : areS ys with
    | true => rfl
    | false => rw [(cas_f e).2] at h; cases h
  have hp : pbB 0 100000 2 = true := by decide
  have hs : spC ys (pbB 0 100000 2) = 0 := by rw [hp]; unfold spC; rw [if_pos ha]; rfl
  have h1 := (payK_le ha 0 100000 ys.length (Nat.le_refl _)).1
  rw [payT_eq ha 2 0 100000 (by omega)] at h1
  have h2 := payT_bd ys (r := 2) (by omega) 0 100000
  unfold pbV
  rw [if_pos hs, (cas_t rfl ha).1]
  exact ⟨hs, h2.1, h1⟩
theorem add_law {xs : List (Int × Int)} {a b : Int} (h : addC xs a b = 0) : areS (addL xs a b) = true ∧ 0 < nuV (addL xs a b) a ∧ nuV (addL xs a b) a ≤ 3000000 ∧ spC (addL xs a b) (inR 0 100000 a) = 0 ∧ sicC xs = 0 ∧ sicC (addL xs a b) = 0 ∧ sicV xs ≤ sicV (addL xs a b) ∧ sicV (addL xs a b) ≤ sicV xs + b - a ∧ (0 ≤ a ∧ a < b ∧ b ≤ 100000) ∧ 0 ≤ sicV xs ∧ sicV xs ≤ 2000000 := by
  unfold addC at h
  by_cases hs : spC xs (spB a b) = 0
  · rw [if_pos hs] at h
    by_cases hl : (addR a b xs).length ≤ 20
    · have hL : addL xs a b = addR a b xs := by unfold addL; rw [if_pos hs, if_pos hl]
      have hpp : areS xs = true ∧ spB a b = true := by
        rcases spC_cases xs (spB a b) with ⟨_, e, f⟩ | ⟨e, _⟩ | ⟨e, _⟩
        · exact ⟨e, f⟩
        · rw [hs] at e; cases e
        · rw [hs] at e; cases e
      have hab := spB_iff.1 hpp.2
      have ha := hpp.1
      have h2 : areS (addR a b xs) = true := areS_addR ha (by omega) hl
      have h3 := addR_days ha (a := a) (b := b) (by omega)
      have h4 := daysL_bd ha xs.length (Nat.le_refl _)
      rw [List.take_length] at h4
      have h5 := (areS_split ha).1
      have hj := joinS_inv ha (a := a) (b := b) (by omega) xs.length (Nat.le_refl _)
      rw [List.take_length] at hj
      have hx : (addR a b xs)[(lowL a xs).length]? = some ((joinS a b xs).1, (joinS a b xs).2) := by
        unfold addR
        rw [List.getElem?_append_right (Nat.le_refl _), Nat.sub_self]
        rfl
      have h6 := numD_at h2 hx (d := a) (inR_iff.2 (by omega))
      have h7 := befB_bd h2 (k := (lowL a xs).length) (by unfold addR; simp)
      have h8 := numD_bd h2 a
      have hs2 : spC (addR a b xs) (inR 0 100000 a) = 0 := by rw [inR_iff.2 hab.1]; unfold spC; rw [if_pos h2]; rfl
      rw [hL]
      have e1 : nuV (addR a b xs) a = numD (addR a b xs) a := by unfold nuV; rw [if_pos hs2]
      have e2 : sicV xs = daysL xs := by unfold sicV; rw [if_pos ha]
      have e3 : sicV (addR a b xs) = daysL (addR a b xs) := by unfold sicV; rw [if_pos h2]
      have e4 : sicC xs = 0 := by unfold sicC; rw [if_pos ha]
      have e5 : sicC (addR a b xs) = 0 := by unfold sicC; rw [if_pos h2]
      rw [e1, e2, e3]
      exact ⟨h2, by omega, h8.2, hs2, e4, e5, h3.1, h3.2, by omega, by omega, by omega⟩
    · rw [if_neg hl] at h; cases h
  · rw [if_neg hs] at h; exact absurd h hs
end Go.Proofs.Ytldemcdocpdkfaa
