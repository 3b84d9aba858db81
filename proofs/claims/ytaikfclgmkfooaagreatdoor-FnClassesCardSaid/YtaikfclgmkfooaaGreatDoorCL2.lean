/-
  Plain law of FnClasses: a class is found from its text; burying takes the shares of the dead away; the last member. No program is named here.
-/
import Derived.Test.YtaikfclgmkfooaaGreatDoorDI3
import Derived.Test.YtaikfclgmkfooaaGreatDoorF1
set_option linter.unusedSimpArgs false
set_option linter.unusedVariables false
namespace Go.Proofs.YtaikfclgmkfooaaGreatDoor
open Go Go.RowKit
theorem sh_tx {ds : List Int} : ∀ (ss : List Int) (k : Nat), (∀ x ∈ ss, 1 ≤ x ∧ x ≤ 1000) → shS (txL ds k ss) = ss
  | [], _, _ => rfl
  | x :: r, k, h => by
    have hx := h x (by simp)
    have ih := sh_tx (ds := ds) r (k + 1) (fun y hy => h y (by simp [hy]))
    show (if (if hs ds (k : Int) = true then IntKind.i64.wrap (-x) else x) < 0 then -(if hs ds (k : Int) = true then IntKind.i64.wrap (-x) else x) else (if hs ds (k : Int) = true then IntKind.i64.wrap (-x) else x)) :: shS (txL ds (k + 1) r) = _
    rw [ih]
    congr 1
    split
    · next h1 => 
      rw [wrap_in (by omega)] at *
      split <;> omega
    · rw [if_neg (by omega)]
theorem dead_tx {ds : List Int} : ∀ (ss : List Int) (k : Nat) (es : List Int), (∀ x ∈ ss, 1 ≤ x ∧ x ≤ 1000) → es.Pairwise (· < ·) → (∀ x ∈ es, (k : Int) ≤ x ∧ x < (k : Int) + ss.length) → (∀ x : Int, (k : Int) ≤ x → (hs ds x = true ↔ x ∈ es)) → deadOf k (txL ds k ss) = es
  | [], k, es, _, _, h, _ => by
    cases es with
    | nil => rfl
    | cons e es =>
      have := h e (by simp)
      simp at this
      omega
  | x :: r, k, es, hx, hp, h, hm => by
    have hx0 := hx x (by simp)
    have hm' : ∀ y : Int, ((k + 1 : Nat) : Int) ≤ y → (hs ds y = true ↔ y ∈ es) := fun y hy => hm y (by omega)
    show (if (if hs ds (k : Int) = true then IntKind.i64.wrap (-x) else x) < 0 then (k : Int) :: deadOf (k + 1) (txL ds (k + 1) r) else deadOf (k + 1) (txL ds (k + 1) r)) = es
    by_cases hk : hs ds (k : Int) = true
    · rw [if_pos hk, wrap_in (by omega), if_pos (by omega)]
      have hke := (hm k (Int.le_refl _)).1 hk
      cases es with
      | nil => cases hke
      | cons e es =>
        rw [List.pairwise_cons] at hp
        have he := (h e (by simp)).1
        have hek : e = (k : Int) := by
          rcases List.mem_cons.1 hke with h1 | h1
          · exact h1.symm
          · have := hp.1 _ h1; omega
        subst hek
        congr 1
        refine dead_tx r (k + 1) es (fun y hy => hx y (by simp [hy])) hp.2 (fun y hy => ?_) (fun y hy => ?_)
        · have h1 := h y (by simp [hy])
          have h2 := hp.1 y hy
          simp only [List.length_cons] at h1
          omega
        · rw [hm' y hy, List.mem_cons]
          constructor
          · rintro (h1 | h1)
            · omega
            · exact h1
          · exact .inr
    · rw [if_neg hk, if_neg (by omega)]
      refine dead_tx r (k + 1) es (fun y hy => hx y (by simp [hy])) hp (fun y hy => ?_) hm'
      have h1 := h y hy
      have h2 : y ≠ (k : Int) := fun e => hk ((hm k (Int.le_refl _)).2 (e ▸ hy))
      simp only [List.length_cons] at h1
      omega
/-- a class's text -/
def txt (ss ds : List Int) (ch : Int) : List UInt8 := Lib.join ((ch :: txL ds 0 ss).map Lib.itoa) [32]
theorem tx_bd {ds : List Int} : ∀ (ss : List Int) (k : Nat), (∀ x ∈ ss, 1 ≤ x ∧ x ≤ 1000) → ∀ y ∈ txL ds k ss, -1000 ≤ y ∧ y ≤ 1000
  | [], _, _, y, h => by cases h
  | x :: r, k, h, y, hy => by
    have hx := h x (by simp)
    rcases List.mem_cons.1 hy with h1 | h1
    · rw [h1]
      split
      · rw [wrap_in (by omega)]; omega
      · omega
    · exact tx_bd r (k + 1) (fun z hz => h z (by simp [hz])) y h1
theorem ok_shares {ss ds : List Int} {ch : Int} (h : okC ss ds ch = true) : ∀ x ∈ ss, 1 ≤ x ∧ x ≤ 1000 := fun x hx => inR_iff.1 (List.all_eq_true.1 (okC_iff.1 h).2.1 x hx)
/-- a class is found from its text -/
theorem rd_text {ss ds : List Int} {ch : Int} (h : okC ss ds ch = true) : rdS (txt ss ds ch) = some (ss, ds, ch) := by
  have hk := okC_iff.1 h
  have hsh := ok_shares h
  have hfree : ∀ x ∈ (ch :: txL ds 0 ss).map Lib.itoa, (32 : UInt8) ∉ x := fun x hx => by
    obtain ⟨n, _, rfl⟩ := List.mem_map.1 hx
    exact itoa_free n
  have h1 : spl (txt ss ds ch) = (ch :: txL ds 0 ss).map Lib.itoa := spl_join _ (by simp) hfree
  have h2 : nums sgn (spl (txt ss ds ch)) = some (ch :: txL ds 0 ss) := by
    rw [h1]
    refine nums_back _ (fun m hm => ?_)
    rcases List.mem_cons.1 hm with h3 | h3
    · rw [h3]; exact sgn_itoa (by omega) (by omega)
    · have := tx_bd ss 0 hsh m h3
      exact sgn_itoa (by omega) (by omega)
  have h3 : deadOf 0 (txL ds 0 ss) = ds := dead_tx ss 0 ds hsh (incB_iff.1 hk.2.2.2.2) (fun x hx => by
    have := inR_iff.1 (List.all_eq_true.1 hk.2.2.1 x hx)
    omega) (fun x _ => hs_iff)
  unfold rdS
  rw [h2]
  dsimp only
  rw [sh_tx ss 0 hsh, h3, if_pos h]
/-- what was read has the text it was read from -/
theorem rd_some {s : List UInt8} {ss ds : List Int} {ch : Int} (h : rdS s = some (ss, ds, ch)) : okC ss ds ch = true ∧ txt ss ds ch = s := by
  rw [← rd_same] at h
  unfold rdI at h
  split at h
  · next n r hn =>
    split at h
    · next hok =>
      simp only [Option.some.injEq, Prod.mk.injEq] at h
      obtain ⟨rfl, rfl, rfl⟩ := h
      exact hok
    · cases h
  · cases h
/-- the text as it is given -/
def txB (ss ds : List Int) (ch : Int) : ByteArray := ⟨(txt ss ds ch).toArray⟩
theorem txB_list (ss ds : List Int) (ch : Int) : (txB ss ds ch).data.toList = txt ss ds ch := by unfold txB; simp
theorem txB_of {s : ByteArray} {ss ds : List Int} {ch : Int} (h : txt ss ds ch = s.data.toList) : txB ss ds ch = s := by
  unfold txB
  rw [h]
/-- both ways, as the law asks: a code is none only with a class whose text it is -/
theorem rc_case (s : ByteArray) : (rcT (rdS s.data.toList) = ([], [], 0, 6)) ∨ ∃ ss ds ch, rcT (rdS s.data.toList) = (ss, ds, ch, 0) ∧ okC ss ds ch = true ∧ txB ss ds ch = s := by
  cases h : rdS s.data.toList with
  | none => exact .inl rfl
  | some c =>
    obtain ⟨ss, ds, ch⟩ := c
    obtain ⟨h1, h2⟩ := rd_some h
    exact .inr ⟨ss, ds, ch, rfl, h1, txB_of h2⟩
theorem rc_text {ss ds : List Int} {ch : Int} (h : okC ss ds ch = true) : rcT (rdS (txB ss ds ch).data.toList) = (ss, ds, ch, 0) := by
  rw [txB_list, rd_text h]
  rfl
theorem txB_size {ss ds : List Int} {ch : Int} (h : okC ss ds ch = true) : (txB ss ds ch).size ≤ 22 * 61 := by
  have h1 := okC_in h
  have h2 : ∀ z ∈ ch :: txL ds 0 ss, I64' z := fun z hz => by
    rcases List.mem_cons.1 hz with h3 | h3
    · rw [h3]; exact h1.2
    · exact txL_in ss 0 h1.1 z h3
  have h3 := join_le h2
  rw [List.length_cons, txL_len] at h3
  have h4 := (okC_iff.1 h).1.2
  have h5 : (txB ss ds ch).size = (txt ss ds ch).length := by rw [← size_list, txB_list]
  rw [h5]
  show (Lib.join _ _).length ≤ _
  omega
/-- the shares of the first members of a list -/
def gnS (ss ms : List Int) : Nat → Int
  | 0 => 0
  | j + 1 => gnS ss ms j + gz ss (gz ms j).toNat
theorem lvS_congr {ss ds es : List Int} (h : ∀ x : Int, hs ds x = hs es x) : ∀ k, lvS ss ds k = lvS ss es k
  | 0 => rfl
  | k + 1 => by
    show lvS ss ds k + _ = lvS ss es k + _
    rw [lvS_congr h k, h]
theorem lvS_one {ss ds : List Int} {x : Nat} (h : hs ds (x : Int) = false) : ∀ k, lvS ss (ds ++ [(x : Int)]) k = if x < k then lvS ss ds k - gz ss x else lvS ss ds k
  | 0 => rfl
  | k + 1 => by
    have ih := lvS_one (ss := ss) h k
    have hh : ∀ y : Int, hs (ds ++ [(x : Int)]) y = (hs ds y || (x : Int) == y) := fun y => by unfold hs; rw [List.any_append]; simp
    show lvS ss (ds ++ [(x : Int)]) k + (if hs (ds ++ [(x : Int)]) k = true then 0 else gz ss k) = if x < k + 1 then lvS ss ds k + (if hs ds k = true then 0 else gz ss k) - gz ss x else lvS ss ds k + (if hs ds k = true then 0 else gz ss k)
    rw [ih, hh]
    rcases Nat.lt_trichotomy x k with c | c | c
    · have h1 : ((x : Int) == (k : Int)) = false := by rw [beq_eq_false_iff_ne]; omega
      rw [h1, Bool.or_false, if_pos c, if_pos (show x < k + 1 by omega)]
      omega
    · subst c
      rw [h, if_neg (Nat.lt_irrefl _), if_pos (Nat.lt_succ_self _)]
      simp
    · have h1 : ((x : Int) == (k : Int)) = false := by rw [beq_eq_false_iff_ne]; omega
      rw [h1, Bool.or_false, if_neg (show ¬ x < k by omega), if_neg (show ¬ x < k + 1 by omega)]
theorem lvS_take {ss ds ms : List Int} (hn : (ds ++ ms).Nodup) (hr : ms.all (inR 0 ((ss.length : Int) - 1)) = true) : ∀ j, j ≤ ms.length → lvS ss (ds ++ ms.take j) ss.length = lvS ss ds ss.length - gnS ss ms j
  | 0, _ => by
    show lvS ss (ds ++ []) ss.length = _ - 0
    rw [List.append_nil]
    omega
  | j + 1, hj => by
    have ih := lvS_take hn hr j (by omega)
    have h1 := gz_get (show j < ms.length by omega)
    have h2 := inR_iff.1 (List.all_eq_true.1 hr _ (gz_mem (show j < ms.length by omega)))
    rw [take_app h1, ← List.append_assoc]
    have h3 : gz ms j = ((gz ms j).toNat : Int) := by omega
    have h4 : hs (ds ++ ms.take j) ((gz ms j).toNat : Int) = false := by
      rw [← h3]
      cases hq : hs (ds ++ ms.take j) (gz ms j) with
      | false => rfl
      | true =>
        exfalso
        have h5 := hs_iff.1 hq
        have h6 : (ds ++ ms.take j ++ ms.drop j).Nodup := by rw [List.append_assoc, List.take_append_drop]; exact hn
        rw [List.nodup_append] at h6
        have h7 : gz ms j ∈ ms.drop j := by
          rw [List.drop_eq_getElem_cons (show j < ms.length by omega)]
          have := (List.getElem?_eq_some_iff.1 h1).2
          rw [this]
          simp
        exact h6.2.2 _ h5 _ h7 rfl
    have h5 := lvS_one (ss := ss) h4 ss.length
    rw [← h3] at h5
    rw [h5, if_pos (by omega), ih]
    show _ = _ - (gnS ss ms j + gz ss (gz ms j).toNat)
    omega
theorem gnS_bd {ss ms : List Int} (ha : ss.all (inR 1 1000) = true) : ∀ j, 0 ≤ gnS ss ms j ∧ gnS ss ms j ≤ 1000 * (j : Int)
  | 0 => by unfold gnS; omega
  | j + 1 => by
    have ih := gnS_bd (ms := ms) ha j
    have h1 : 0 ≤ gz ss (gz ms j).toNat ∧ gz ss (gz ms j).toNat ≤ 1000 := by
      rcases Nat.lt_or_ge (gz ms j).toNat ss.length with h2 | h2
      · have := inR_iff.1 (List.all_eq_true.1 ha _ (gz_mem h2)); omega
      · have h3 : ∀ i, ss.length ≤ i → gz ss i = 0 := fun i hi => by simp [gz, List.getD, List.getElem?_eq_none hi]
        rw [h3 _ h2]
        omega
    show 0 ≤ gnS ss ms j + _ ∧ gnS ss ms j + _ ≤ _
    omega
/-- burying, as the law asks -/
theorem bm_case (ss ds ms : List Int) (ch : Int) : ((bmC ss ds ms ch == 0) = false) ∨ (bmC ss ds ms ch = 0 ∧ okC ss ds ch = true ∧ okC ss (srt (ds ++ ms)) ch = true ∧ ms.all (inR 0 ((ss.length : Int) - 1)) = true ∧ lvS ss ds ss.length - gnS ss ms ms.length = lvS ss (srt (ds ++ ms)) ss.length ∧ (srt (ds ++ ms)).length = ds.length + ms.length) := by
  by_cases h : bmC ss ds ms ch = 0
  · right
    refine ⟨h, ?_⟩
    unfold bmC at h
    split at h
    · next hok =>
      unfold buC at h
      split at h
      · next hm =>
        split at h
        · next hi =>
          have h1 := okC_bury hok hm.2
          rw [hi] at h1
          have h2 : (ds ++ ms).Nodup := (srt_perm _).nodup_iff.1 (nodup_inc (incB_iff.1 hi))
          have h3 := lvS_take (ss := ss) h2 hm.2 ms.length (Nat.le_refl _)
          rw [List.take_length] at h3
          refine ⟨hok, h1, hm.2, ?_, by rw [srt_len, List.length_append]⟩
          rw [← h3]
          refine lvS_congr (fun x => ?_) _
          rw [Bool.eq_iff_iff, hs_iff, hs_iff]
          exact (srt_perm _).mem_iff.symm
        · omega
      · omega
    · omega
  · left
    rw [beq_eq_false_iff_ne]
    exact h
/-- the first living member -/
def FL (ds : List Int) (k : Nat) : Prop := hs ds (k : Int) = false ∧ ∀ j : Nat, j < k → hs ds (j : Int) = true
theorem all_in : ∀ (n : Nat) (ds : List Int), (∀ j : Nat, j < n → (j : Int) ∈ ds) → n ≤ ds.length
  | 0, _, _ => Nat.zero_le _
  | n + 1, ds, h => by
    have h1 := h n (by omega)
    have h2 := all_in n (ds.erase (n : Int)) (fun j hj => (List.mem_erase_of_ne (by omega)).2 (h j (by omega)))
    rw [List.length_erase_of_mem h1] at h2
    have h3 : 0 < ds.length := List.length_pos_of_mem h1
    omega
theorem fl_some {ds : List Int} : ∀ n : Nat, (∀ j : Nat, j < n → hs ds (j : Int) = true) ∨ ∃ k, k < n ∧ FL ds k
  | 0 => .inl (fun j hj => by omega)
  | n + 1 => by
    rcases fl_some (ds := ds) n with h | ⟨k, hk, h⟩
    · cases hq : hs ds (n : Int) with
      | false => exact .inr ⟨n, by omega, hq, h⟩
      | true =>
        refine .inl (fun j hj => ?_)
        rcases Nat.lt_or_ge j n with c | c
        · exact h j c
        · obtain rfl : j = n := by omega
          exact hq
    · exact .inr ⟨k, by omega, h⟩
/-- the last member and the code -/
def LM (ss ds : List Int) (ch v k : Int) : Prop := (okC ss ds ch = false ∧ v = 0 ∧ k = 1) ∨ (okC ss ds ch = true ∧ ¬ (ds.length : Int) = (ss.length : Int) - 1 ∧ v = 0 ∧ k = 4) ∨ (okC ss ds ch = true ∧ (ds.length : Int) = (ss.length : Int) - 1 ∧ k = 0 ∧ ∃ q : Nat, v = (q : Int) ∧ q < ss.length ∧ FL ds q)
theorem lm_ex (ss ds : List Int) (ch : Int) : ∃ v k, LM ss ds ch v k := by
  cases h : okC ss ds ch with
  | false => exact ⟨0, 1, .inl ⟨h, rfl, rfl⟩⟩
  | true =>
    by_cases hl : (ds.length : Int) = (ss.length : Int) - 1
    · rcases fl_some (ds := ds) ss.length with h1 | ⟨q, hq, h1⟩
      · exfalso
        have h2 := all_in ss.length ds (fun j hj => hs_iff.1 (h1 j hj))
        omega
      · exact ⟨q, 0, .inr (.inr ⟨h, hl, rfl, q, rfl, hq, h1⟩)⟩
    · exact ⟨0, 4, .inr (.inl ⟨h, hl, rfl, rfl⟩)⟩
end Go.Proofs.YtaikfclgmkfooaaGreatDoor
