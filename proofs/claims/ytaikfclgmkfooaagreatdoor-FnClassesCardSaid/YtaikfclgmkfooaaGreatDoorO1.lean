/-
  Append of a list of numbers to a slice that the call owns, with word of where the new slice lies: at an operation, in a plain region, at a step of a region that draws its order.
-/
import Derived.Test.YtaikfclgmkfooaaGreatDoorOL
import Derived.Test.YtaikfclgmkfooaaGreatDoorOW
import Derived.Maps.AppendAt
import Derived.Laws.OwnMore
set_option linter.unusedSimpArgs false
set_option linter.unusedVariables false
namespace Go.Proofs.YtaikfclgmkfooaaGreatDoor
open Go.RowKit
/-- a slice of the call's own stays while another block is written -/
theorem OwI.other {w w' : World} {base : Nat} {v : Value} {zs : List Int} {row : Option Nat} (h : OwI w base v zs) (hg : w.grownBy w' row) (hq : ∀ q, v.ownBlock = some q → row ≠ some q) : OwI w' base v zs := by
  refine World.ownsRow.kept h hg ?_
  cases hv : v.ownBlock with
  | none => exact .inl rfl
  | some q => exact .inr (fun e => hq q hv e.symm)
theorem wp_app_ints {o : Oper} {a : Act} {K : Act → World → Prop} {Q : Exit → Act → World → Prop} {w : World} (s x : Operand)
    (ho : o.op = .call { callee := .builtin .append, args := #[s, x], argTypes := #[24, 24] })
    (base : Nat) (zs : List Int) (v : Value) (hs : a.eval s = v) (hown : OwI w base v zs) (B : Nat) (A : Option Addr) (m c : Nat) (src : List Int) (hx : a.eval x = .slice A m c) (hr : RdI w B A m src) (hA : A = none → c = 0) (hl : zs.length + m ≤ 3000000) (hbase : base ≤ w.heap.size)
    (h : ∀ A' m' c' w', OwI w' base (.slice A' m' c') (zs ++ src) → w.grownBy w' v.ownBlock → (∀ q, (Value.slice A' m' c').ownBlock = some q → v.ownBlock = some q ∨ q = w.heap.size) → K (a.put o.dst (.slice A' m' c')) w') : o.wp Tryz.prog a w K Q := by
  have HN : (Tryz.prog.info? 2).map (fun i => (i.zero, i.size, i.bytes)) = some (some (.int .i64 0), 1, 8) := by kernel_rfl
  obtain ⟨i0, hi, hz0, hz1, hz2⟩ := info_parts HN
  cases A with
  | none =>
    have hm : m = 0 := by
      rcases Nat.eq_zero_or_pos m with h0 | h0
      · exact h0
      · obtain ⟨ad, h1, _⟩ := hr.2 h0
        cases h1
    have hsrc : src = [] := List.eq_nil_of_length_eq_zero (by rw [hr.len, hm])
    have hc := hA rfl
    subst hm hc hsrc
    have hrun := run_append_owned_none (P := Tryz.prog) (w := w) base 24 o.type 2 i0 1 Tryz.underlying24 hi v zs.length (zs.map (Value.int .i64)) hown
    obtain ⟨A1, m1, c1, rfl⟩ := hown.sl
    have h2 := h A1 m1 c1 w (by rw [List.append_nil]; exact hown) (World.grownBy.refl _ _) (fun q e => .inl e)
    unfold Oper.wp
    simp [execOp, ho, resolve, invoke, builtin, hs, hx, hrun, Result.andThen]
    exact h2
  | some ad =>
    have hnews : ∀ j u, (src.map (Value.int .i64))[j]? = some u → w.cell? (ad.add j) = some u := by
      intro j u hj
      rw [List.getElem?_map] at hj
      cases hz : src[j]? with
      | none => rw [hz] at hj; cases hj
      | some z =>
        rw [hz] at hj
        simp only [Option.map_some, Option.some.injEq] at hj
        subst hj
        have hjl : j < m := by have := (List.getElem?_eq_some_iff.1 hz).1; rw [hr.len] at this; exact this
        obtain ⟨ad', z', e1, _, e2, e3⟩ := RdI.atI hr hjl
        cases e1
        rw [hz] at e2
        cases e2
        exact e3
    have hone : ∀ u ∈ src.map (Value.int .i64), u.oneCell' = true := by
      intro u hu
      simp only [List.mem_map] at hu
      obtain ⟨z, _, rfl⟩ := hu
      rfl
    obtain ⟨v', w', hrun, h2, h3, _, h5⟩ := run_append_own_at (P := Tryz.prog) w base 24 o.type 2 i0 (.int .i64 0) 1 8 Tryz.underlying24 hi hz0 hz1 hz2 rfl (by decide) v zs.length (zs.map (Value.int .i64)) hown ad m c (src.map (Value.int .i64)) (by rw [List.length_map, hr.len, Nat.mul_one]) hnews hone (by unfold maxLen; omega) (by omega) hbase
    have ho2 : OwI w' base v' (zs ++ src) := by
      unfold OwI
      rw [List.length_append, List.map_append, hr.len]
      exact h2
    obtain ⟨A1, m1, c1, rfl⟩ := ho2.sl
    have h6 := h A1 m1 c1 w' ho2 h3 (fun q e => by
      rcases h5 with h5 | h5
      · exact .inl (h5 ▸ e)
      · rw [h5] at e; injection e with e; exact .inr e.symm)
    unfold Oper.wp execOp
    simp only [ho, resolve, invoke, builtin, Sem.run_bind, Sem.run_pure, Result.andThen_ok, List.map_toArray, List.map_cons, List.map_nil, hs, hx, hrun]
    exact h6
theorem wpl_app_intsL {ops : Array Oper} {rest : List Oper} {o : Oper} {a : Act} {Q : Exit → Act → World → Prop} {w : World} (hgd : o.guard = none) (s x : Operand)
    (ho : o.op = .call { callee := .builtin .append, args := #[s, x], argTypes := #[24, 24] })
    (base : Nat) (zs : List Int) (v : Value) (hs : a.eval s = v) (hown : OwI w base v zs) (B : Nat) (A : Option Addr) (m c : Nat) (src : List Int) (hx : a.eval x = .slice A m c) (hr : RdI w B A m src) (hA : A = none → c = 0) (hl : zs.length + m ≤ 3000000) (hbase : base ≤ w.heap.size)
    (h : ∀ A' m' c' w', OwI w' base (.slice A' m' c') (zs ++ src) → w.grownBy w' v.ownBlock → (∀ q, (Value.slice A' m' c').ownBlock = some q → v.ownBlock = some q ∨ q = w.heap.size) → wpList Tryz.prog ops Q rest (a.put o.dst (.slice A' m' c')) w') : wpList Tryz.prog ops Q (o :: rest) a w :=
  wpList_plain hgd fun K hK => wp_app_ints s x ho base zs v hs hown B A m c src hx hr hA hl hbase fun A' m' c' w' h1 h2 h3 => hK _ _ (h A' m' c' w' h1 h2 h3)
theorem step_app_intsL {ops : Array Oper} {o : Oper} {a : Act} {K : Act → World → Prop} {Q : Exit → Act → World → Prop} {E : Prop} {w : World} (hgd : o.guard = none) (s x : Operand)
    (ho : o.op = .call { callee := .builtin .append, args := #[s, x], argTypes := #[24, 24] })
    (base : Nat) (zs : List Int) (v : Value) (hs : a.eval s = v) (hown : OwI w base v zs) (B : Nat) (A : Option Addr) (m c : Nat) (src : List Int) (hx : a.eval x = .slice A m c) (hr : RdI w B A m src) (hA : A = none → c = 0) (hl : zs.length + m ≤ 3000000) (hbase : base ≤ w.heap.size)
    (h : ∀ A' m' c' w', OwI w' base (.slice A' m' c') (zs ++ src) → w.grownBy w' v.ownBlock → (∀ q, (Value.slice A' m' c').ownBlock = some q → v.ownBlock = some q ∨ q = w.heap.size) → K (a.put o.dst (.slice A' m' c')) w') :
    if Region.wanted o (yielded ops a.tmps) = true then Oper.wp Tryz.prog o a w K Q else E := by
  have hw : Region.wanted o (yielded ops a.tmps) = true := by simp [Region.wanted, hgd]
  rw [if_pos hw]
  exact wp_app_ints s x ho base zs v hs hown B A m c src hx hr hA hl hbase h
end Go.Proofs.YtaikfclgmkfooaaGreatDoor
