/-
  Slices of numbers that a call owns: append of one number, with word of where the new slice lies.
-/
import Derived.Test.YtaikfclgmkfooaaGreatDoorS
import Derived.Deep.RegionHeld3
import Derived.Deep.AppendLies
set_option linter.unusedSimpArgs false
set_option linter.unusedVariables false
namespace Go.Proofs.YtaikfclgmkfooaaGreatDoor
open Go.RowKit
/-- an owned slice stays while another block is written -/
theorem OwI.off {w w' : World} {base p : Nat} {v : Value} {zs : List Int} (h : OwI w base v zs) (hg : w.grownBy w' (some p)) (hq : ∀ q, v.ownBlock = some q → q ≠ p) : OwI w' base v zs := by
  refine World.ownsRow.kept h hg ?_
  cases hv : v.ownBlock with
  | none => exact .inl rfl
  | some q =>
    refine .inr ?_
    intro e
    injection e with e
    exact hq q hv e
theorem grownBy_one (w : World) (p : Addr) (u : Value) : w.grownBy (w.setCell p u) (some p.block) := grownBy_set (World.grownBy.refl _ _) (.inl rfl) u
/-- append of one number, in a plain region -/
theorem wpl_app_intL {ops : Array Oper} {rest : List Oper} {o : Oper} {a : Act} {Q : Exit → Act → World → Prop} {w : World} (hgd : o.guard = none) (s x : Operand)
    (ho : o.op = .call { callee := .builtin .append, args := #[s, x], argTypes := #[24, 24] })
    (base : Nat) (zs : List Int) (v : Value) (hs : a.eval s = v) (hown : OwI w base v zs) (ad : Addr) (z : Int) (c : Nat) (hx : a.eval x = .slice (some ad) 1 c) (hc : w.cell? ad = some (.int .i64 z)) (hl : zs.length ≤ 1000000) (hbase : base ≤ w.heap.size)
    (h : ∀ A' m' c' w', OwI w' base (.slice A' m' c') (zs ++ [z]) → w.grownBy w' v.ownBlock → (∀ q, (Value.slice A' m' c').ownBlock = some q → v.ownBlock = some q ∨ q = w.heap.size) → wpList Tryz.prog ops Q rest (a.put o.dst (.slice A' m' c')) w') : wpList Tryz.prog ops Q (o :: rest) a w := by
  have HN : (Tryz.prog.info? 2).map (fun i => (i.zero, i.size, i.bytes)) = some (some (.int .i64 0), 1, 8) := by kernel_rfl
  obtain ⟨i0, hi, hz0, hz1, hz2⟩ := info_parts HN
  refine wpList_append_lies w hgd s x 24 ho base 2 i0 (.int .i64 0) 1 8 Tryz.underlying24 hi hz0 hz1 hz2 rfl (by decide) v zs.length (zs.map (Value.int .i64)) hs hown ad 1 c [.int .i64 z] hx rfl ?_ ?_ (by omega) ?_ ?_ hbase w.heap.size rfl ?_
  · intro j u hj
    cases j with
    | zero => simp only [List.getElem?_cons_zero, Option.some.injEq] at hj; subst hj; rw [add_zero']; exact hc
    | succ j => simp at hj
  · intro u hu
    simp only [List.mem_singleton] at hu
    subst hu
    rfl
  · unfold maxLen; omega
  · omega
  · intro g cap w' h1 h2 h3 _
    refine h _ _ _ w' ?_ h2 (fun q e => ?_)
    · unfold OwI
      rw [List.length_append, List.map_append]
      exact h1
    · simp only [Value.ownBlock, Option.some.injEq] at e
      subst e
      exact h3
/-- the same at a step of a region that draws its order -/
theorem step_app_intL {ops : Array Oper} {o : Oper} {a : Act} {K : Act → World → Prop} {Q : Exit → Act → World → Prop} {E : Prop} {w : World} (hgd : o.guard = none) (s x : Operand)
    (ho : o.op = .call { callee := .builtin .append, args := #[s, x], argTypes := #[24, 24] })
    (base : Nat) (zs : List Int) (v : Value) (hs : a.eval s = v) (hown : OwI w base v zs) (ad : Addr) (z : Int) (c : Nat) (hx : a.eval x = .slice (some ad) 1 c) (hc : w.cell? ad = some (.int .i64 z)) (hl : zs.length ≤ 1000000) (hbase : base ≤ w.heap.size)
    (h : ∀ A' m' c' w', OwI w' base (.slice A' m' c') (zs ++ [z]) → w.grownBy w' v.ownBlock → (∀ q, (Value.slice A' m' c').ownBlock = some q → v.ownBlock = some q ∨ q = w.heap.size) → K (a.put o.dst (.slice A' m' c')) w') :
    if Region.wanted o (yielded ops a.tmps) = true then Oper.wp Tryz.prog o a w K Q else E := by
  have HN : (Tryz.prog.info? 2).map (fun i => (i.zero, i.size, i.bytes)) = some (some (.int .i64 0), 1, 8) := by kernel_rfl
  obtain ⟨i0, hi, hz0, hz1, hz2⟩ := info_parts HN
  refine step_append_lies w hgd s x 24 ho base 2 i0 (.int .i64 0) 1 8 Tryz.underlying24 hi hz0 hz1 hz2 rfl (by decide) v zs.length (zs.map (Value.int .i64)) hs hown ad 1 c [.int .i64 z] hx rfl ?_ ?_ (by omega) ?_ ?_ hbase w.heap.size rfl ?_
  · intro j u hj
    cases j with
    | zero => simp only [List.getElem?_cons_zero, Option.some.injEq] at hj; subst hj; rw [add_zero']; exact hc
    | succ j => simp at hj
  · intro u hu
    simp only [List.mem_singleton] at hu
    subst hu
    rfl
  · unfold maxLen; omega
  · omega
  · intro g cap w' h1 h2 h3 _
    refine h _ _ _ w' ?_ h2 (fun q e => ?_)
    · unfold OwI
      rw [List.length_append, List.map_append]
      exact h1
    · simp only [Value.ownBlock, Option.some.injEq] at e
      subst e
      exact h3
end Go.Proofs.YtaikfclgmkfooaaGreatDoor
