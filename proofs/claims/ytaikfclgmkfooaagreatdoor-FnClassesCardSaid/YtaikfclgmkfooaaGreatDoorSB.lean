/-
  Slices of strings: read, owned, appended to.
-/
import Derived.Test.YtaikfclgmkfooaaGreatDoorS
import Derived.Test.YtaikfclgmkfooaaGreatDoorOW
import Derived.Test.YtaikfclgmkfooaaGreatDoorOL
set_option linter.unusedSimpArgs false
set_option linter.unusedVariables false
namespace Go.Proofs.YtaikfclgmkfooaaGreatDoor
open Go.RowKit
/-- string elements -/
def enW (s : ByteArray) : List Value := [.string s]
abbrev RdW := RdS enW 1
theorem RdW.atW {w : World} {B : Nat} {A : Option Addr} {n : Nat} {zs : List ByteArray} {k : Nat} (h : RdW w B A n zs) (hk : k < n) :
    ∃ ad z, A = some ad ∧ ad.block < B ∧ zs[k]? = some z ∧ w.cell? (ad.add k) = some (.string z) := by
  obtain ⟨ad, z, h1, h2, h3, h4⟩ := h.at_ hk
  exact ⟨ad, z, h1, h2, h3, by simpa using h4 0 _ rfl⟩
/-- v is a slice of strings that lies in a block of its own from block base on, and reads as zs -/
def OwW (w : World) (base : Nat) (v : Value) (zs : List ByteArray) : Prop := w.ownsRow base 9 1 v zs.length (zs.map Value.string)
theorem OwW.form {w : World} {base : Nat} {v : Value} {zs : List ByteArray} (h : OwW w base v zs) : (v = .slice none 0 0 ∧ zs = []) ∨ ∃ g cap, v = .slice (some ⟨g, 0, none⟩) zs.length cap ∧ base ≤ g ∧ g < w.heap.size ∧ zs.length ≤ cap ∧ cap ≤ maxLen := by
  have hlt := h.lt
  obtain ⟨h1, h2⟩ := h
  rcases h2 with ⟨rfl, hn⟩ | ⟨g, cap, cur, rfl, hg, hh, hn, hm, _⟩
  · exact .inl ⟨rfl, List.eq_nil_of_length_eq_zero hn⟩
  · exact .inr ⟨g, cap, rfl, hg, (hlt g rfl).2, hn, hm⟩
theorem map_flatW (zs : List ByteArray) : zs.map Value.string = zs.flatMap enW := by
  induction zs with
  | nil => rfl
  | cons z zs ih => rw [List.map_cons, List.flatMap_cons, ih]; rfl
theorem OwW.rd {w : World} {base : Nat} {A : Option Addr} {n c : Nat} {zs : List ByteArray} (h : OwW w base (.slice A n c) zs) : n = zs.length ∧ RdW w w.heap.size A n zs := by
  have hn : n = zs.length := by
    rcases h.form with ⟨h1, h2⟩ | ⟨g, cap, h1, _⟩
    · injection h1 with h1 h3; subst h2; exact h3
    · injection h1
  subst hn
  exact ⟨rfl, RdS.of_own (fun x => rfl) h (map_flatW zs) rfl⟩
theorem OwW.caps {w : World} {base : Nat} {A : Option Addr} {n c : Nat} {zs : List ByteArray} (h : OwW w base (.slice A n c) zs) : n ≤ c ∧ c ≤ maxLen := by
  rcases h.form with ⟨h1, h2⟩ | ⟨g, cap, h1, _, _, h2, h3⟩
  · injection h1 with _ h1 h3
    subst h1 h3
    exact ⟨Nat.le_refl _, by unfold maxLen; omega⟩
  · injection h1 with _ h1 h4
    subst h1 h4
    exact ⟨h2, h3⟩
theorem OwW.below {w w' : World} {base B : Nat} {v : Value} {zs : List ByteArray} (h : OwW w base v zs) (hb : Below B w w') (hB : w.heap.size ≤ B) : OwW w' base v zs :=
  World.ownsRow.kept (row := none) h ⟨hb.os, hb.tape, hb.output, hb.size, fun i hi _ => hb.block i (by omega)⟩ (by cases hv : v.ownBlock <;> simp)
theorem OwW.later {w w' : World} {base : Nat} {v : Value} {zs : List ByteArray} (h : OwW w base v zs) (hb : Below w.heap.size w w') : OwW w' base v zs := h.below hb (Nat.le_refl _)
theorem OwW.off {w w' : World} {base p : Nat} {v : Value} {zs : List ByteArray} (h : OwW w base v zs) (hg : w.grownBy w' (some p)) (hq : ∀ q, v.ownBlock = some q → q ≠ p) : OwW w' base v zs := by
  refine World.ownsRow.kept h hg ?_
  cases hv : v.ownBlock with
  | none => exact .inl rfl
  | some q =>
    refine .inr ?_
    intro e
    injection e with e
    exact hq q hv e
theorem ownEmptyW (w : World) (base : Nat) (h : base ≤ w.heap.size) : OwW (w.alloc (.cells #[] 9)) base (.slice (some ⟨w.heap.size, 0, none⟩) 0 0) [] :=
  World.ownsRow_lit (base := base) (e := 9) (size := 1) w #[] 0 h (by unfold maxLen; omega) rfl
theorem OwW.sl {w : World} {base : Nat} {v : Value} {zs : List ByteArray} (h : OwW w base v zs) : ∃ A m c, v = .slice A m c := by
  rcases h.form with ⟨h1, _⟩ | ⟨g, cap, h1, _⟩
  · exact ⟨_, _, _, h1⟩
  · exact ⟨_, _, _, h1⟩
theorem own_rowW {w : World} {base : Nat} {v : Value} {zs : List ByteArray} (h : OwW w base v zs) : ∀ g, v.ownBlock = some g → base ≤ g ∧ g < w.heap.size := by
  intro g e
  rcases h.form with ⟨h1, _⟩ | ⟨g', cap, h1, h2, h3, _⟩
  · rw [h1] at e; cases e
  · rw [h1] at e
    simp only [Value.ownBlock, Option.some.injEq] at e
    omega
/-- append of one string, in a plain region -/
theorem wpl_app_str {ops : Array Oper} {rest : List Oper} {o : Oper} {a : Act} {Q : Exit → Act → World → Prop} {w : World} (hgd : o.guard = none) (s x : Operand)
    (ho : o.op = .call { callee := .builtin .append, args := #[s, x], argTypes := #[48, 48] })
    (base : Nat) (zs : List ByteArray) (v : Value) (hs : a.eval s = v) (hown : OwW w base v zs) (ad : Addr) (z : ByteArray) (c : Nat) (hx : a.eval x = .slice (some ad) 1 c) (hc : w.cell? ad = some (.string z)) (hl : zs.length ≤ 2000000) (hbase : base ≤ w.heap.size)
    (h : ∀ A' m' c' w', OwW w' base (.slice A' m' c') (zs ++ [z]) → w.grownBy w' v.ownBlock → (∀ q, (Value.slice A' m' c').ownBlock = some q → v.ownBlock = some q ∨ q = w.heap.size) → wpList Tryz.prog ops Q rest (a.put o.dst (.slice A' m' c')) w') : wpList Tryz.prog ops Q (o :: rest) a w := by
  have HN : (Tryz.prog.info? 9).map (fun i => (i.zero, i.size, i.bytes)) = some (some (.string ByteArray.empty), 1, 16) := by kernel_rfl
  obtain ⟨i0, hi, hz0, hz1, hz2⟩ := info_parts HN
  refine wpList_append_lies w hgd s x 48 ho base 9 i0 (.string ByteArray.empty) 1 16 Tryz.underlying48 hi hz0 hz1 hz2 rfl (by decide) v zs.length (zs.map Value.string) hs hown ad 1 c [.string z] hx rfl ?_ ?_ (by omega) ?_ ?_ hbase w.heap.size rfl ?_
  · intro j u hj
    cases j with
    | zero => simp only [List.getElem?_cons_zero, Option.some.injEq] at hj; subst hj; rw [add_zero']; exact hc
    | succ j => simp at hj
  · intro u hu
    simp only [List.mem_singleton] at hu
    subst hu
    rfl
  · unfold maxLen; omega
  · omega
  · intro g cap w' h1 h2 h3 _
    refine h _ _ _ w' ?_ h2 (fun q e => ?_)
    · unfold OwW
      rw [List.length_append, List.map_append]
      exact h1
    · simp only [Value.ownBlock, Option.some.injEq] at e
      subst e
      exact h3
/-- the same at a step of a region that draws its order -/
theorem step_app_str {ops : Array Oper} {o : Oper} {a : Act} {K : Act → World → Prop} {Q : Exit → Act → World → Prop} {E : Prop} {w : World} (hgd : o.guard = none) (s x : Operand)
    (ho : o.op = .call { callee := .builtin .append, args := #[s, x], argTypes := #[48, 48] })
    (base : Nat) (zs : List ByteArray) (v : Value) (hs : a.eval s = v) (hown : OwW w base v zs) (ad : Addr) (z : ByteArray) (c : Nat) (hx : a.eval x = .slice (some ad) 1 c) (hc : w.cell? ad = some (.string z)) (hl : zs.length ≤ 2000000) (hbase : base ≤ w.heap.size)
    (h : ∀ A' m' c' w', OwW w' base (.slice A' m' c') (zs ++ [z]) → w.grownBy w' v.ownBlock → (∀ q, (Value.slice A' m' c').ownBlock = some q → v.ownBlock = some q ∨ q = w.heap.size) → K (a.put o.dst (.slice A' m' c')) w') :
    if Region.wanted o (yielded ops a.tmps) = true then Oper.wp Tryz.prog o a w K Q else E := by
  have HN : (Tryz.prog.info? 9).map (fun i => (i.zero, i.size, i.bytes)) = some (some (.string ByteArray.empty), 1, 16) := by kernel_rfl
  obtain ⟨i0, hi, hz0, hz1, hz2⟩ := info_parts HN
  refine step_append_lies w hgd s x 48 ho base 9 i0 (.string ByteArray.empty) 1 16 Tryz.underlying48 hi hz0 hz1 hz2 rfl (by decide) v zs.length (zs.map Value.string) hs hown ad 1 c [.string z] hx rfl ?_ ?_ (by omega) ?_ ?_ hbase w.heap.size rfl ?_
  · intro j u hj
    cases j with
    | zero => simp only [List.getElem?_cons_zero, Option.some.injEq] at hj; subst hj; rw [add_zero']; exact hc
    | succ j => simp at hj
  · intro u hu
    simp only [List.mem_singleton] at hu
    subst hu
    rfl
  · unfold maxLen; omega
  · omega
  · intro g cap w' h1 h2 h3 _
    refine h _ _ _ w' ?_ h2 (fun q e => ?_)
    · unfold OwW
      rw [List.length_append, List.map_append]
      exact h1
    · simp only [Value.ownBlock, Option.some.injEq] at e
      subst e
      exact h3
/-- append of one number, in a plain region -/
theorem wpl_app_intM {ops : Array Oper} {rest : List Oper} {o : Oper} {a : Act} {Q : Exit → Act → World → Prop} {w : World} (hgd : o.guard = none) (s x : Operand)
    (ho : o.op = .call { callee := .builtin .append, args := #[s, x], argTypes := #[24, 24] })
    (base : Nat) (zs : List Int) (v : Value) (hs : a.eval s = v) (hown : OwI w base v zs) (ad : Addr) (z : Int) (c : Nat) (hx : a.eval x = .slice (some ad) 1 c) (hc : w.cell? ad = some (.int .i64 z)) (hl : zs.length ≤ 2000000) (hbase : base ≤ w.heap.size)
    (h : ∀ A' m' c' w', OwI w' base (.slice A' m' c') (zs ++ [z]) → w.grownBy w' v.ownBlock → (∀ q, (Value.slice A' m' c').ownBlock = some q → v.ownBlock = some q ∨ q = w.heap.size) → wpList Tryz.prog ops Q rest (a.put o.dst (.slice A' m' c')) w') : wpList Tryz.prog ops Q (o :: rest) a w := by
  have HN : (Tryz.prog.info? 2).map (fun i => (i.zero, i.size, i.bytes)) = some (some (.int .i64 0), 1, 8) := by kernel_rfl
  obtain ⟨i0, hi, hz0, hz1, hz2⟩ := info_parts HN
  refine wpList_append_lies w hgd s x 24 ho base 2 i0 (.int .i64 0) 1 8 Tryz.underlying24 hi hz0 hz1 hz2 rfl (by decide) v zs.length (zs.map (Value.int .i64)) hs hown ad 1 c [.int .i64 z] hx rfl ?_ ?_ (by omega) ?_ ?_ hbase w.heap.size rfl ?_
  · intro j u hj
    cases j with
    | zero => simp only [List.getElem?_cons_zero, Option.some.injEq] at hj; subst hj; rw [add_zero']; exact hc
    | succ j => simp at hj
  · intro u hu
    simp only [List.mem_singleton] at hu
    subst hu
    rfl
  · unfold maxLen; omega
  · omega
  · intro g cap w' h1 h2 h3 _
    refine h _ _ _ w' ?_ h2 (fun q e => ?_)
    · unfold OwI
      rw [List.length_append, List.map_append]
      exact h1
    · simp only [Value.ownBlock, Option.some.injEq] at e
      subst e
      exact h3
/-- the same at a step of a region that draws its order -/
theorem step_app_intM {ops : Array Oper} {o : Oper} {a : Act} {K : Act → World → Prop} {Q : Exit → Act → World → Prop} {E : Prop} {w : World} (hgd : o.guard = none) (s x : Operand)
    (ho : o.op = .call { callee := .builtin .append, args := #[s, x], argTypes := #[24, 24] })
    (base : Nat) (zs : List Int) (v : Value) (hs : a.eval s = v) (hown : OwI w base v zs) (ad : Addr) (z : Int) (c : Nat) (hx : a.eval x = .slice (some ad) 1 c) (hc : w.cell? ad = some (.int .i64 z)) (hl : zs.length ≤ 2000000) (hbase : base ≤ w.heap.size)
    (h : ∀ A' m' c' w', OwI w' base (.slice A' m' c') (zs ++ [z]) → w.grownBy w' v.ownBlock → (∀ q, (Value.slice A' m' c').ownBlock = some q → v.ownBlock = some q ∨ q = w.heap.size) → K (a.put o.dst (.slice A' m' c')) w') :
    if Region.wanted o (yielded ops a.tmps) = true then Oper.wp Tryz.prog o a w K Q else E := by
  have HN : (Tryz.prog.info? 2).map (fun i => (i.zero, i.size, i.bytes)) = some (some (.int .i64 0), 1, 8) := by kernel_rfl
  obtain ⟨i0, hi, hz0, hz1, hz2⟩ := info_parts HN
  refine step_append_lies w hgd s x 24 ho base 2 i0 (.int .i64 0) 1 8 Tryz.underlying24 hi hz0 hz1 hz2 rfl (by decide) v zs.length (zs.map (Value.int .i64)) hs hown ad 1 c [.int .i64 z] hx rfl ?_ ?_ (by omega) ?_ ?_ hbase w.heap.size rfl ?_
  · intro j u hj
    cases j with
    | zero => simp only [List.getElem?_cons_zero, Option.some.injEq] at hj; subst hj; rw [add_zero']; exact hc
    | succ j => simp at hj
  · intro u hu
    simp only [List.mem_singleton] at hu
    subst hu
    rfl
  · unfold maxLen; omega
  · omega
  · intro g cap w' h1 h2 h3 _
    refine h _ _ _ w' ?_ h2 (fun q e => ?_)
    · unfold OwI
      rw [List.length_append, List.map_append]
      exact h1
    · simp only [Value.ownBlock, Option.some.injEq] at e
      subst e
      exact h3
end Go.Proofs.YtaikfclgmkfooaaGreatDoor
