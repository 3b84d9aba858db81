/-
  Slices of numbers that a call owns: copies, appends, marks, and what keeps them.
-/
import Derived.Test.YtaikfclgmkfooaaGreatDoorQ
import Derived.Test.YtaikfclgmkfooaaGreatDoorI3
import Derived.Laws.AppendOwnNone
import Derived.Deep.RegionHeld3
import Derived.Deep.AppendLies
set_option linter.unusedSimpArgs false
set_option linter.unusedVariables false
namespace Go.Proofs.YtaikfclgmkfooaaGreatDoor
open Go.RowKit
theorem some_le {a B : Nat} (h : B ≤ a) : ∀ g, some a = some g → B ≤ g := fun g e => by cases e; exact h
theorem OwI.far {w w' : World} {base g : Nat} {v : Value} {zs : List Int} (h : OwI w base v zs) (hg : w.grownBy w' (some g)) (hb : g < base) : OwI w' base v zs := by
  refine World.ownsRow.kept h hg ?_
  rcases h.form with ⟨h1, _⟩ | ⟨g', cap, h1, h2, _⟩
  · exact .inl (by rw [h1]; rfl)
  · refine .inr ?_
    rw [h1]
    intro e
    simp only [Value.ownBlock, Option.some.injEq] at e
    omega
theorem OwI.store {w : World} {base : Nat} {v : Value} {zs : List Int} (h : OwI w base v zs) {p : Addr} (hp : p.block < base) (u : Value) : OwI (w.setCell p u) base v zs := h.far (grownBy_set (World.grownBy.refl _ _) (.inl rfl) u) hp
theorem OwI.alloc {w : World} {base : Nat} {v : Value} {zs : List Int} (h : OwI w base v zs) (o : Obj) : OwI (w.alloc o) base v zs := h.later ((Below.refl _ _).alloc (Nat.le_refl _) o)
theorem owi_of_blk {w : World} {g base : Nat} {cs : Array Value} {n : Nat} {xs : List Int} (h : Blk w g 2 cs) (hs : cs.size = n) (hc : cs.toList = xs.flatMap enI) (hn : n ≤ 1048576) (hb : base ≤ g) : xs.length = n ∧ OwI w base (.slice (some ⟨g, 0, none⟩) n n) xs := by
  rw [← map_flat] at hc
  have hl : xs.length = n := by
    have := congrArg List.length hc
    simpa [hs] using this.symm
  refine ⟨hl, ?_⟩
  unfold OwI
  rw [hl, ← hc]
  exact ⟨by simpa using hs, .inr ⟨g, n, cs, rfl, hb, h, Nat.le_refl _, by unfold maxLen; omega, by omega, List.take_of_length_le (by rw [Array.length_toList, hs]; omega)⟩⟩
theorem ownEmpty (w : World) (base : Nat) (h : base ≤ w.heap.size) : OwI (w.alloc (.cells #[] 2)) base (.slice (some ⟨w.heap.size, 0, none⟩) 0 0) [] :=
  World.ownsRow_lit (base := base) (e := 2) (size := 1) w #[] 0 h (by unfold maxLen; omega) rfl
theorem OwI.sl {w : World} {base : Nat} {v : Value} {zs : List Int} (h : OwI w base v zs) : ∃ A m c, v = .slice A m c := by
  rcases h.form with ⟨h1, _⟩ | ⟨g, cap, h1, _⟩
  · exact ⟨_, _, _, h1⟩
  · exact ⟨_, _, _, h1⟩
/-- append of a list that reads to a slice of the call's own -/
theorem wpl_app_ints {ops : Array Oper} {rest : List Oper} {o : Oper} {a : Act} {Q : Exit → Act → World → Prop} {w : World} (hgd : o.guard = none) (s x : Operand)
    (ho : o.op = .call { callee := .builtin .append, args := #[s, x], argTypes := #[24, 24] })
    (base : Nat) (zs : List Int) (v : Value) (hs : a.eval s = v) (hown : OwI w base v zs) (B : Nat) (A : Option Addr) (m c : Nat) (src : List Int) (hx : a.eval x = .slice A m c) (hr : RdI w B A m src) (hA : A = none → c = 0) (hl : zs.length + m ≤ 3000000) (hbase : base ≤ w.heap.size)
    (h : ∀ v' w', OwI w' base v' (zs ++ src) → w.grownBy w' v.ownBlock → wpList Tryz.prog ops Q rest (a.put o.dst v') w') : wpList Tryz.prog ops Q (o :: rest) a w := by
  have HN : (Tryz.prog.info? 2).map (fun i => (i.zero, i.size, i.bytes)) = some (some (.int .i64 0), 1, 8) := by kernel_rfl
  obtain ⟨i0, hi, hz0, hz1, hz2⟩ := info_parts HN
  cases A with
  | none =>
    have hm : m = 0 := by
      rcases Nat.eq_zero_or_pos m with h0 | h0
      · exact h0
      · obtain ⟨ad, h1, _⟩ := hr.2 h0
        cases h1
    have hsrc : src = [] := List.eq_nil_of_length_eq_zero (by rw [hr.len, hm])
    have hc := hA rfl
    subst hm hc hsrc
    refine wpList_append_own_none hgd s x 24 ho base 2 i0 1 Tryz.underlying24 hi v zs.length (zs.map (Value.int .i64)) hs hown hx ?_
    have := h v w (by rw [List.append_nil]; exact hown) (World.grownBy.refl _ _)
    exact this
  | some ad =>
    refine wpList_append_own w hgd s x 24 ho base 2 i0 (.int .i64 0) 1 8 Tryz.underlying24 hi hz0 hz1 hz2 rfl (by decide) v zs.length (zs.map (Value.int .i64)) hs hown ad m c (src.map (Value.int .i64)) hx (by rw [List.length_map, hr.len, Nat.mul_one]) ?_ ?_ ?_ ?_ hbase ?_
    · intro j u hj
      rw [List.getElem?_map] at hj
      cases hz : src[j]? with
      | none => rw [hz] at hj; cases hj
      | some z =>
        rw [hz] at hj
        simp only [Option.map_some, Option.some.injEq] at hj
        subst hj
        have hjl : j < m := by have := (List.getElem?_eq_some_iff.1 hz).1; rw [hr.len] at this; exact this
        obtain ⟨ad', z', e1, _, e2, e3⟩ := RdI.atI hr hjl
        cases e1
        rw [hz] at e2
        cases e2
        exact e3
    · intro u hu
      simp only [List.mem_map] at hu
      obtain ⟨z, _, rfl⟩ := hu
      rfl
    · unfold maxLen; omega
    · omega
    · intro v' w' h1 h2 _
      refine h v' w' ?_ h2
      unfold OwI
      rw [List.length_append, List.map_append, hr.len]
      exact h1
/-- append of one number to a slice of the call's own -/
theorem wpl_app_int {ops : Array Oper} {rest : List Oper} {o : Oper} {a : Act} {Q : Exit → Act → World → Prop} {w : World} (hgd : o.guard = none) (s x : Operand)
    (ho : o.op = .call { callee := .builtin .append, args := #[s, x], argTypes := #[24, 24] })
    (base : Nat) (zs : List Int) (v : Value) (hs : a.eval s = v) (hown : OwI w base v zs) (ad : Addr) (z : Int) (c : Nat) (hx : a.eval x = .slice (some ad) 1 c) (hc : w.cell? ad = some (.int .i64 z)) (hl : zs.length ≤ 1000000) (hbase : base ≤ w.heap.size)
    (h : ∀ v' w', OwI w' base v' (zs ++ [z]) → w.grownBy w' v.ownBlock → wpList Tryz.prog ops Q rest (a.put o.dst v') w') : wpList Tryz.prog ops Q (o :: rest) a w := by
  have HN : (Tryz.prog.info? 2).map (fun i => (i.zero, i.size, i.bytes)) = some (some (.int .i64 0), 1, 8) := by kernel_rfl
  obtain ⟨i0, hi, hz0, hz1, hz2⟩ := info_parts HN
  refine wpList_append_own w hgd s x 24 ho base 2 i0 (.int .i64 0) 1 8 Tryz.underlying24 hi hz0 hz1 hz2 rfl (by decide) v zs.length (zs.map (Value.int .i64)) hs hown ad 1 c [.int .i64 z] hx rfl ?_ ?_ ?_ ?_ hbase ?_
  · intro j u hj
    cases j with
    | zero => simp only [List.getElem?_cons_zero, Option.some.injEq] at hj; subst hj; rw [add_zero']; exact hc
    | succ j => simp at hj
  · intro u hu
    simp only [List.mem_singleton] at hu
    subst hu
    rfl
  · unfold maxLen; omega
  · omega
  · intro v' w' h1 h2 _
    refine h v' w' ?_ h2
    unfold OwI
    rw [List.length_append, List.map_append]
    exact h1
/-- the same at a step of a region that draws its order -/
theorem step_app_int {ops : Array Oper} {o : Oper} {a : Act} {K : Act → World → Prop} {Q : Exit → Act → World → Prop} {E : Prop} {w : World} (hgd : o.guard = none) (s x : Operand)
    (ho : o.op = .call { callee := .builtin .append, args := #[s, x], argTypes := #[24, 24] })
    (base : Nat) (zs : List Int) (v : Value) (hs : a.eval s = v) (hown : OwI w base v zs) (ad : Addr) (z : Int) (c : Nat) (hx : a.eval x = .slice (some ad) 1 c) (hc : w.cell? ad = some (.int .i64 z)) (hl : zs.length ≤ 1000000) (hbase : base ≤ w.heap.size)
    (h : ∀ A' m' c' w', OwI w' base (.slice A' m' c') (zs ++ [z]) → w.grownBy w' v.ownBlock → K (a.put o.dst (.slice A' m' c')) w') :
    if Region.wanted o (yielded ops a.tmps) = true then Oper.wp Tryz.prog o a w K Q else E := by
  have HN : (Tryz.prog.info? 2).map (fun i => (i.zero, i.size, i.bytes)) = some (some (.int .i64 0), 1, 8) := by kernel_rfl
  obtain ⟨i0, hi, hz0, hz1, hz2⟩ := info_parts HN
  refine step_append_lies w hgd s x 24 ho base 2 i0 (.int .i64 0) 1 8 Tryz.underlying24 hi hz0 hz1 hz2 rfl (by decide) v zs.length (zs.map (Value.int .i64)) hs hown ad 1 c [.int .i64 z] hx rfl ?_ ?_ (by omega) ?_ ?_ hbase w.heap.size rfl ?_
  · intro j u hj
    cases j with
    | zero => simp only [List.getElem?_cons_zero, Option.some.injEq] at hj; subst hj; rw [add_zero']; exact hc
    | succ j => simp at hj
  · intro u hu
    simp only [List.mem_singleton] at hu
    subst hu
    rfl
  · unfold maxLen; omega
  · omega
  · intro g cap w' h1 h2 _ _
    refine h _ _ _ w' ?_ h2
    unfold OwI
    rw [List.length_append, List.map_append]
    exact h1
theorem OwI.none_cap {w : World} {base : Nat} {A : Option Addr} {n c : Nat} {zs : List Int} (h : OwI w base (.slice A n c) zs) : A = none → c = 0 := by
  intro e
  subst e
  rcases h.form with ⟨h1, _⟩ | ⟨g', cap, h1, _⟩
  · injection h1
  · injection h1 with e1
    cases e1
theorem own_rowI {w : World} {base : Nat} {v : Value} {zs : List Int} (h : OwI w base v zs) : ∀ g, v.ownBlock = some g → base ≤ g ∧ g < w.heap.size := by
  intro g e
  rcases h.form with ⟨h1, _⟩ | ⟨g', cap, h1, h2, h3, _⟩
  · rw [h1] at e; cases e
  · rw [h1] at e
    simp only [Value.ownBlock, Option.some.injEq] at e
    omega
theorem OwI.apart {w w' : World} {base : Nat} {v : Value} {zs : List Int} {row : Option Nat} (h : OwI w base v zs) (hg : w.grownBy w' row) (hb : ∀ g, row = some g → g < base) : OwI w' base v zs := by
  refine World.ownsRow.kept h hg ?_
  rcases h.form with ⟨h1, _⟩ | ⟨g', cap, h1, h2, _⟩
  · exact .inl (by rw [h1]; rfl)
  · refine .inr ?_
    rw [h1]
    intro e
    simp only [Value.ownBlock] at e
    have := hb g' e.symm
    omega
theorem blk_later {w w' : World} {g : Nat} {t : TypeId} {cs : Array Value} (h : Blk w g t cs) (hb : Below w.heap.size w w') : Blk w' g t cs := h.below hb h.lt
theorem al_ (w : World) (o : Obj) : Below w.heap.size w (w.alloc o) := (Below.refl _ _).alloc (Nat.le_refl _) _
set_option maxHeartbeats 1000000 in
theorem sOwn_any (A : Option Addr) (n c : Nat) (xs : List Int) (w : World) (h : RdI w w.heap.size A n xs) (hA : A = none → c = 0) (hn : n ≤ 1048576) : Calls Tryz.prog 53 #[.slice A n c] w fun e w' => ∃ A' m' c', e = .returned (.slice A' m' c') ∧ OwI w' w.heap.size (.slice A' m' c') xs ∧ Below w.heap.size w w' := by
  have H := Lib.hid (h.cur (.cells #[] 2))
  clear h
  go_enter Tryz.func53, Tryz.ntmps53
  go_wp2_with (at_builtin; refine wpl_app_ints rfl _ _ rfl w.heap.size [] _ (by rfl) (ownEmpty w _ (Nat.le_refl _)) _ A n c xs (by rfl) H.out hA (by simp; omega) (by simp) ?_; intro v' w1 ho hg; obtain ⟨A1, m1, c1, rfl⟩ := ho.sl; rw [List.nil_append] at ho; have HO := Lib.hid ho; clear ho)
  go_ret
  exact ⟨_, _, _, rfl, HO.out, ((Below.refl _ _).alloc (Nat.le_refl _) _).grown hg (by simp) (some_le (Nat.le_refl _))⟩
set_option maxHeartbeats 1000000 in
theorem clone_any (A : Option Addr) (n c : Nat) (xs : List Int) (w : World) (h : RdI w w.heap.size A n xs) (hA : A = none → c = 0) (hn : n ≤ 1048576) : Calls Tryz.prog 69 #[.slice A n c] w fun e w' => ∃ A' m' c', e = .returned (.slice A' m' c') ∧ OwI w' w.heap.size (.slice A' m' c') xs ∧ Below w.heap.size w w' := by
  cases A with
  | none =>
    have hm : n = 0 := by
      rcases Nat.eq_zero_or_pos n with h0 | h0
      · exact h0
      · obtain ⟨ad, h1, _⟩ := h.2 h0
        cases h1
    have hx : Hid (xs = []) := List.eq_nil_of_length_eq_zero (by rw [h.len, hm])
    have hc := hA rfl
    subst hc
    clear h hm
    have e1 := @Lib.run_eql_slice_nil Tryz.prog
    go_enter Tryz.func69, Tryz.ntmps69
    go_wp2
    go_ret
    exact ⟨none, 0, 0, rfl, by rw [hx.out]; exact World.ownsRow_nil _ _ _ _, Below.refl _ _⟩
  | some ad =>
    have H := Lib.hid (h.cur (.cells #[] 2))
    clear h
    have e1 := @Lib.run_eql_slice_nil Tryz.prog
    go_enter Tryz.func69, Tryz.ntmps69
    go_wp2_with (at_builtin; refine wpl_app_ints rfl _ _ rfl w.heap.size [] _ (by rfl) (ownEmpty w _ (Nat.le_refl _)) _ (some ad) n c xs (by rfl) H.out hA (by simp; omega) (by simp) ?_; intro v' w1 ho hg; obtain ⟨A1, m1, c1, rfl⟩ := ho.sl; rw [List.nil_append] at ho; have HO := Lib.hid ho; clear ho)
    go_ret
    exact ⟨_, _, _, rfl, HO.out, ((Below.refl _ _).alloc (Nat.le_refl _) _).grown hg (by simp) (some_le (Nat.le_refl _))⟩
end Go.Proofs.YtaikfclgmkfooaaGreatDoor
