/-
  Draws of chapter 13: what a class is run with, and what it is paid.
-/
import Derived.Test.YtmhbkabdiciakaaX1
import Derived.Test.YtmhbkabdiciakaaY1
import Derived.Test.YtmhbkabdiciakaaM2
set_option linter.unusedSimpArgs false
set_option linter.unusedVariables false
namespace Go.Proofs.Ytmhbkabdiciakaa
open Go.RowKit
def slv (e : Option Addr × Nat × Nat) : Value := .slice e.1 e.2.1 e.2.2
/-- a slice of slices of a call's own -/
def OwE (w : World) (base : Nat) (v : Value) (es : List (Option Addr × Nat × Nat)) : Prop := w.ownsRow base 24 1 v es.length (es.map slv)
theorem OwE.row {w : World} {base : Nat} {v : Value} {es : List (Option Addr × Nat × Nat)} (h : OwE w base v es) {q : Nat} (hq : v.ownBlock = some q) : base ≤ q ∧ q < w.heap.size ∧ ∃ cur, w.heap[q]? = some (.cells cur 24 (0, 0)) := by
  rcases h.2 with ⟨hv, _⟩ | ⟨g, cap, cur, hv, hb, hh, _⟩
  · rw [hv] at hq; cases hq
  · rw [hv] at hq
    simp only [Value.ownBlock, Option.some.injEq] at hq
    subst hq
    refine ⟨hb, ?_, cur, hh⟩
    rcases Nat.lt_or_ge g w.heap.size with h1 | h1
    · exact h1
    · rw [Array.getElem?_eq_none h1] at hh; cases hh
theorem OwI.row {w : World} {base : Nat} {v : Value} {zs : List Int} (h : OwI w base v zs) {q : Nat} (hq : v.ownBlock = some q) : base ≤ q ∧ q < w.heap.size ∧ ∃ cur, w.heap[q]? = some (.cells cur 2 (0, 0)) := by
  rcases h.2 with ⟨hv, _⟩ | ⟨g, cap, cur, hv, hb, hh, _⟩
  · rw [hv] at hq; cases hq
  · rw [hv] at hq
    simp only [Value.ownBlock, Option.some.injEq] at hq
    subst hq
    refine ⟨hb, ?_, cur, hh⟩
    rcases Nat.lt_or_ge g w.heap.size with h1 | h1
    · exact h1
    · rw [Array.getElem?_eq_none h1] at hh; cases hh
theorem rows_differ {w : World} {b b' : Nat} {v v' : Value} {zs : List Int} {es : List (Option Addr × Nat × Nat)} (h : OwI w b v zs) (h' : OwE w b' v' es) {q : Nat} (hq : v.ownBlock = some q) : v'.ownBlock ≠ some q := by
  intro e
  obtain ⟨_, _, cur, h1⟩ := h.row hq
  obtain ⟨_, _, cur', h2⟩ := h'.row e
  rw [h1] at h2
  simp only [Option.some.injEq, Obj.cells.injEq] at h2
  exact absurd h2.2.1 (by decide)
theorem OwE.kept {w w' : World} {base : Nat} {v : Value} {es : List (Option Addr × Nat × Nat)} {row : Option Nat} (h : OwE w base v es) (hg : w.grownBy w' row) (hq : ∀ q, v.ownBlock = some q → row ≠ some q) : OwE w' base v es := by
  refine World.ownsRow.kept h hg ?_
  cases hv : v.ownBlock with
  | none => exact .inl rfl
  | some q => exact .inr (fun e => hq q hv e.symm)
theorem OwE.alloc {w : World} {base : Nat} {v : Value} {es : List (Option Addr × Nat × Nat)} (h : OwE w base v es) (o : Obj) : OwE (w.alloc o) base v es := World.ownsRow.alloc h o
theorem OwE.rd {w : World} {base : Nat} {E : Option Addr} {ne ec : Nat} {es : List (Option Addr × Nat × Nat)} (h : OwE w base (.slice E ne ec) es) : ne = es.length ∧ RdS enSl 1 w w.heap.size E ne es := by
  obtain ⟨h0, h1⟩ := h
  rcases h1 with ⟨hv, hn⟩ | ⟨g, cap, cur, hv, hb, hh, h1, h2, h3, h4⟩
  · injection hv with e1 e2 e3
    subst e1 e2 e3
    have : es = [] := List.eq_nil_of_length_eq_zero hn
    subst this
    exact ⟨rfl, RdS.nil_⟩
  · injection hv with e1 e2 e3
    subst e1 e2 e3
    refine ⟨rfl, rfl, fun _ => ⟨_, rfl, ?_, fun i e he j v hv => ?_⟩⟩
    · rcases Nat.lt_or_ge g w.heap.size with h5 | h5
      · exact h5
      · rw [Array.getElem?_eq_none h5] at hh; cases hh
    · have hj : j = 0 := by
        rcases j with _ | j
        · rfl
        · unfold enSl at hv; simp at hv
      subst hj
      have hv2 : v = slv e := by unfold enSl at hv; simpa [slv] using hv.symm
      subst hv2
      have h6 : (⟨g, 0, none⟩ : Addr).add (i * 1 + 0) = ⟨g, i, none⟩ := by
        unfold Addr.add
        by_cases h0 : i = 0
        · subst h0; rfl
        · simp [h0]
      have hil := (List.getElem?_eq_some_iff.1 he).1
      have h7 : w.cell? ⟨g, i, none⟩ = cur[i]? := cell_of_row w g i cur 24 (0, 0) hh
      rw [h6, h7, ← Array.getElem?_toList]
      have h8 : (cur.toList.take (es.length * 1))[i]? = some (slv e) := by rw [h4, List.getElem?_map, he]; rfl
      rwa [List.getElem?_take_of_lt (by omega)] at h8
theorem ownEmptyE (w : World) (base : Nat) (h : base ≤ w.heap.size) : OwE (w.alloc (.cells #[] 24)) base (.slice (some ⟨w.heap.size, 0, none⟩) 0 0) [] :=
  World.ownsRow_lit (base := base) (e := 24) (size := 1) w #[] 0 h (by unfold maxLen; omega) rfl
/-- append of one slice to a slice of slices -/
theorem wpl_app_sl {ops : Array Oper} {rest : List Oper} {o : Oper} {a : Act} {Q : Exit → Act → World → Prop} {w : World} (hgd : o.guard = none) (s x : Operand)
    (ho : o.op = .call { callee := .builtin .append, args := #[s, x], argTypes := #[27, 27] })
    (base : Nat) (es : List (Option Addr × Nat × Nat)) (v : Value) (hs : a.eval s = v) (hown : OwE w base v es) (ad : Addr) (e : Option Addr × Nat × Nat) (c : Nat) (hx : a.eval x = .slice (some ad) 1 c) (hc : w.cell? ad = some (slv e)) (hl : es.length ≤ 1000000) (hbase : base ≤ w.heap.size)
    (h : ∀ A' m' c' w', OwE w' base (.slice A' m' c') (es ++ [e]) → w.grownBy w' v.ownBlock → (∀ q, (Value.slice A' m' c').ownBlock = some q → v.ownBlock = some q ∨ q = w.heap.size) → wpList Try.prog ops Q rest (a.put o.dst (.slice A' m' c')) w') : wpList Try.prog ops Q (o :: rest) a w := by
  have HN : (Try.prog.info? 24).map (fun i => (i.zero, i.size, i.bytes)) = some (some (.slice none 0 0), 1, 24) := by kernel_rfl
  obtain ⟨i0, hi, hz0, hz1, hz2⟩ := info_parts HN
  refine wpList_append_lies w hgd s x 27 ho base 24 i0 (.slice none 0 0) 1 24 Try.underlying27 hi hz0 hz1 hz2 rfl (by decide) v es.length (es.map slv) hs hown ad 1 c [slv e] hx rfl ?_ ?_ (by omega) ?_ ?_ hbase w.heap.size rfl ?_
  · intro j u hj
    cases j with
    | zero => simp only [List.getElem?_cons_zero, Option.some.injEq] at hj; subst hj; rw [add_zero']; exact hc
    | succ j => simp at hj
  · intro u hu
    simp only [List.mem_singleton] at hu
    subst hu
    rfl
  · unfold maxLen; omega
  · omega
  · intro g cap w' h1 h2 h3 _
    refine h _ _ _ w' ?_ h2 (fun q e => ?_)
    · unfold OwE
      rw [List.length_append, List.map_append]
      exact h1
    · simp only [Value.ownBlock, Option.some.injEq] at e
      subst e
      exact h3
theorem blk_near {w w1 : World} {g g' : Nat} {t : TypeId} {cs : Array Value} (h : Blk w g t cs) (hg : w.grownBy w1 (some g')) (hne : g < g') : Blk w1 g t cs := Blk.grown h hg (fun e => by injection e with e; omega)
/-- what stands while a run is drawn -/
structure RW (B g b1 cb : Nat) (w : World) (W : World) (S : Option Addr) (n c : Nat) (ss : List Int) (D : Option Addr) (m d : Nat) (ds : List Int) (ch : Int) (I : Option Addr) (ni ic : Nat) (is : List Int) (X : Option Addr) (nx xc : Nat) (xl : List Int) (E : Option Addr) (ne ec : Nat) (es : List (Option Addr × Nat × Nat)) (dd : List (List Int)) : Prop where
  src : Src B W g
  bel : Below w.heap.size w W
  res : Blk W w.heap.size 26 #[.slice none 0 0, .slice none 0 0, .int .i64 0]
  box : Blk W cb 26 #[.slice S n c, .slice D m d, .int .i64 ch]
  oS : OwI W b1 (.slice S n c) ss
  oD : OwI W b1 (.slice D m d) ds
  oI : OwI W (cb + 1) (.slice I ni ic) is
  oX : OwI W (cb + 1) (.slice X nx xc) xl
  oE : OwE W (cb + 1) (.slice E ne ec) es
  hJ : ∀ (j : Nat) e l, es[j]? = some e → dd[j]? = some l → OwI W (cb + 1) (slv e) l
  ldd : dd.length = es.length
  rS : ∀ q, (Value.slice S n c).ownBlock = some q ∨ (Value.slice D m d).ownBlock = some q → q < cb
  aIX : ∀ q, (Value.slice I ni ic).ownBlock = some q → (Value.slice X nx xc).ownBlock ≠ some q
  aJ : ∀ (j : Nat) e, es[j]? = some e → ∀ q, (slv e).ownBlock = some q → (Value.slice I ni ic).ownBlock ≠ some q ∧ (Value.slice X nx xc).ownBlock ≠ some q
  lv : w.heap.size < g ∧ g < b1 ∧ b1 ≤ cb
section
variable {B g b1 cb : Nat} {w W W' : World} {S : Option Addr} {n c : Nat} {ss : List Int} {D : Option Addr} {m d : Nat} {ds : List Int} {ch : Int} {I : Option Addr} {ni ic : Nat} {is : List Int} {X : Option Addr} {nx xc : Nat} {xl : List Int} {E : Option Addr} {ne ec : Nat} {es : List (Option Addr × Nat × Nat)} {dd : List (List Int)}
theorem RW.step (h : RW B g b1 cb w W S n c ss D m d ds ch I ni ic is X nx xc xl E ne ec es dd) (hs : Src B W' g) (hg : W.grownBy W' (some g)) : RW B g b1 cb w W' S n c ss D m d ds ch I ni ic is X nx xc xl E ne ec es dd := by
  have hl := h.lv
  refine ⟨hs, belowG h.bel hg (by omega) h.bel.size, blk_near h.res hg (by omega), blk_far h.box hg (by omega), h.oS.far hg (by omega), h.oD.far hg (by omega), h.oI.far hg (by omega), h.oX.far hg (by omega), h.oE.kept hg (fun q e e2 => by have := h.oE.row e; injection e2 with e2; omega), fun j e l he hl => (h.hJ j e l he hl).far hg (by omega), h.ldd, h.rS, h.aIX, h.aJ, h.lv⟩
theorem RW.alloc (h : RW B g b1 cb w W S n c ss D m d ds ch I ni ic is X nx xc xl E ne ec es dd) (o : Obj) : RW B g b1 cb w (W.alloc o) S n c ss D m d ds ch I ni ic is X nx xc xl E ne ec es dd :=
  ⟨h.src.alloc o, h.bel.alloc h.bel.size o, h.res.alloc o, h.box.alloc o, h.oS.alloc o, h.oD.alloc o, h.oI.alloc o, h.oX.alloc o, h.oE.alloc o, fun j e l he hl => (h.hJ j e l he hl).alloc o, h.ldd, h.rS, h.aIX, h.aJ, h.lv⟩
theorem RW.appI (h : RW B g b1 cb w W S n c ss D m d ds ch I ni ic is X nx xc xl E ne ec es dd) {A3 : Option Addr} {m3 c3 : Nat} {w3 : World} {is' : List Int} (ho : OwI w3 (cb + 1) (.slice A3 m3 c3) is') (hgr : W.grownBy w3 (Value.slice I ni ic).ownBlock) (hq : ∀ q, (Value.slice A3 m3 c3).ownBlock = some q → (Value.slice I ni ic).ownBlock = some q ∨ q = W.heap.size) : RW B g b1 cb w w3 S n c ss D m d ds ch A3 m3 c3 is' X nx xc xl E ne ec es dd := by
  have hl := h.lv
  have rI := own_rowI h.oI
  have rX := own_rowI h.oX
  have hsz := h.bel.size
  have hbx := h.box.lt
  refine ⟨Src.kept h.src hgr (fun b e => by have := rI b e; omega), h.bel.grown hgr hsz (fun q e => by have := rI q e; omega), h.res.grown hgr (fun e => by have := rI _ e.symm; omega), h.box.grown hgr (fun e => by have := rI _ e.symm; omega), h.oS.other hgr (fun q e e2 => by have h1 := h.rS q (.inl e); have := rI q e2; omega), h.oD.other hgr (fun q e e2 => by have h1 := h.rS q (.inr e); have := rI q e2; omega), ho, h.oX.other hgr (fun q e e2 => h.aIX q e2 e), h.oE.kept hgr (fun q e e2 => rows_differ h.oI h.oE e2 e), fun j e l he hl => (h.hJ j e l he hl).other hgr (fun q e1 e2 => (h.aJ j e he q e1).1 e2), h.ldd, h.rS, fun q e e2 => ?_, fun j e he q e1 => ⟨fun e2 => ?_, (h.aJ j e he q e1).2⟩, hl⟩
  · rcases hq q e with e3 | e3
    · exact h.aIX q e3 e2
    · have := rX q e2; omega
  · rcases hq q e2 with e3 | e3
    · exact (h.aJ j e he q e1).1 e3
    · have hjl : j < dd.length := by have := (List.getElem?_eq_some_iff.1 he).1; have := h.ldd; omega
      have := own_rowI (h.hJ j e _ he (List.getElem?_eq_getElem hjl)) q e1; omega
theorem RW.appX (h : RW B g b1 cb w W S n c ss D m d ds ch I ni ic is X nx xc xl E ne ec es dd) {A3 : Option Addr} {m3 c3 : Nat} {w3 : World} {xl' : List Int} (ho : OwI w3 (cb + 1) (.slice A3 m3 c3) xl') (hgr : W.grownBy w3 (Value.slice X nx xc).ownBlock) (hq : ∀ q, (Value.slice A3 m3 c3).ownBlock = some q → (Value.slice X nx xc).ownBlock = some q ∨ q = W.heap.size) : RW B g b1 cb w w3 S n c ss D m d ds ch I ni ic is A3 m3 c3 xl' E ne ec es dd := by
  have hl := h.lv
  have rI := own_rowI h.oI
  have rX := own_rowI h.oX
  have hsz := h.bel.size
  have hbx := h.box.lt
  refine ⟨Src.kept h.src hgr (fun b e => by have := rX b e; omega), h.bel.grown hgr hsz (fun q e => by have := rX q e; omega), h.res.grown hgr (fun e => by have := rX _ e.symm; omega), h.box.grown hgr (fun e => by have := rX _ e.symm; omega), h.oS.other hgr (fun q e e2 => by have h1 := h.rS q (.inl e); have := rX q e2; omega), h.oD.other hgr (fun q e e2 => by have h1 := h.rS q (.inr e); have := rX q e2; omega), h.oI.other hgr (fun q e e2 => h.aIX q e e2), ho, h.oE.kept hgr (fun q e e2 => rows_differ h.oX h.oE e2 e), fun j e l he hl => (h.hJ j e l he hl).other hgr (fun q e1 e2 => (h.aJ j e he q e1).2 e2), h.ldd, h.rS, fun q e e2 => ?_, fun j e he q e1 => ⟨(h.aJ j e he q e1).1, fun e2 => ?_⟩, hl⟩
  · rcases hq q e2 with e3 | e3
    · exact h.aIX q e e3
    · have := rI q e; omega
  · rcases hq q e2 with e3 | e3
    · exact (h.aJ j e he q e1).2 e3
    · have hjl : j < dd.length := by have := (List.getElem?_eq_some_iff.1 he).1; have := h.ldd; omega
      have := own_rowI (h.hJ j e _ he (List.getElem?_eq_getElem hjl)) q e1; omega
theorem RW.appE (h : RW B g b1 cb w W S n c ss D m d ds ch I ni ic is X nx xc xl E ne ec es dd) {A3 : Option Addr} {m3 c3 : Nat} {w3 : World} {e : Option Addr × Nat × Nat} {l : List Int} (oL : OwI W (cb + 1) (slv e) l) (aL : ∀ q, (slv e).ownBlock = some q → (Value.slice I ni ic).ownBlock ≠ some q ∧ (Value.slice X nx xc).ownBlock ≠ some q) (ho : OwE w3 (cb + 1) (.slice A3 m3 c3) (es ++ [e])) (hgr : W.grownBy w3 (Value.slice E ne ec).ownBlock) : RW B g b1 cb w w3 S n c ss D m d ds ch I ni ic is X nx xc xl A3 m3 c3 (es ++ [e]) (dd ++ [l]) ∧ OwI w3 (cb + 1) (slv e) l := by
  have hl := h.lv
  have rE := fun q e => h.oE.row (q := q) e
  have hsz := h.bel.size
  have hbx := h.box.lt
  have hL := oL.other hgr (fun q e e2 => rows_differ oL h.oE e e2)
  refine ⟨⟨Src.kept h.src hgr (fun b e => by have := rE b e; omega), h.bel.grown hgr hsz (fun q e => by have := rE q e; omega), h.res.grown hgr (fun e => by have := rE _ e.symm; omega), h.box.grown hgr (fun e => by have := rE _ e.symm; omega), h.oS.other hgr (fun q e e2 => rows_differ h.oS h.oE e e2), h.oD.other hgr (fun q e e2 => rows_differ h.oD h.oE e e2), h.oI.other hgr (fun q e e2 => rows_differ h.oI h.oE e e2), h.oX.other hgr (fun q e e2 => rows_differ h.oX h.oE e e2), ho, fun j e' l' he hl' => ?_, by have := h.ldd; simp; omega, h.rS, h.aIX, fun j e' he q e1 => ?_, hl⟩, hL⟩
  · by_cases hj : j < es.length
    · rw [List.getElem?_append_left hj] at he
      rw [List.getElem?_append_left (by have := h.ldd; omega)] at hl'
      have h1 := h.hJ j e' l' he hl'
      exact h1.other hgr (fun q e e2 => rows_differ h1 h.oE e e2)
    · rw [List.getElem?_append_right (by omega)] at he
      rw [List.getElem?_append_right (by have := h.ldd; omega)] at hl'
      have hj0 : j - es.length = 0 := by have := (List.getElem?_eq_some_iff.1 he).1; simp at this; omega
      rw [hj0] at he
      rw [show j - dd.length = 0 by have := h.ldd; omega] at hl'
      cases he
      cases hl'
      exact hL
  · by_cases hj : j < es.length
    · rw [List.getElem?_append_left hj] at he
      exact h.aJ j e' he q e1
    · rw [List.getElem?_append_right (by omega)] at he
      have hj0 : j - es.length = 0 := by have := (List.getElem?_eq_some_iff.1 he).1; simp at this; omega
      rw [hj0] at he
      cases he
      exact aL q e1
theorem RW.rdE (h : RW B g b1 cb w W S n c ss D m d ds ch I ni ic is X nx xc xl E ne ec es dd) : RdLL W W.heap.size E ne es dd := by
  obtain ⟨h1, h2⟩ := h.oE.rd
  refine ⟨h2, by rw [h1]; exact h.ldd, fun i e l he hl => ?_⟩
  have h3 := h.hJ i e l he hl
  unfold slv at h3
  exact ⟨h3.rd.1 ▸ h3.rd.2, h3.none_cap⟩
end
end Go.Proofs.Ytmhbkabdiciakaa
