/-
  Draws of chapter 13: a class.
-/
import Derived.Test.YtaikfclgmkfooaaGreatDoor03
import Derived.Test.YtaikfclgmkfooaaGreatDoorOL
import Derived.Test.YtaikfclgmkfooaaGreatDoorRT
import Derived.Test.YtaikfclgmkfooaaGreatDoorE1
import Derived.Test.YtaikfclgmkfooaaGreatDoorJ1
import Derived.Laws.OwnMore
set_option linter.unusedSimpArgs false
set_option linter.unusedVariables false
namespace Go.Proofs.YtaikfclgmkfooaaGreatDoor
open Go.RowKit
theorem grownBy_new {a w w' : World} {g : Nat} {row : Option Nat} (h : a.grownBy w (some g)) (k : w.grownBy w' row) (hr : ∀ b, row = some b → a.heap.size ≤ b) : a.grownBy w' (some g) :=
  ⟨k.os.trans h.os, k.tape.trans h.tape, k.output.trans h.output, Nat.le_trans h.size k.size, fun i hi hne => (k.block i (Nat.lt_of_lt_of_le hi h.size) (fun e => by have := hr i e.symm; omega)).trans (h.block i hi hne)⟩
theorem Src.kept {B : Nat} {w w' : World} {g : Nat} {row : Option Nat} (h : Src B w g) (hg : w.grownBy w' row) (hb : ∀ b, row = some b → g < b) : Src B w' g := by
  have hlt := h.lt
  refine h.below (B' := g + 1) ⟨hg.os, hg.tape, hg.output, hg.size, fun i hi => hg.block i (by omega) (fun e => by have := hb i e.symm; omega)⟩ (by omega)
theorem blk_far {w w1 : World} {g g' : Nat} {t : TypeId} {cs : Array Value} (h : Blk w g t cs) (hg : w.grownBy w1 (some g')) (hne : g' < g) : Blk w1 g t cs := Blk.grown h hg (fun e => by injection e with e; omega)
/-- what stands while a class is drawn -/
structure TS (B g : Nat) (w : World) (fb j k : Nat) (W : World) (S : Option Addr) (n c : Nat) (ss : List Int) (D : Option Addr) (m d : Nat) (ds : List Int) (ch : Int) : Prop where
  src : Src B W g
  gr : w.grownBy W (some g)
  box : Blk W fb 26 #[.slice S n c, .slice D m d, .int .i64 ch]
  res : Blk W w.heap.size 26 #[.slice none 0 0, .slice none 0 0, .int .i64 0]
  ownS : OwI W (w.heap.size + 1) (.slice S n c) ss
  ownD : OwI W (w.heap.size + 1) (.slice D m d) ds
  lenS : ss.length = j
  lenD : ds.length ≤ k
  offS : ∀ q, (Value.slice S n c).ownBlock = some q → q ≠ fb
  offD : ∀ q, (Value.slice D m d).ownBlock = some q → q ≠ fb
  apt : ∀ q, (Value.slice S n c).ownBlock = some q → (Value.slice D m d).ownBlock ≠ some q
  hg : g < w.heap.size
  hb : w.heap.size < fb
def TE (B g : Nat) (w : World) (fb j k : Nat) (W : World) : Prop := ∃ S n c ss D m d ds ch, TS B g w fb j k W S n c ss D m d ds ch
section
variable {B g : Nat} {w : World} {fb j k : Nat} {W W' : World} {S : Option Addr} {n c : Nat} {ss : List Int} {D : Option Addr} {m d : Nat} {ds : List Int} {ch : Int}
theorem TS.e (h : TS B g w fb j k W S n c ss D m d ds ch) : TE B g w fb j k W := ⟨_, _, _, _, _, _, _, _, _, h⟩
theorem TS.lt (h : TS B g w fb j k W S n c ss D m d ds ch) : fb < W.heap.size := h.box.lt
theorem TS.drew (h : TS B g w fb j k W S n c ss D m d ds ch) : TS B g w fb j k W.drew S n c ss D m d ds ch := ⟨h.src, grownBy_drewN h.gr 1, h.box, h.res, h.ownS, h.ownD, h.lenS, h.lenD, h.offS, h.offD, h.apt, h.hg, h.hb⟩
theorem TS.step (h : TS B g w fb j k W S n c ss D m d ds ch) (hs : Src B W' g) (hg : W.grownBy W' (some g)) : TS B g w fb j k W' S n c ss D m d ds ch :=
  ⟨hs, grownBy_tr h.gr hg, blk_far h.box hg (Nat.lt_trans h.hg h.hb), blk_far h.res hg h.hg, h.ownS.far hg (Nat.lt_succ_of_lt h.hg), h.ownD.far hg (Nat.lt_succ_of_lt h.hg), h.lenS, h.lenD, h.offS, h.offD, h.apt, h.hg, h.hb⟩
theorem TS.alloc (h : TS B g w fb j k W S n c ss D m d ds ch) (o : Obj) : TS B g w fb j k (W.alloc o) S n c ss D m d ds ch :=
  ⟨h.src.alloc o, grownBy_alloc h.gr o, h.box.alloc o, h.res.alloc o, h.ownS.alloc o, h.ownD.alloc o, h.lenS, h.lenD, h.offS, h.offD, h.apt, h.hg, h.hb⟩
theorem TS.chest (h : TS B g w fb j k W S n c ss D m d ds ch) (x : Int) : TS B g w fb j k (W.setCell ⟨fb, 2, none⟩ (.int .i64 x)) S n c ss D m d ds x :=
  ⟨h.src.store (p := ⟨fb, 2, none⟩) (Nat.lt_trans h.hg h.hb) _, grownBy_set h.gr (p := ⟨fb, 2, none⟩) (.inr (Nat.le_of_lt h.hb)) _, h.box.set_ 2 _, h.res.far (p := ⟨fb, 2, none⟩) (Nat.ne_of_lt h.hb) _, h.ownS.off (grownBy_one W ⟨fb, 2, none⟩ _) h.offS, h.ownD.off (grownBy_one W ⟨fb, 2, none⟩ _) h.offD, h.lenS, h.lenD, h.offS, h.offD, h.apt, h.hg, h.hb⟩
/-- a number goes behind the shares -/
theorem TS.appS (h : TS B g w fb j k W S n c ss D m d ds ch) {z : Int} {A3 : Option Addr} {m3 c3 : Nat} {w3 : World} (ho : OwI w3 (w.heap.size + 1) (.slice A3 m3 c3) (ss ++ [z])) (hgr : W.grownBy w3 (Value.slice S n c).ownBlock) (hq : ∀ q, (Value.slice A3 m3 c3).ownBlock = some q → (Value.slice S n c).ownBlock = some q ∨ q = W.heap.size) :
    Blk w3 fb 26 #[.slice S n c, .slice D m d, .int .i64 ch] ∧ TS B g w fb (j + 1) k (w3.setCell ⟨fb, 0, none⟩ (.slice A3 m3 c3)) A3 m3 c3 (ss ++ [z]) D m d ds ch := by
  have rS := own_rowI h.ownS
  have rD := own_rowI h.ownD
  have hgg := h.hg
  have hbb := h.hb
  have hlt := h.lt
  have hB : Blk w3 fb 26 #[.slice S n c, .slice D m d, .int .i64 ch] := h.box.grown hgr (fun e => h.offS _ e.symm rfl)
  have hR : Blk w3 w.heap.size 26 #[.slice none 0 0, .slice none 0 0, .int .i64 0] := h.res.grown hgr (fun e => by have := rS _ e.symm; omega)
  have hQ : ∀ q, (Value.slice A3 m3 c3).ownBlock = some q → q ≠ fb := fun q e => by
    rcases hq q e with e1 | e1
    · exact h.offS q e1
    · omega
  have hD := h.ownD.other hgr (fun q e e2 => h.apt q e2 e)
  refine ⟨hB, ?_, ?_, hB.set_ 0 _, hR.far (p := ⟨fb, 0, none⟩) (by show w.heap.size ≠ fb; omega) _, ho.off (grownBy_one w3 ⟨fb, 0, none⟩ _) hQ, hD.off (grownBy_one w3 ⟨fb, 0, none⟩ _) h.offD, by have := h.lenS; simp; omega, h.lenD, hQ, h.offD, ?_, hgg, hbb⟩
  · exact Src.store (Src.kept h.src hgr (fun b e => by have := rS b e; omega)) (p := ⟨fb, 0, none⟩) (by show g < fb; omega) _
  · exact grownBy_set (grownBy_new h.gr hgr (fun b e => by have := rS b e; omega)) (p := ⟨fb, 0, none⟩) (.inr (by show w.heap.size ≤ fb; omega)) _
  · intro q e e2
    rcases hq q e with e1 | e1
    · exact h.apt q e1 e2
    · have := rD q e2; omega
/-- a number goes behind the dead -/
theorem TS.appD (h : TS B g w fb j k W S n c ss D m d ds ch) {z : Int} {A3 : Option Addr} {m3 c3 : Nat} {w3 : World} (ho : OwI w3 (w.heap.size + 1) (.slice A3 m3 c3) (ds ++ [z])) (hgr : W.grownBy w3 (Value.slice D m d).ownBlock) (hq : ∀ q, (Value.slice A3 m3 c3).ownBlock = some q → (Value.slice D m d).ownBlock = some q ∨ q = W.heap.size) :
    Blk w3 fb 26 #[.slice S n c, .slice D m d, .int .i64 ch] ∧ TS B g w fb j (k + 1) (w3.setCell ⟨fb, 1, none⟩ (.slice A3 m3 c3)) S n c ss A3 m3 c3 (ds ++ [z]) ch := by
  have rS := own_rowI h.ownS
  have rD := own_rowI h.ownD
  have hgg := h.hg
  have hbb := h.hb
  have hlt := h.lt
  have hB : Blk w3 fb 26 #[.slice S n c, .slice D m d, .int .i64 ch] := h.box.grown hgr (fun e => h.offD _ e.symm rfl)
  have hR : Blk w3 w.heap.size 26 #[.slice none 0 0, .slice none 0 0, .int .i64 0] := h.res.grown hgr (fun e => by have := rD _ e.symm; omega)
  have hQ : ∀ q, (Value.slice A3 m3 c3).ownBlock = some q → q ≠ fb := fun q e => by
    rcases hq q e with e1 | e1
    · exact h.offD q e1
    · omega
  have hS := h.ownS.other hgr (fun q e e2 => h.apt q e e2)
  refine ⟨hB, ?_, ?_, hB.set_ 1 _, hR.far (p := ⟨fb, 1, none⟩) (by show w.heap.size ≠ fb; omega) _, hS.off (grownBy_one w3 ⟨fb, 1, none⟩ _) h.offS, ho.off (grownBy_one w3 ⟨fb, 1, none⟩ _) hQ, h.lenS, by have := h.lenD; simp; omega, h.offS, hQ, ?_, hgg, hbb⟩
  · exact Src.store (Src.kept h.src hgr (fun b e => by have := rD b e; omega)) (p := ⟨fb, 1, none⟩) (by show g < fb; omega) _
  · exact grownBy_set (grownBy_new h.gr hgr (fun b e => by have := rD b e; omega)) (p := ⟨fb, 1, none⟩) (.inr (by show w.heap.size ≤ fb; omega)) _
  · intro q e e2
    rcases hq q e2 with e1 | e1
    · exact h.apt q e e1
    · have := rS q e; omega
/-- one of the shares is written -/
theorem TS.setS (h : TS B g w fb j k W S n c ss D m d ds ch) {i : Nat} (hi : i < j) (x : Int) : ∃ gs u, S = some ⟨gs, 0, none⟩ ∧ n = j ∧ gs < W.heap.size ∧ W.cell? ⟨gs, i, none⟩ = some u ∧ W.frozen? ⟨gs, i, none⟩ = false ∧ TS B g w fb j k (W.setCell ⟨gs, i, none⟩ (.int .i64 x)) S n c (ss.set i x) D m d ds ch := by
  have hl := h.lenS
  have hn := h.ownS.rd.1
  have hgg := h.hg
  have hbb := h.hb
  rcases h.ownS.form with ⟨h1, h2⟩ | ⟨gs, cap, h1, hgs, hlt, hcap, hmx⟩
  · rw [h2] at hl; simp at hl; omega
  · injection h1 with h1 h3 h4
    subst h1 h3 h4
    have HO : W.ownsRow (w.heap.size + 1) 2 1 (.slice (some ⟨gs, 0, none⟩) ss.length c) ss.length (ss.map (Value.int .i64)) := h.ownS
    have hoff := h.offS gs rfl
    have hapt := h.apt gs rfl
    refine ⟨gs, _, rfl, by omega, hlt, (HO.cellAt i (by omega)).trans (List.getElem?_eq_getElem (by rw [List.length_map]; omega)), HO.frozenAt i, ?_⟩
    have HS := (HO.stored i (.int .i64 x)).1
    rw [← List.map_set] at HS
    refine ⟨h.src.store (p := ⟨gs, i, none⟩) (by show g < gs; omega) _, grownBy_set h.gr (p := ⟨gs, i, none⟩) (.inr (by show w.heap.size ≤ gs; omega)) _, h.box.far (p := ⟨gs, i, none⟩) (by show fb ≠ gs; omega) _, h.res.far (p := ⟨gs, i, none⟩) (by show w.heap.size ≠ gs; omega) _, ?_, h.ownD.off (grownBy_one W ⟨gs, i, none⟩ _) (fun q e => by show q ≠ gs; rintro rfl; exact hapt e), by rw [List.length_set]; exact hl, h.lenD, h.offS, h.offD, h.apt, hgg, hbb⟩
    unfold OwI
    rw [List.length_set]
    exact HS
/-- new shares, all noughts, and none dead -/
theorem TS.made (h : TS B g w fb j k W S n c ss D m d ds ch) {q : Nat} (hq : q ≤ 1048576) :
    TS B g w fb q 0 ((((W.setCell ⟨fb, 0, none⟩ (.slice (some ⟨W.heap.size, 0, none⟩) q q)).setCell ⟨fb, 1, none⟩ (.slice none 0 0)).setCell ⟨fb, 2, none⟩ (.int .i64 0)).alloc (.cells (madeCells #[Value.int .i64 0] q) 2)) (some ⟨W.heap.size, 0, none⟩) q q (List.replicate q 0) none 0 0 [] 0 := by
  have hgg := h.hg
  have hbb := h.hb
  have hlt := h.lt
  have hsz := h.gr.size
  obtain ⟨W1, hW1⟩ : ∃ W1, ((W.setCell ⟨fb, 0, none⟩ (.slice (some ⟨W.heap.size, 0, none⟩) q q)).setCell ⟨fb, 1, none⟩ (.slice none 0 0)).setCell ⟨fb, 2, none⟩ (.int .i64 0) = W1 := ⟨_, rfl⟩
  have hz : W1.heap.size = W.heap.size := by rw [← hW1]; simp [World.setCell]
  have s1 : Src B W1 g := hW1 ▸ ((h.src.store (p := ⟨fb, 0, none⟩) (by show g < fb; omega) _).store (p := ⟨fb, 1, none⟩) (by show g < fb; omega) _).store (p := ⟨fb, 2, none⟩) (by show g < fb; omega) _
  have g1 : w.grownBy W1 (some g) := hW1 ▸ grownBy_set (grownBy_set (grownBy_set h.gr (p := ⟨fb, 0, none⟩) (.inr (by show w.heap.size ≤ fb; omega)) _) (p := ⟨fb, 1, none⟩) (.inr (by show w.heap.size ≤ fb; omega)) _) (p := ⟨fb, 2, none⟩) (.inr (by show w.heap.size ≤ fb; omega)) _
  have b1 : Blk W1 fb 26 #[.slice (some ⟨W.heap.size, 0, none⟩) q q, .slice none 0 0, .int .i64 0] := hW1 ▸ ((h.box.set_ 0 _).set_ 1 _).set_ 2 _
  have r1 : Blk W1 w.heap.size 26 #[.slice none 0 0, .slice none 0 0, .int .i64 0] := hW1 ▸ ((h.res.far (p := ⟨fb, 0, none⟩) (by show w.heap.size ≠ fb; omega) _).far (p := ⟨fb, 1, none⟩) (by show w.heap.size ≠ fb; omega) _).far (p := ⟨fb, 2, none⟩) (by show w.heap.size ≠ fb; omega) _
  have ho : OwI (W1.alloc (.cells (madeCells #[Value.int .i64 0] q) 2)) (w.heap.size + 1) (.slice (some ⟨W.heap.size, 0, none⟩) q q) (List.replicate q 0) := by
    have h2 := holdsL.own (base := w.heap.size + 1) (Blk.new W1 2 (madeCells #[Value.int .i64 0] q)) (holdsL_made q) (by simp; omega) (by omega)
    rw [hz] at h2
    simpa using h2
  have hO : ∀ r, (Value.slice (some ⟨W.heap.size, 0, none⟩) q q).ownBlock = some r → r ≠ fb := fun r e => by
    simp only [Value.ownBlock, Option.some.injEq] at e
    omega
  rw [hW1]
  exact ⟨s1.alloc _, grownBy_alloc g1 _, b1.alloc _, r1.alloc _, ho, World.ownsRow_nil _ _ _ _, by simp, Nat.zero_le _, hO, fun r e => by simp [Value.ownBlock] at e, fun r e e2 => by simp [Value.ownBlock] at e2, hgg, hbb⟩
/-- what a draw of a class gives -/
def DrC (B g : Nat) (w : World) (e : Ending) (w' : World) : Prop := ∃ S n c ss D m d ds ch, e = .returned (.agg #[.slice S n c, .slice D m d, .int .i64 ch]) ∧ OwI w' w.heap.size (.slice S n c) ss ∧ OwI w' w.heap.size (.slice D m d) ds ∧ (1 ≤ ss.length ∧ ss.length ≤ 61) ∧ ds.length ≤ 10 ∧ Src B w' g ∧ w.grownBy w' (some g)
theorem TS.fin (h : TS B g w fb j k W S n c ss D m d ds ch) (hj : 1 ≤ j ∧ j ≤ 61) (hk : k ≤ 10) (u0 u1 u2 : Value) :
    DrC B g w (.returned (.agg #[.slice S n c, .slice D m d, .int .i64 ch])) (((W.setCell ⟨w.heap.size, 0, none⟩ u0).setCell ⟨w.heap.size, 1, none⟩ u1).setCell ⟨w.heap.size, 2, none⟩ u2) := by
  refine ⟨S, n, c, ss, D, m, d, ds, ch, rfl, ?_, ?_, by have := h.lenS; omega, Nat.le_trans h.lenD hk, ?_, ?_⟩
  · refine OwI.mono (base := w.heap.size + 1) ?_ (Nat.le_succ _)
    repeat (refine OwI.store ?_ (Nat.lt_succ_self _) _)
    exact h.ownS
  · refine OwI.mono (base := w.heap.size + 1) ?_ (Nat.le_succ _)
    repeat (refine OwI.store ?_ (Nat.lt_succ_self _) _)
    exact h.ownD
  · repeat (refine Src.store ?_ h.hg _)
    exact h.src
  · repeat (refine grownBy_set ?_ (.inr (Nat.le_refl _)) _)
    exact h.gr
theorem TS.next (h : TS B g w fb j k W S n c ss D m d ds ch) (N : Int) : Calls Tryz.prog 26 #[.pointer (some ⟨g, 0, none⟩), .int .i64 N] W (fun e w' => ∃ r, e = .returned (.int .i64 r) ∧ Rng N r ∧ TS B g w fb j k w' S n c ss D m d ds ch) :=
  (next_any B g N W h.src).mono fun _ w' ⟨r, h1, h2, h3, h4⟩ => ⟨r, h1, h2, h.step h3 h4⟩
theorem TS.pick (h : TS B g w fb j k W S n c ss D m d ds ch) (zs : List Int) (cs : Array Value) (hcs : cs = (zs.map (Value.int .i64)).toArray) (q : Nat) (hq : zs.length = q) (hq0 : 0 < q) : Calls Tryz.prog 42 #[.pointer (some ⟨g, 0, none⟩), .slice (some ⟨W.heap.size, 0, none⟩) q q] (W.alloc (.cells cs 2)) (fun e w' => ∃ r, e = .returned (.int .i64 r) ∧ TS B g w fb j k w' S n c ss D m d ds ch) :=
  (pick_any B g _ _ _ zs _ (h.src.alloc _) (rd_litD _ _ _ _ hcs _ hq) (by rintro ad ⟨rfl⟩; have := h.src.lt; simp only; omega) hq0).mono fun _ w' ⟨r, h1, _, h3, h4⟩ => ⟨r, h1, (h.alloc _).step h3 h4⟩
end
end Go.Proofs.YtaikfclgmkfooaaGreatDoor
