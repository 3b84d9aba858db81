/-
  Draws of payments: slices of payments that a call owns; what a draw leaves.
-/
import Derived.Test.YtnklpdckclgilaaD
import Derived.Test.YtnklpdckclgilaaP2
set_option linter.unusedSimpArgs false
set_option linter.unusedVariables false
namespace Go.Proofs.Ytnklpdckclgilaa
open Go.RowKit
/-- v is a slice of payments that lies in a block of its own from block base on, and reads as xs -/
def OwP (w : World) (base : Nat) (v : Value) (xs : List (Int × Int)) : Prop := w.ownsRow base 43 2 v xs.length (xs.flatMap enP)
theorem OwP.form {w : World} {base : Nat} {v : Value} {zs : List (Int × Int)} (h : OwP w base v zs) : (v = .slice none 0 0 ∧ zs = []) ∨ ∃ g cap, v = .slice (some ⟨g, 0, none⟩) zs.length cap ∧ base ≤ g ∧ g < w.heap.size := by
  have hlt := h.lt
  obtain ⟨h1, h2⟩ := h
  rcases h2 with ⟨rfl, hn⟩ | ⟨g, cap, cur, rfl, hg, hh, hn, hm, _⟩
  · exact .inl ⟨rfl, List.eq_nil_of_length_eq_zero hn⟩
  · exact .inr ⟨g, cap, rfl, hg, (hlt g rfl).2⟩
theorem OwP.sl {w : World} {base : Nat} {v : Value} {zs : List (Int × Int)} (h : OwP w base v zs) : ∃ A m c, v = .slice A m c := by
  rcases h.form with ⟨h1, _⟩ | ⟨g, cap, h1, _⟩
  · exact ⟨_, _, _, h1⟩
  · exact ⟨_, _, _, h1⟩
theorem OwP.rd {w : World} {base : Nat} {A : Option Addr} {n c : Nat} {zs : List (Int × Int)} (h : OwP w base (.slice A n c) zs) : n = zs.length ∧ RdP w w.heap.size A n zs := by
  have hn : n = zs.length := by
    rcases h.form with ⟨h1, h2⟩ | ⟨g, cap, h1, _⟩
    · injection h1 with h1 h3; subst h2; exact h3
    · injection h1
  subst hn
  exact ⟨rfl, RdS.of_own (fun x => rfl) h rfl rfl⟩
theorem OwP.kept {w w' : World} {base : Nat} {row : Option Nat} {v : Value} {zs : List (Int × Int)} (h : OwP w base v zs) (hg : w.grownBy w' row) (hb : ∀ b, row = some b → b < base) : OwP w' base v zs := by
  refine World.ownsRow.kept h hg ?_
  rcases h.form with ⟨h1, _⟩ | ⟨g', cap, h1, h2, _⟩
  · exact .inl (by rw [h1]; rfl)
  · refine .inr ?_
    rw [h1]
    intro e
    have := hb g' e.symm
    omega
theorem OwP.far {w w' : World} {base g : Nat} {v : Value} {zs : List (Int × Int)} (h : OwP w base v zs) (hg : w.grownBy w' (some g)) (hb : g < base) : OwP w' base v zs := h.kept hg (fun b e => by cases e; exact hb)
theorem OwP.alloc {w : World} {base : Nat} {v : Value} {zs : List (Int × Int)} (h : OwP w base v zs) (o : Obj) : OwP (w.alloc o) base v zs := h.kept (World.grownBy_alloc w o none) (fun b e => by cases e)
theorem OwP.later {w w' : World} {base : Nat} {v : Value} {zs : List (Int × Int)} (h : OwP w base v zs) (hb : Below w.heap.size w w') : OwP w' base v zs :=
  h.kept (row := none) ⟨hb.os, hb.tape, hb.output, hb.size, fun i hi _ => hb.block i hi⟩ (fun b e => by cases e)
theorem OwP.mono {w : World} {base base' : Nat} {v : Value} {zs : List (Int × Int)} (h : OwP w base v zs) (hb : base' ≤ base) : OwP w base' v zs := by
  obtain ⟨h1, h2⟩ := h
  refine ⟨h1, ?_⟩
  rcases h2 with h2 | ⟨g, cap, cur, hv, hg, r⟩
  · exact .inl h2
  · exact .inr ⟨g, cap, cur, hv, by omega, r⟩
theorem ownEmptyP (w : World) (base : Nat) (h : base ≤ w.heap.size) : OwP (w.alloc (.cells #[] 43)) base (.slice (some ⟨w.heap.size, 0, none⟩) 0 0) [] :=
  World.ownsRow_lit (base := base) (e := 43) (size := 2) w #[] 0 h (by unfold maxLen; omega) rfl
/-- append of one payment -/
theorem wpl_app_spell {ops : Array Oper} {rest : List Oper} {o : Oper} {a : Act} {Q : Exit → Act → World → Prop} {w : World} (hgd : o.guard = none) (s x : Operand)
    (ho : o.op = .call { callee := .builtin .append, args := #[s, x], argTypes := #[26, 26] })
    (base : Nat) (zs : List (Int × Int)) (v : Value) (hs : a.eval s = v) (hown : OwP w base v zs) (ad : Addr) (f t : Int) (c : Nat) (hx : a.eval x = .slice (some ad) 1 c) (hc : w.cell? ad = some (.int .i64 f)) (hc1 : w.cell? (ad.add 1) = some (.int .i64 t)) (hl : zs.length ≤ 1000000) (hbase : base ≤ w.heap.size)
    (h : ∀ v' w', OwP w' base v' (zs ++ [(f, t)]) → w.grownBy w' v.ownBlock → wpList Try.prog ops Q rest (a.put o.dst v') w') : wpList Try.prog ops Q (o :: rest) a w := by
  have HN : (Try.prog.info? 43).map (fun i => (i.zero, i.size, i.bytes)) = some (some (.agg #[.int .i64 0, .int .i64 0]), 2, 16) := by kernel_rfl
  obtain ⟨i0, hi, hz0, hz1, hz2⟩ := info_parts HN
  refine wpList_append_own w hgd s x 26 ho base 43 i0 (.agg #[.int .i64 0, .int .i64 0]) 2 16 Try.underlying26 hi hz0 hz1 hz2 rfl (by decide) v zs.length (zs.flatMap enP) hs hown ad 1 c [.int .i64 f, .int .i64 t] hx rfl ?_ ?_ ?_ ?_ hbase ?_
  · intro j u hj
    match j with
    | 0 => simp only [List.getElem?_cons_zero, Option.some.injEq] at hj; subst hj; rw [add_zero']; exact hc
    | 1 => simp only [List.getElem?_cons_succ, List.getElem?_cons_zero, Option.some.injEq] at hj; subst hj; exact hc1
    | j + 2 => simp at hj
  · intro u hu
    simp only [List.mem_cons, List.not_mem_nil, or_false] at hu
    rcases hu with rfl | rfl <;> rfl
  · unfold maxLen; omega
  · omega
  · intro v' w' h1 h2 _
    refine h v' w' ?_ h2
    unfold OwP
    rw [List.length_append, List.flatMap_append]
    exact h1
theorem grownBy_new {a w w' : World} {g : Nat} {row : Option Nat} (h : a.grownBy w (some g)) (k : w.grownBy w' row) (hr : ∀ b, row = some b → a.heap.size ≤ b) : a.grownBy w' (some g) :=
  ⟨k.os.trans h.os, k.tape.trans h.tape, k.output.trans h.output, Nat.le_trans h.size k.size, fun i hi hne => (k.block i (Nat.lt_of_lt_of_le hi h.size) (fun e => by have := hr i e.symm; omega)).trans (h.block i hi hne)⟩
theorem own_row {w : World} {base : Nat} {v : Value} {zs : List (Int × Int)} (h : OwP w base v zs) : ∀ b, v.ownBlock = some b → base ≤ b := by
  intro b e
  rcases h.form with ⟨h1, _⟩ | ⟨g', cap, h1, h2, _⟩
  · rw [h1] at e; cases e
  · rw [h1] at e
    simp only [Value.ownBlock, Option.some.injEq] at e
    omega
theorem Src.kept {B : Nat} {w w' : World} {g : Nat} {row : Option Nat} (h : Src B w g) (hg : w.grownBy w' row) (hb : ∀ b, row = some b → g < b) : Src B w' g := by
  have hlt := h.lt
  refine h.below (B' := g + 1) ⟨hg.os, hg.tape, hg.output, hg.size, fun i hi => hg.block i (by omega) (fun e => by have := hb i e.symm; omega)⟩ (by omega)
/-- what a draw of a member leaves -/
def D16 (B g : Nat) (w : World) (e : Ending) (w' : World) : Prop := ∃ (j cb : Int) (A : Option Addr) (m c : Nat) (xs : List (Int × Int)), e = .returned (.tuple #[.int .i64 j, .int .i64 cb, .slice A m c]) ∧ OwP w' w.heap.size (.slice A m c) xs ∧ xs.length ≤ 100 ∧ Src B w' g ∧ w.grownBy w' (some g)
set_option maxHeartbeats 4000000 in
theorem l16Draw_any (B g : Nat) (w : World) (h : Src B w g) : Calls Try.prog 56 #[.pointer (some ⟨g, 0, none⟩)] w (D16 B g w) := by
  have hlt := h.lt
  have S0 := Lib.hid h
  have G0 : w.grownBy w (some g) := World.grownBy.refl _ _
  have hz0 : w.heap.size ≤ w.heap.size := Nat.le_refl _
  clear h
  go_enter Try.func56, Try.ntmps56
  have tok1 : True := trivial
  have tok2 : True := trivial
  have tok3 : True := trivial
  have tok4 : True := trivial
  go_wp2_with (first | (go_at_call 51; clear tok1; (with_reducible refine Calls.mono (next_any B g _ _ S0.out) ?_); rintro ee w1 ⟨r1, rfl, hr1, hs1, hg1⟩; have hr1' := hr1.2 (by omega); have S1 := Lib.hid hs1; have G1 := grownBy_tr G0 hg1; have ht1 := G1.size; clear hs1 hr1) | (go_at_call 51; clear tok2; (with_reducible refine Calls.mono (next_any B g _ _ S1.out) ?_); rintro ee w2 ⟨r2, rfl, hr2, hs2, hg2⟩; have hr2' := hr2.2 (by omega); have S2 := Lib.hid (hs2.alloc (.cells #[] 43)); have G2 := grownBy_alloc (grownBy_tr G1 hg2) (.cells #[] 43); have ht2 := hg2.size; have O2 := Lib.hid (ownEmptyP w2 w.heap.size (by omega)); clear hs2 hr2) | (go_at_call 51; clear tok3; (with_reducible refine Calls.mono (next_any B g _ _ S2.out) ?_); rintro ee w3 ⟨r3, rfl, hr3, hs3, hg3⟩; have hr3' := hr3.2 (by omega); have S3 := Lib.hid hs3; have O3 := Lib.hid (O2.out.far hg3 hlt); have G3 := grownBy_tr G2 hg3; have ht3 := G3.size; clear hs3 hr3) | (go_at_call 51; clear tok4; (with_reducible refine Calls.mono (next_any B g _ _ S3.out) ?_); rintro ee w4 ⟨r4, rfl, hr4, hs4, hg4⟩; have hr4' := hr4.2 (by omega); have S4 := Lib.hid hs4; have O4 := Lib.hid (O3.out.far hg4 hlt); have G4 := grownBy_tr G3 hg4; have ht4 := G4.size; clear hs4 hr4))
  go_loopw [7, 8, 9] (fun v mm nn wr => ∃ (N M : Int) (xs : List (Int × Int)), nn = .int .i64 N ∧ 0 ≤ N ∧ N ≤ 9 ∧ mm = .int .i64 M ∧ 0 ≤ M ∧ M ≤ 24000 + 10 * (9 - N) ∧ (∃ A m c, v = .slice A m c) ∧ OwP wr w.heap.size v xs ∧ (xs.length : Int) ≤ 9 - N ∧ Src B wr g ∧ w.grownBy wr (some g)) (fun _ _ nn _ => (intOf nn).toNat)
  case atStart => exact ⟨r4, 22000 + r1 + r3, [], rfl, by omega, by omega, rfl, by omega, by omega, ⟨_, _, _, rfl⟩, O4.out, by simp; omega, S4.out, G4⟩
  case round =>
    obtain ⟨N, M, xs, rfl, hN0, hN1, rfl, hM0, hM1, ⟨A, m, c, rfl⟩, ho, hxl, hs, hG⟩ := hrel
    have S10 := Lib.hid hs
    have O10 := Lib.hid ho
    have G10 := hG
    have hltr := hs.lt
    have ht10 := hG.size
    clear ho hs hG
    by_cases hlt0 : 0 < N
    · have tok11 : True := trivial
      have tok12 : True := trivial
      have tok14 : True := trivial
      go_wp2_with (first | (go_at_call 51; clear tok11; (with_reducible refine Calls.mono (next_any B g _ _ S10.out) ?_); rintro ee w11 ⟨r11, rfl, hr11, hs11, hg11⟩; have hr11' := hr11.2 (by omega); have S11 := Lib.hid hs11; have O11 := Lib.hid (O10.out.far hg11 hlt); have G11 := grownBy_tr G10 hg11; have ht11 := G11.size; clear hs11 hr11) | (go_at_call 55; clear tok12; (with_reducible refine Calls.mono (pick_any B g _ _ _ [1 + r2, 1 + r2, 2 * (1 + r2), 1 + r11] _ (S11.out.alloc _) (rd_litD _ _ _ _ rfl _ rfl) (by rintro ad ⟨rfl⟩; simp only; omega) (by omega)) ?_); rintro ee w12 ⟨r12, rfl, hm12, hs12, hg12⟩; have S12 := Lib.hid hs12; have O12 := Lib.hid ((O11.out.alloc _).far hg12 hlt); have G12 := grownBy_tr (grownBy_alloc G11 _) hg12; have ht12 := G12.size; clear hs12 hm12) | (at_builtin; refine wpl_app_spell rfl _ _ rfl w.heap.size xs _ (by rfl) (O12.out.alloc _) ⟨w12.heap.size, 0, none⟩ (M) (r12) 1 (by rfl) (by simp [go_sem]) (by simp [go_sem, Addr.add]) (by omega) (by simp; omega) ?_; intro v13 w13 ho13 hg13; obtain ⟨A13, m13, c13, rfl⟩ := ho13.sl; have rw13 := own_row (O12.out.alloc (.cells #[.int .i64 (M), .int .i64 (r12)] 43)); have O13 := Lib.hid ho13; have S13 := Lib.hid (Src.kept (S12.out.alloc _) hg13 (fun b e => Nat.lt_of_lt_of_le hlt (rw13 b e))); have G13 := grownBy_new (grownBy_alloc G12 _) hg13 (fun b e => rw13 b e); have ht13 := G13.size; clear ho13 rw13 hg13) | (go_at_call 51; clear tok14; (with_reducible refine Calls.mono (next_any B g _ _ S13.out) ?_); rintro ee w14 ⟨r14, rfl, hr14, hs14, hg14⟩; have hr14' := hr14.2 (by omega); have S14 := Lib.hid hs14; have O14 := Lib.hid (O13.out.far hg14 hlt); have G14 := grownBy_tr G13 hg14; have ht14 := G14.size; clear hs14 hr14))
      go_roundw
      case rel => exact ⟨N - 1, M + r14, _, by first | rfl | go_num, by omega, by omega, rfl, by omega, by omega, ⟨_, _, _, rfl⟩, O14.out, by simp; omega, S14.out, G14⟩
      case measure => simp [intOf]; omega
    · have tok20 : True := trivial
      have tok21 : True := trivial
      have tok22 : True := trivial
      have tok24 : True := trivial
      have tok25 : True := trivial
      go_wp2_with (first | (go_at_call 51; clear tok20; (with_reducible refine Calls.mono (next_any B g _ _ S10.out) ?_); rintro ee w20 ⟨r20, rfl, hr20, hs20, hg20⟩; have hr20' := hr20.2 (by omega); have S20 := Lib.hid hs20; have O20 := Lib.hid (O10.out.far hg20 hlt); have G20 := grownBy_tr G10 hg20; have ht20 := G20.size; clear hs20 hr20) | (go_at_call 55; clear tok21; (with_reducible refine Calls.mono (pick_any B g _ _ _ [22000 + r1 - 1, M, 36000] _ (S20.out.alloc _) (rd_litD _ _ _ _ rfl _ rfl) (by rintro ad ⟨rfl⟩; simp only; omega) (by omega)) ?_); rintro ee w21 ⟨r21, rfl, hm21, hs21, hg21⟩; have S21 := Lib.hid hs21; have O21 := Lib.hid ((O20.out.alloc _).far hg21 hlt); have G21 := grownBy_tr (grownBy_alloc G20 _) hg21; have ht21 := G21.size; clear hs21 hm21) | (go_at_call 55; clear tok22; (with_reducible refine Calls.mono (pick_any B g _ _ _ [0, 1, 100000000, 100000001] _ (S21.out.alloc _) (rd_litD _ _ _ _ rfl _ rfl) (by rintro ad ⟨rfl⟩; simp only; omega) (by omega)) ?_); rintro ee w22 ⟨r22, rfl, hm22, hs22, hg22⟩; have S22 := Lib.hid hs22; have O22 := Lib.hid ((O21.out.alloc _).far hg22 hlt); have G22 := grownBy_tr (grownBy_alloc G21 _) hg22; have ht22 := G22.size; clear hs22 hm22) | (at_builtin; refine wpl_app_spell rfl _ _ rfl w.heap.size xs _ (by rfl) (O22.out.alloc _) ⟨w22.heap.size, 0, none⟩ (r21) (r22) 1 (by rfl) (by simp [go_sem]) (by simp [go_sem, Addr.add]) (by omega) (by simp; omega) ?_; intro v23 w23 ho23 hg23; obtain ⟨A23, m23, c23, rfl⟩ := ho23.sl; have rw23 := own_row (O22.out.alloc (.cells #[.int .i64 (r21), .int .i64 (r22)] 43)); have O23 := Lib.hid ho23; have S23 := Lib.hid (Src.kept (S22.out.alloc _) hg23 (fun b e => Nat.lt_of_lt_of_le hlt (rw23 b e))); have G23 := grownBy_new (grownBy_alloc G22 _) hg23 (fun b e => rw23 b e); have ht23 := G23.size; clear ho23 rw23 hg23) | (go_at_call 55; clear tok24; (with_reducible refine Calls.mono (pick_any B g _ _ _ [0, 1, 1000000, 1000001] _ (S20.out.alloc _) (rd_litD _ _ _ _ rfl _ rfl) (by rintro ad ⟨rfl⟩; simp only; omega) (by omega)) ?_); rintro ee w24 ⟨r24, rfl, hm24, hs24, hg24⟩; have S24 := Lib.hid hs24; have O24 := Lib.hid ((O20.out.alloc _).far hg24 hlt); have G24 := grownBy_tr (grownBy_alloc G20 _) hg24; have ht24 := G24.size; clear hs24 hm24) | (go_at_call 55; clear tok25; (with_reducible refine Calls.mono (pick_any B g _ _ _ [-1, 35997, 36000] _ (S20.out.alloc _) (rd_litD _ _ _ _ rfl _ rfl) (by rintro ad ⟨rfl⟩; simp only; omega) (by omega)) ?_); rintro ee w25 ⟨r25, rfl, hm25, hs25, hg25⟩; have S25 := Lib.hid hs25; have O25 := Lib.hid ((O20.out.alloc _).far hg25 hlt); have G25 := grownBy_tr (grownBy_alloc G20 _) hg25; have ht25 := G25.size; clear hs25 hm25))
      all_goals go_returns
      all_goals first
        | exact ⟨_, _, _, _, _, _, rfl, O23.out, by simp; omega, S23.out, G23⟩
        | exact ⟨_, _, _, _, _, _, rfl, O24.out, by omega, S24.out, G24⟩
        | exact ⟨_, _, _, _, _, _, rfl, O25.out, by omega, S25.out, G25⟩
        | exact ⟨_, _, _, _, _, _, rfl, O20.out, by omega, S20.out, G20⟩
end Go.Proofs.Ytnklpdckclgilaa
