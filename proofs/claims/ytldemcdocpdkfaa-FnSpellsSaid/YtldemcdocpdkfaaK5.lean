/-
  Draws of spells: slices of spells that a call owns; what a draw leaves.
-/
import Derived.Test.YtldemcdocpdkfaaD
import Derived.Test.YtldemcdocpdkfaaO5
set_option linter.unusedSimpArgs false
set_option linter.unusedVariables false
namespace Go.Proofs.Ytldemcdocpdkfaa
open Go.RowKit
/-- v is a slice of spells that lies in a block of its own from block base on, and reads as xs -/
def OwP (w : World) (base : Nat) (v : Value) (xs : List (Int × Int)) : Prop := w.ownsRow base 57 2 v xs.length (xs.flatMap enP)
theorem OwP.form {w : World} {base : Nat} {v : Value} {zs : List (Int × Int)} (h : OwP w base v zs) : (v = .slice none 0 0 ∧ zs = []) ∨ ∃ g cap, v = .slice (some ⟨g, 0, none⟩) zs.length cap ∧ base ≤ g ∧ g < w.heap.size := by
  have hlt := h.lt
  obtain ⟨h1, h2⟩ := h
  rcases h2 with ⟨rfl, hn⟩ | ⟨g, cap, cur, rfl, hg, hh, hn, hm, _⟩
  · exact .inl ⟨rfl, List.eq_nil_of_length_eq_zero hn⟩
  · exact .inr ⟨g, cap, rfl, hg, (hlt g rfl).2⟩
theorem OwP.sl {w : World} {base : Nat} {v : Value} {zs : List (Int × Int)} (h : OwP w base v zs) : ∃ A m c, v = .slice A m c := by
  rcases h.form with ⟨h1, _⟩ | ⟨g, cap, h1, _⟩
  · exact ⟨_, _, _, h1⟩
  · exact ⟨_, _, _, h1⟩
theorem OwP.rd {w : World} {base : Nat} {A : Option Addr} {n c : Nat} {zs : List (Int × Int)} (h : OwP w base (.slice A n c) zs) : n = zs.length ∧ RdP w w.heap.size A n zs := by
  have hn : n = zs.length := by
    rcases h.form with ⟨h1, h2⟩ | ⟨g, cap, h1, _⟩
    · injection h1 with h1 h3; subst h2; exact h3
    · injection h1
  subst hn
  exact ⟨rfl, RdS.of_own (fun x => rfl) h rfl rfl⟩
theorem OwP.kept {w w' : World} {base : Nat} {row : Option Nat} {v : Value} {zs : List (Int × Int)} (h : OwP w base v zs) (hg : w.grownBy w' row) (hb : ∀ b, row = some b → b < base) : OwP w' base v zs := by
  refine World.ownsRow.kept h hg ?_
  rcases h.form with ⟨h1, _⟩ | ⟨g', cap, h1, h2, _⟩
  · exact .inl (by rw [h1]; rfl)
  · refine .inr ?_
    rw [h1]
    intro e
    have := hb g' e.symm
    omega
theorem OwP.far {w w' : World} {base g : Nat} {v : Value} {zs : List (Int × Int)} (h : OwP w base v zs) (hg : w.grownBy w' (some g)) (hb : g < base) : OwP w' base v zs := h.kept hg (fun b e => by cases e; exact hb)
theorem OwP.alloc {w : World} {base : Nat} {v : Value} {zs : List (Int × Int)} (h : OwP w base v zs) (o : Obj) : OwP (w.alloc o) base v zs := h.kept (World.grownBy_alloc w o none) (fun b e => by cases e)
theorem OwP.later {w w' : World} {base : Nat} {v : Value} {zs : List (Int × Int)} (h : OwP w base v zs) (hb : Below w.heap.size w w') : OwP w' base v zs :=
  h.kept (row := none) ⟨hb.os, hb.tape, hb.output, hb.size, fun i hi _ => hb.block i hi⟩ (fun b e => by cases e)
theorem OwP.mono {w : World} {base base' : Nat} {v : Value} {zs : List (Int × Int)} (h : OwP w base v zs) (hb : base' ≤ base) : OwP w base' v zs := by
  obtain ⟨h1, h2⟩ := h
  refine ⟨h1, ?_⟩
  rcases h2 with h2 | ⟨g, cap, cur, hv, hg, r⟩
  · exact .inl h2
  · exact .inr ⟨g, cap, cur, hv, by omega, r⟩
theorem ownEmptyP (w : World) (base : Nat) (h : base ≤ w.heap.size) : OwP (w.alloc (.cells #[] 57)) base (.slice (some ⟨w.heap.size, 0, none⟩) 0 0) [] :=
  World.ownsRow_lit (base := base) (e := 57) (size := 2) w #[] 0 h (by unfold maxLen; omega) rfl
/-- append of one spell -/
theorem wpl_app_spell {ops : Array Oper} {rest : List Oper} {o : Oper} {a : Act} {Q : Exit → Act → World → Prop} {w : World} (hgd : o.guard = none) (s x : Operand)
    (ho : o.op = .call { callee := .builtin .append, args := #[s, x], argTypes := #[25, 25] })
    (base : Nat) (zs : List (Int × Int)) (v : Value) (hs : a.eval s = v) (hown : OwP w base v zs) (ad : Addr) (f t : Int) (c : Nat) (hx : a.eval x = .slice (some ad) 1 c) (hc : w.cell? ad = some (.int .i64 f)) (hc1 : w.cell? (ad.add 1) = some (.int .i64 t)) (hl : zs.length ≤ 1000000) (hbase : base ≤ w.heap.size)
    (h : ∀ v' w', OwP w' base v' (zs ++ [(f, t)]) → w.grownBy w' v.ownBlock → wpList Try.prog ops Q rest (a.put o.dst v') w') : wpList Try.prog ops Q (o :: rest) a w := by
  have HN : (Try.prog.info? 57).map (fun i => (i.zero, i.size, i.bytes)) = some (some (.agg #[.int .i64 0, .int .i64 0]), 2, 16) := by kernel_rfl
  obtain ⟨i0, hi, hz0, hz1, hz2⟩ := info_parts HN
  refine wpList_append_own w hgd s x 25 ho base 57 i0 (.agg #[.int .i64 0, .int .i64 0]) 2 16 Try.underlying25 hi hz0 hz1 hz2 rfl (by decide) v zs.length (zs.flatMap enP) hs hown ad 1 c [.int .i64 f, .int .i64 t] hx rfl ?_ ?_ ?_ ?_ hbase ?_
  · intro j u hj
    match j with
    | 0 => simp only [List.getElem?_cons_zero, Option.some.injEq] at hj; subst hj; rw [add_zero']; exact hc
    | 1 => simp only [List.getElem?_cons_succ, List.getElem?_cons_zero, Option.some.injEq] at hj; subst hj; exact hc1
    | j + 2 => simp at hj
  · intro u hu
    simp only [List.mem_cons, List.not_mem_nil, or_false] at hu
    rcases hu with rfl | rfl <;> rfl
  · unfold maxLen; omega
  · omega
  · intro v' w' h1 h2 _
    refine h v' w' ?_ h2
    unfold OwP
    rw [List.length_append, List.flatMap_append]
    exact h1
theorem grownBy_new {a w w' : World} {g : Nat} {row : Option Nat} (h : a.grownBy w (some g)) (k : w.grownBy w' row) (hr : ∀ b, row = some b → a.heap.size ≤ b) : a.grownBy w' (some g) :=
  ⟨k.os.trans h.os, k.tape.trans h.tape, k.output.trans h.output, Nat.le_trans h.size k.size, fun i hi hne => (k.block i (Nat.lt_of_lt_of_le hi h.size) (fun e => by have := hr i e.symm; omega)).trans (h.block i hi hne)⟩
theorem own_row {w : World} {base : Nat} {v : Value} {zs : List (Int × Int)} (h : OwP w base v zs) : ∀ b, v.ownBlock = some b → base ≤ b := by
  intro b e
  rcases h.form with ⟨h1, _⟩ | ⟨g', cap, h1, h2, _⟩
  · rw [h1] at e; cases e
  · rw [h1] at e
    simp only [Value.ownBlock, Option.some.injEq] at e
    omega
theorem Src.kept {B : Nat} {w w' : World} {g : Nat} {row : Option Nat} (h : Src B w g) (hg : w.grownBy w' row) (hb : ∀ b, row = some b → g < b) : Src B w' g := by
  have hlt := h.lt
  refine h.below (B' := g + 1) ⟨hg.os, hg.tape, hg.output, hg.size, fun i hi => hg.block i (by omega) (fun e => by have := hb i e.symm; omega)⟩ (by omega)
set_option maxHeartbeats 4000000 in
theorem l15Draw_any (B g : Nat) (w : World) (h : Src B w g) : Calls Try.prog 62 #[.pointer (some ⟨g, 0, none⟩)] w fun e w' => ∃ A m c xs, e = .returned (.slice A m c) ∧ OwP w' w.heap.size (.slice A m c) xs ∧ xs.length ≤ 100 ∧ Src B w' g ∧ w.grownBy w' (some g) := by
  have hlt := h.lt
  have S0 := Lib.hid (h.alloc (.cells #[] 57))
  have G0 : w.grownBy (w.alloc (.cells #[] 57)) (some g) := grownBy_alloc (World.grownBy.refl _ _) _
  have O0 := Lib.hid (ownEmptyP w w.heap.size (Nat.le_refl _))
  clear h
  go_enter Try.func62, Try.ntmps62
  have tok1 : True := trivial
  go_wp2_with (go_at_call 64; clear tok1; (with_reducible refine Calls.mono (next_any B g _ _ S0.out) ?_); rintro ee w1 ⟨r1, rfl, hr1, hs1, hg1⟩; have S1 := Lib.hid hs1; have O1 := Lib.hid (O0.out.far hg1 hlt); have G1 := grownBy_tr G0 hg1; clear hs1)
  have tok2 : True := trivial
  go_wp2_with (go_at_call 64; clear tok2; (with_reducible refine Calls.mono (next_any B g _ _ S1.out) ?_); rintro ee w2 ⟨r2, rfl, hr2, hs2, hg2⟩; have S2 := Lib.hid hs2; have O2 := Lib.hid (O1.out.far hg2 hlt); have G2 := grownBy_tr G1 hg2; clear hs2)
  have hd0 : 0 ≤ r1 ∧ r1 < 100 := hr1.2 (by omega)
  have hn0 : 0 ≤ r2 ∧ r2 < 6 := hr2.2 (by omega)
  clear hr1 hr2
  go_loopw [3, 4, 5] (fun v dd nn wr => ∃ (N D : Int) (xs : List (Int × Int)), nn = .int .i64 N ∧ 0 ≤ N ∧ N ≤ 5 ∧ dd = .int .i64 D ∧ 0 ≤ D ∧ D ≤ 100 + 1000 * (5 - N) ∧ (∃ A m c, v = .slice A m c) ∧ OwP wr w.heap.size v xs ∧ (xs.length : Int) ≤ 5 - N ∧ Src B wr g ∧ w.grownBy wr (some g)) (fun _ _ nn _ => (intOf nn).toNat)
  case atStart => exact ⟨r2, r1, [], rfl, by omega, by omega, rfl, by omega, by omega, ⟨_, _, _, rfl⟩, O2.out, by simp; omega, S2.out, G2⟩
  case round =>
    obtain ⟨N, D, xs, rfl, hN0, hN1, rfl, hD0, hD1, ⟨A, m, c, rfl⟩, ho, hxl, hs, hG⟩ := hrel
    have SR := Lib.hid hs
    have OR := Lib.hid ho
    have hltr := hs.lt
    have hsz := hG.size
    clear ho hs
    by_cases hlt0 : 0 < N
    · have tok3 : True := trivial
      have tok4 : True := trivial
      go_wp2_with (first | (go_at_call 65; clear tok3; (with_reducible refine Calls.mono (pick_any B g _ _ _ [5, 40, 400] _ (SR.out.alloc _) (rd_litD _ _ _ _ rfl _ rfl) (by rintro ad ⟨rfl⟩; simp only; omega) (by omega)) ?_); rintro ee w3 ⟨r3, rfl, hm3, hs3, hg3⟩; have hb3 : 5 ≤ r3 ∧ r3 ≤ 400 := (by simp at hm3; omega); have S3 := Lib.hid hs3; have O3 := Lib.hid ((OR.out.alloc _).far hg3 hlt); have G3 := grownBy_tr (grownBy_alloc hG _) hg3; have ht3 := G3.size; clear hs3 hm3) | (go_at_call 64; clear tok4; (with_reducible refine Calls.mono (next_any B g _ _ S3.out) ?_); rintro ee w4 ⟨r4, rfl, hr4, hs4, hg4⟩; have hb4 : 0 ≤ r4 ∧ r4 < 400 := (by have := hr4.2 (by omega); omega); have S4 := Lib.hid hs4; have O4 := Lib.hid (O3.out.far hg4 hlt); have G4 := grownBy_tr G3 hg4; have ht4 := G4.size; clear hs4 hr4) | (at_builtin; refine wpl_app_spell rfl _ _ rfl w.heap.size xs _ (by rfl) (O4.out.alloc _) ⟨w4.heap.size, 0, none⟩ (D) (D + 1 + r4) 1 (by rfl) (by simp [go_sem]) (by simp [go_sem, Addr.add]) (by omega) (by simp; omega) ?_; intro v5 w5 ho5 hg5; obtain ⟨A5, m5, c5, rfl⟩ := ho5.sl; have rw5 := own_row (O4.out.alloc (.cells #[.int .i64 (D), .int .i64 (D + 1 + r4)] 57)); have O5 := Lib.hid ho5; have S5 := Lib.hid (Src.kept (S4.out.alloc _) hg5 (fun b e => Nat.lt_of_lt_of_le hlt (rw5 b e))); have G5 := grownBy_new (grownBy_alloc G4 _) hg5 (fun b e => rw5 b e); have ht5 := G5.size; clear ho5 rw5 hg5))
      have hlt5 := S5.out.lt
      have tok6 : True := trivial
      have tok7 : True := trivial
      go_wp2_with (first | (go_at_call 65; clear tok6; (with_reducible refine Calls.mono (pick_any B g _ _ _ [30, 57, 200] _ (S5.out.alloc _) (rd_litD _ _ _ _ rfl _ rfl) (by rintro ad ⟨rfl⟩; simp only; omega) (by omega)) ?_); rintro ee w6 ⟨r6, rfl, hm6, hs6, hg6⟩; have hb6 : 30 ≤ r6 ∧ r6 ≤ 200 := (by simp at hm6; omega); have S6 := Lib.hid hs6; have O6 := Lib.hid ((O5.out.alloc _).far hg6 hlt); have G6 := grownBy_tr (grownBy_alloc G5 _) hg6; have ht6 := G6.size; clear hs6 hm6) | (go_at_call 64; clear tok7; (with_reducible refine Calls.mono (next_any B g _ _ S6.out) ?_); rintro ee w7 ⟨r7, rfl, hr7, hs7, hg7⟩; have hb7 : 0 ≤ r7 ∧ r7 < 200 := (by have := hr7.2 (by omega); omega); have S7 := Lib.hid hs7; have O7 := Lib.hid (O6.out.far hg7 hlt); have G7 := grownBy_tr G6 hg7; have ht7 := G7.size; clear hs7 hr7))
      go_roundw
      case rel => exact ⟨N - 1, _, _, by first | rfl | go_num, by omega, by omega, rfl, by omega, by omega, ⟨_, _, _, rfl⟩, O7.out, by simp; omega, S7.out, G7⟩
      case measure => simp [intOf]; omega
    · have tok8 : True := trivial
      have tok9 : True := trivial
      have tok10 : True := trivial
      go_wp2_with (first | (go_at_call 64; clear tok8; (with_reducible refine Calls.mono (next_any B g _ _ SR.out) ?_); rintro ee w8 ⟨r8, rfl, hr8, hs8, hg8⟩; have hb8 : 0 ≤ r8 ∧ r8 < 50 := (by have := hr8.2 (by omega); omega); have S8 := Lib.hid hs8; have O8 := Lib.hid (OR.out.far hg8 hlt); have G8 := grownBy_tr hG hg8; have ht8 := G8.size; clear hs8 hr8) | (go_at_call 65; clear tok9; (with_reducible refine Calls.mono (pick_any B g _ _ _ [-1, D, D - 50] _ (S8.out.alloc _) (rd_litD _ _ _ _ rfl _ rfl) (by rintro ad ⟨rfl⟩; simp only; omega) (by omega)) ?_); rintro ee w9 ⟨r9, rfl, hm9, hs9, hg9⟩; have S9 := Lib.hid hs9; have O9 := Lib.hid ((O8.out.alloc _).far hg9 hlt); have G9 := grownBy_tr (grownBy_alloc G8 _) hg9; have ht9 := G9.size; clear hs9 hm9) | (go_at_call 65; clear tok10; (with_reducible refine Calls.mono (pick_any B g _ _ _ [D, 100000, 100001] _ (S9.out.alloc _) (rd_litD _ _ _ _ rfl _ rfl) (by rintro ad ⟨rfl⟩; simp only; omega) (by omega)) ?_); rintro ee w10 ⟨r10, rfl, hm10, hs10, hg10⟩; have S10 := Lib.hid hs10; have O10 := Lib.hid ((O9.out.alloc _).far hg10 hlt); have G10 := grownBy_tr (grownBy_alloc G9 _) hg10; have ht10 := G10.size; clear hs10 hm10) | (at_builtin; refine wpl_app_spell rfl _ _ rfl w.heap.size xs _ (by rfl) (O10.out.alloc _) ⟨w10.heap.size, 0, none⟩ (r9) (r10) 1 (by rfl) (by simp [go_sem]) (by simp [go_sem, Addr.add]) (by omega) (by simp; omega) ?_; intro v11 w11 ho11 hg11; obtain ⟨A11, m11, c11, rfl⟩ := ho11.sl; have rw11 := own_row (O10.out.alloc (.cells #[.int .i64 (r9), .int .i64 (r10)] 57)); have O11 := Lib.hid ho11; have S11 := Lib.hid (Src.kept (S10.out.alloc _) hg11 (fun b e => Nat.lt_of_lt_of_le hlt (rw11 b e))); have G11 := grownBy_new (grownBy_alloc G10 _) hg11 (fun b e => rw11 b e); have ht11 := G11.size; clear ho11 rw11 hg11))
      · go_ret
        exact ⟨_, _, _, _, rfl, O11.out, by simp; omega, S11.out, G11⟩
      · have e8 : (r8 == 0) = false := by assumption
        have e9 : (r8 == 1) = true := by assumption
        simp only [e8, e9]
        go_loopw [3, 7] (fun v kk wq => ∃ (K : Int) (ys : List (Int × Int)), kk = .int .i64 K ∧ 0 ≤ K ∧ K ≤ 21 ∧ (∃ A m c, v = .slice A m c) ∧ OwP wq w.heap.size v ys ∧ (ys.length : Int) ≤ K ∧ Src B wq g ∧ w.grownBy wq (some g)) (fun _ kk _ => (21 - intOf kk).toNat)
        case atStart => exact ⟨0, [], rfl, by omega, by omega, ⟨_, _, _, rfl⟩, ownEmptyP _ _ ht8, by simp, S8.out.alloc _, grownBy_alloc G8 _⟩
        case round =>
          obtain ⟨K, ys, rfl, hK0, hK1, ⟨A', m', c', rfl⟩, ho, hyl, hs, hGq⟩ := hrel
          have SQ := Lib.hid hs
          have OQ := Lib.hid ho
          have htq := hGq.size
          clear ho hs
          have tok12 : True := trivial
          go_wp2_with (first | (go_at_call 64; clear tok12; (with_reducible refine Calls.mono (next_any B g _ _ SQ.out) ?_); rintro ee w12 ⟨r12, rfl, hr12, hs12, hg12⟩; have hb12 : 0 ≤ r12 ∧ r12 < 2 := (by have := hr12.2 (by omega); omega); have S12 := Lib.hid hs12; have O12 := Lib.hid (OQ.out.far hg12 hlt); have G12 := grownBy_tr hGq hg12; have ht12 := G12.size; clear hs12 hr12) | (at_builtin; refine wpl_app_spell rfl _ _ rfl w.heap.size ys _ (by rfl) (O12.out.alloc _) ⟨w12.heap.size, 0, none⟩ (100 * K) (100 * K + 7) 1 (by rfl) (by simp [go_sem]) (by simp [go_sem, Addr.add]) (by omega) (by simp; omega) ?_; intro v13 w13 ho13 hg13; obtain ⟨A13, m13, c13, rfl⟩ := ho13.sl; have rw13 := own_row (O12.out.alloc (.cells #[.int .i64 (100 * K), .int .i64 (100 * K + 7)] 57)); have O13 := Lib.hid ho13; have S13 := Lib.hid (Src.kept (S12.out.alloc _) hg13 (fun b e => Nat.lt_of_lt_of_le hlt (rw13 b e))); have G13 := grownBy_new (grownBy_alloc G12 _) hg13 (fun b e => rw13 b e); have ht13 := G13.size; clear ho13 rw13 hg13))
          · go_roundw
            case rel => exact ⟨K + 1, _, by first | rfl | go_num, by omega, by omega, ⟨_, _, _, rfl⟩, O13.out, by simp; omega, S13.out, G13⟩
            case measure => simp [intOf]; omega
          · go_ret
            exact ⟨_, _, _, _, rfl, O12.out, by omega, S12.out, G12⟩
      · go_ret
        exact ⟨_, _, _, _, rfl, O8.out, by omega, S8.out, G8⟩
end Go.Proofs.Ytldemcdocpdkfaa
