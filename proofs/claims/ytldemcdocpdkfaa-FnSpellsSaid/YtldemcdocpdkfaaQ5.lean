/-
  Draws of chapter 15 that the law of sick pay uses.
-/
import Derived.Test.YtldemcdocpdkfaaK5
import Derived.Laws.BitsLemmas
import Derived.Laws.Bits64
set_option linter.unusedSimpArgs false
set_option linter.unusedVariables false
namespace Go.Proofs.Ytldemcdocpdkfaa
open Go.RowKit
/-- a drawn number -/
def NumP (B g : Nat) (w : World) (e : Ending) (w' : World) : Prop := ∃ r, e = .returned (.int .i64 r) ∧ Src B w' g ∧ w.grownBy w' (some g)
set_option maxHeartbeats 1000000 in
theorem dayDraw_any (B g : Nat) (w : World) (h : Src B w g) : Calls Try.prog 63 #[.pointer (some ⟨g, 0, none⟩)] w (NumP B g w) := by
  have S0 := Lib.hid h
  have G0 : w.grownBy w (some g) := World.grownBy.refl _ _
  clear h
  have hlt := S0.out.lt
  go_enter Try.func63, Try.ntmps63
  have tok1 : True := trivial
  have tok2 : True := trivial
  go_wp2_with (first | (go_at_call 64; clear tok1;(with_reducible refine Calls.mono (next_any B g _ _ (S0.out)) ?_); rintro ee w1 ⟨r1, rfl, hr1, hs1, hg1⟩; have S1 := Lib.hid hs1; have G1 := grownBy_tr (G0) hg1; clear hs1) | (go_at_call 65; (with_reducible refine Calls.mono (pick_any B g _ _ _ [-1, 0, 100000, 100001] _ (S1.out.alloc _) (rd_litD _ _ _ _ rfl _ rfl) (by rintro ad ⟨rfl⟩; have := G1.size; simp only; omega) (by omega)) ?_); rintro ee w2 ⟨r2, rfl, _, hs2, hg2⟩; have S2 := Lib.hid hs2; have G2 := grownBy_tr (grownBy_alloc G1 _) hg2; clear hs2) | (go_at_call 64; clear tok2;(with_reducible refine Calls.mono (next_any B g _ _ (S1.out)) ?_); rintro ee w3 ⟨r3, rfl, hr3, hs3, hg3⟩; have S3 := Lib.hid hs3; have G3 := grownBy_tr (G1) hg3; clear hs3))
  · go_ret
    exact ⟨_, rfl, S2.out, G2⟩
  · go_ret
    exact ⟨_, rfl, S3.out, G3⟩
set_option maxHeartbeats 1000000 in
theorem rateDraw_any (B g : Nat) (w : World) (h : Src B w g) : Calls Try.prog 66 #[.pointer (some ⟨g, 0, none⟩)] w (NumP B g w) := by
  have S0 := Lib.hid h
  have G0 : w.grownBy w (some g) := World.grownBy.refl _ _
  clear h
  have hlt := S0.out.lt
  go_enter Try.func66, Try.ntmps66
  have tok1 : True := trivial
  have tok2 : True := trivial
  go_wp2_with (first | (go_at_call 64; clear tok1;(with_reducible refine Calls.mono (next_any B g _ _ (S0.out)) ?_); rintro ee w1 ⟨r1, rfl, hr1, hs1, hg1⟩; have S1 := Lib.hid hs1; have G1 := grownBy_tr (G0) hg1; clear hs1) | (go_at_call 65; (with_reducible refine Calls.mono (pick_any B g _ _ _ [0, 1, 100000, 100001] _ (S1.out.alloc _) (rd_litD _ _ _ _ rfl _ rfl) (by rintro ad ⟨rfl⟩; have := G1.size; simp only; omega) (by omega)) ?_); rintro ee w2 ⟨r2, rfl, _, hs2, hg2⟩; have S2 := Lib.hid hs2; have G2 := grownBy_tr (grownBy_alloc G1 _) hg2; clear hs2) | (go_at_call 64; clear tok2;(with_reducible refine Calls.mono (next_any B g _ _ (S1.out)) ?_); rintro ee w3 ⟨r3, rfl, hr3, hs3, hg3⟩; have S3 := Lib.hid hs3; have G3 := grownBy_tr (G1) hg3; clear hs3))
  · go_ret
    exact ⟨_, rfl, S2.out, G2⟩
  · go_ret
    exact ⟨_, rfl, S3.out, G3⟩
theorem belowG {a b w : World} {B g : Nat} (h : Below B a w) (hg : w.grownBy b (some g)) (hB : B ≤ g) (hs : B ≤ w.heap.size) : Below B a b := h.grown hg hs (fun k e => by cases e; exact hB)
set_option maxHeartbeats 1000000 in
theorem drawPo_any (A : Option Addr) (n c : Nat) (w : World) (hC : Code' w.heap.size w A n) : Calls Try.prog 36 #[.slice A n c] w fun e w' => ∃ A' m' c' xs f r, e = .returned (.tuple #[.slice A' m' c', .int .i64 f, .int .i64 r]) ∧ RdP w' w'.heap.size A' m' xs ∧ m' ≤ 100 ∧ Below w.heap.size w w' := by
  have HF := Lib.hid (from_any A n c w hC)
  clear hC
  go_enter Try.func36, Try.ntmps36
  have tok1 : True := trivial
  go_wp2_with (first | (go_at_call 61; (with_reducible refine Calls.mono HF.out ?_); rintro ee w1 ⟨g, rfl, hs1, hb1⟩; have hBg := hs1.1; have hlt1 := hs1.lt; have S1 := Lib.hid hs1; have hz1 := hb1.size; clear hs1) | (go_at_call 62; (with_reducible refine Calls.mono (l15Draw_any _ g _ S1.out) ?_); rintro ee w2 ⟨A2, m2, c2, xs, rfl, ho2, hx2, hs2, hg2⟩; have O2 := Lib.hid ho2; have S2 := Lib.hid hs2; have hB2 := belowG hb1 hg2 hBg hz1; have hz2 := hB2.size; clear ho2 hs2) | (go_at_call 63; (with_reducible refine Calls.mono (dayDraw_any _ g _ S2.out) ?_); rintro ee w3 ⟨r3, rfl, hs3, hg3⟩; have O3 := Lib.hid (O2.out.far hg3 hlt1); have S3 := Lib.hid hs3; have hB3 := belowG hB2 hg3 hBg hz2; have hz3 := hB3.size; clear hs3) | (go_at_call 66; (with_reducible refine Calls.mono (rateDraw_any _ g _ S3.out) ?_); rintro ee w4 ⟨r4, rfl, hs4, hg4⟩; have O4 := Lib.hid (O3.out.far hg4 hlt1); have S4 := Lib.hid hs4; have hB4 := belowG hB3 hg4 hBg hz3; clear hs4))
  go_returns
  have hr := O4.out.rd
  exact ⟨_, _, _, xs, _, _, rfl, hr.2, by have := hr.1; omega, hB4⟩
set_option maxHeartbeats 1000000 in
theorem drawPbt_any (A : Option Addr) (n c : Nat) (w : World) (hC : Code' w.heap.size w A n) : Calls Try.prog 35 #[.slice A n c] w fun e w' => ∃ A' m' c' xs f t r, e = .returned (.tuple #[.slice A' m' c', .int .i64 f, .int .i64 t, .int .i64 r]) ∧ RdP w' w'.heap.size A' m' xs ∧ m' ≤ 100 ∧ Below w.heap.size w w' := by
  have HF := Lib.hid (from_any A n c w hC)
  clear hC
  go_enter Try.func35, Try.ntmps35
  have tok4 : True := trivial
  go_wp2_with (first | (go_at_call 61; (with_reducible refine Calls.mono HF.out ?_); rintro ee w1 ⟨g, rfl, hs1, hb1⟩; have hBg := hs1.1; have hlt1 := hs1.lt; have S1 := Lib.hid hs1; have hz1 := hb1.size; clear hs1) | (go_at_call 62; (with_reducible refine Calls.mono (l15Draw_any _ g _ S1.out) ?_); rintro ee w2 ⟨A2, m2, c2, xs, rfl, ho2, hx2, hs2, hg2⟩; have O2 := Lib.hid ho2; have S2 := Lib.hid hs2; have hB2 := belowG hb1 hg2 hBg hz1; have hz2 := hB2.size; clear ho2 hs2) | (go_at_call 63; (with_reducible refine Calls.mono (dayDraw_any _ g _ S2.out) ?_); rintro ee w3 ⟨r3, rfl, hs3, hg3⟩; have O3 := Lib.hid (O2.out.far hg3 hlt1); have S3 := Lib.hid hs3; have hB3 := belowG hB2 hg3 hBg hz2; have hz3 := hB3.size; clear hs3) | (go_at_call 64; clear tok4; (with_reducible refine Calls.mono (next_any _ g _ _ S3.out) ?_); rintro ee w4 ⟨r4, rfl, _, hs4, hg4⟩; have O4 := Lib.hid (O3.out.far hg4 hlt1); have S4 := Lib.hid hs4; have hB4 := belowG hB3 hg4 hBg hz3; have hz4 := hB4.size; clear hs4))
  · go_wp2_with (first | (go_at_call 65; (with_reducible refine Calls.mono (pick_any _ g _ _ _ [wrap64 (r3 - 1), r3, 100000, 100001] _ (S4.out.alloc _) (rd_litD _ _ _ _ rfl _ rfl) (by rintro ad ⟨rfl⟩; have := S4.out.lt; simp only; omega) (by omega)) ?_); rintro ee w5 ⟨r5, rfl, _, hs5, hg5⟩; have O5 := Lib.hid ((O4.out.alloc _).far hg5 hlt1); have S5 := Lib.hid hs5; have hB5 := belowG (hB4.alloc hz4 _) hg5 hBg (by simp; omega); have hz5 := hB5.size; clear hs5) | (go_at_call 66; (with_reducible refine Calls.mono (rateDraw_any _ g _ S5.out) ?_); rintro ee w6 ⟨r6, rfl, hs6, hg6⟩; have O6 := Lib.hid (O5.out.far hg6 hlt1); have S6 := Lib.hid hs6; have hB6 := belowG hB5 hg6 hBg hz5; clear hs6))
    go_returns
    have hr := O6.out.rd
    exact ⟨_, _, _, xs, _, _, _, rfl, hr.2, by have := hr.1; omega, hB6⟩
  · have tok5 : True := trivial
    go_wp2_with (first | (go_at_call 64; clear tok5; (with_reducible refine Calls.mono (next_any _ g _ _ S4.out) ?_); rintro ee w5 ⟨r5, rfl, _, hs5, hg5⟩; have O5 := Lib.hid (O4.out.far hg5 hlt1); have S5 := Lib.hid hs5; have hB5 := belowG hB4 hg5 hBg hz4; have hz5 := hB5.size; clear hs5) | (go_at_call 66; (with_reducible refine Calls.mono (rateDraw_any _ g _ S5.out) ?_); rintro ee w6 ⟨r6, rfl, hs6, hg6⟩; have O6 := Lib.hid (O5.out.far hg6 hlt1); have S6 := Lib.hid hs6; have hB6 := belowG hB5 hg6 hBg hz5; clear hs6))
    go_returns
    have hr := O6.out.rd
    exact ⟨_, _, _, xs, _, _, _, rfl, hr.2, by have := hr.1; omega, hB6⟩
set_option maxHeartbeats 400000 in
theorem big_any (A : Option Addr) (n c : Nat) (w : World) (hn : n ≤ maxLen) : Calls Try.prog 34 #[.slice A n c] w fun e w' => e = .returned (.bool (decide (4096 < n))) ∧ w = w' := by
  unfold maxLen at hn
  go_enter Try.func34, Try.ntmps34
  go_wp2
  go_ret
  exact ⟨ret_bool (decide_eq_decide.2 (by omega)), rfl⟩
def DiceP (w : World) (e : Ending) (w' : World) : Prop := ∃ g A n c s, e = .returned (.pointer (some ⟨g, 0, none⟩)) ∧ w.heap.size ≤ g ∧ Blk w' g 80 #[.slice A n c, .int .i64 0, .int .u64 s] ∧ Code' w.heap.size w' A n ∧ Below w.heap.size w w'
set_option maxHeartbeats 2000000 in
theorem roll_any (A : Option Addr) (n c : Nat) (w : World) (sd : Int) (hC : Code' w.heap.size w A n) : Calls Try.prog 37 #[.slice A n c, .int .u64 sd] w (DiceP w) := by
  have hm : n ≤ 4096 := hC.1
  have HC := Lib.hid hC
  clear hC
  go_enter Try.func37, Try.ntmps37
  go_wp2
  generalize IntKind.u64.wrap (IntKind.u64.wrap (sd * 9341) + IntKind.u64.wrap (n : Int)) = s0
  generalize IntKind.u64.wrap (sd * 9341) = s1
  generalize IntKind.u64.wrap (n : Int) = s2
  go_loopw [6] (fun i wr => ∃ k : Nat, k ≤ n ∧ i = .int .i64 k ∧ ∃ s : Int, Hid (Blk wr w.heap.size 80 #[.slice A n c, .int .i64 0, .int .u64 s]) ∧ Below w.heap.size w wr) (fun i _ => n - (intOf i).toNat)
  case atStart => exact ⟨0, Nat.zero_le _, rfl, _, Blk.new _ _ _, by go_grown⟩
  case round =>
    obtain ⟨k, hk, rfl, s, HB, hR⟩ := hrel
    by_cases hlt : k < n
    · obtain ⟨_, bs, hbs, hby⟩ := HC.out.below hR
      obtain ⟨ad, z, rfl, hb, hz, hc⟩ := hbs.atB hlt
      clear hbs hby hz
      have k2 : wr.cell? ⟨w.heap.size, 2, none⟩ = some (.int .u64 s) := HB.out.cell 2
      have f2 := HB.out.frozen 2
      have hlt' : (k : Int) < (n : Int) := by omega
      go_wp2_with fail
      go_region
      go_wp2
      go_roundw
      case rel => exact ⟨k + 1, by omega, by go_num, _, HB.out.set_ 2 _, (hR.setCell (Nat.le_refl _) _).drew⟩
      case measure => simp [intOf]; omega
    · go_wp2
      go_ret
      exact ⟨_, A, n, c, s, rfl, Nat.le_refl _, HB.out, HC.out.below hR, hR⟩
theorem mask24 (U : Int) (h : 0 ≤ U) (h2 : U < 18446744073709551616) : ∃ X : Int, bits .and .u64 (U / 8589934592) 16777215 = X ∧ 0 ≤ X ∧ X ≤ 16777215 := by
  have hw : ∀ n : Int, 0 ≤ n → n < 2 ^ 63 → IntKind.u64.wrap n = n := fun n h0 h1 => by rw [IntKind.wrap_u64]; omega
  have h3 := bits_mask .u64 63 (by decide) hw 24 (by decide) (U / 8589934592) (by omega) (by omega)
  have e : ((2 : Int) ^ 24 - 1) = 16777215 := by decide
  have e2 : ((2 : Int) ^ 24) = 16777216 := by decide
  rw [e, e2] at h3
  exact ⟨_, h3, by omega, by omega⟩
set_option maxHeartbeats 2000000 in
theorem below_any (g : Nat) (A : Option Addr) (n c : Nat) (s m : Int) (w : World) (B : Nat) (hB : Blk w g 80 #[.slice A n c, .int .i64 0, .int .u64 s]) (hC : Code' B w A n) (hBg : B ≤ g) (hm : 1 ≤ m) : Calls Try.prog 38 #[.pointer (some ⟨g, 0, none⟩), .int .i64 m] w fun e w' => ∃ r, e = .returned (.int .i64 r) ∧ (0 ≤ r ∧ r < m) ∧ w.grownBy w' (some g) := by
  have k0 : w.cell? ⟨g, 0, none⟩ = some (.slice A n c) := hB.cell 0
  have k1 : w.cell? ⟨g, 1, none⟩ = some (.int .i64 0) := hB.cell 1
  have k2 : w.cell? ⟨g, 2, none⟩ = some (.int .u64 s) := hB.cell 2
  have f1 := hB.frozen 1
  have f2 := hB.frozen 2
  obtain ⟨X, hX, hX0, hX1⟩ := mask24 (IntKind.u64.wrap (IntKind.u64.wrap (s * 6364136223846793005) + 1442695040888963407)) (by rw [IntKind.wrap_u64]; omega) (by rw [IntKind.wrap_u64]; omega)
  have hw : IntKind.i64.wrap X = X := IntWalk.i64_in X (by omega)
  have hn4 : n ≤ 4096 := hC.1
  by_cases hn : n = 0
  · have hn1 : ¬ (0 : Int) < (n : Int) := by omega
    clear hB hC hn
    go_enter Try.func38, Try.ntmps38
    go_wp2_with fail
    go_quiet (fail)
    go_wp2
    go_ret
    exact ⟨_, rfl, ⟨Int.emod_nonneg _ (by omega), Int.emod_lt_of_pos _ (by omega)⟩, grownBy_drewN (grownBy_store (World.grownBy.refl _ _) _ _) _⟩
  · obtain ⟨_, bs, hbs, hby⟩ := hC
    obtain ⟨ad, z, rfl, hb, hz, hc⟩ := hbs.atB (k := 0) (by omega)
    obtain ⟨z0, z1⟩ := hby z (List.mem_of_getElem? hz)
    rw [add_zero'] at hc
    have hne : ∀ i, (⟨g, i, none⟩ : Addr) ≠ ad := fun i e => by have := congrArg Addr.block e; simp at this; omega
    have c1 : ∀ u : Value, (w.setCell ⟨g, 2, none⟩ u).cell? ad = some (.int .u8 z) := fun u => by rw [World.cell?_setCell_other _ _ _ _ (hne 2)]; exact hc
    have hn1 : (0 : Int) < (n : Int) := by omega
    have hn2 : 0 < n := by omega
    clear hB hbs hby hz hne hn
    go_enter Try.func38, Try.ntmps38
    go_wp2_with fail
    go_quiet (fail)
    go_wp2_with fail
    go_quiet (fail)
    go_wp2
    go_ret
    exact ⟨_, rfl, ⟨Int.emod_nonneg _ (by omega), Int.emod_lt_of_pos _ (by omega)⟩, by repeat (first | exact World.grownBy.refl _ _ | refine grownBy_store ?_ _ _ | refine grownBy_drewN ?_ _)⟩
end Go.Proofs.Ytldemcdocpdkfaa
