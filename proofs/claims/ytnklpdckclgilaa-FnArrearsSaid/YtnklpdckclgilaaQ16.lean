/-
  Draws of chapter 16 that the laws of contributions and of arrears use.
-/
import Derived.Test.YtnklpdckclgilaaK16
import Derived.Test.Ytnklpdckclgilaa03
set_option linter.unusedSimpArgs false
set_option linter.unusedVariables false
namespace Go.Proofs.Ytnklpdckclgilaa
open Go.RowKit
theorem OwP.none_cap {w : World} {base : Nat} {A : Option Addr} {n c : Nat} {zs : List (Int × Int)} (h : OwP w base (.slice A n c) zs) : A = none → c = 0 := by
  intro e
  subst e
  rcases h.form with ⟨h1, _⟩ | ⟨g', cap, h1, _⟩
  · injection h1
  · injection h1 with e1
    cases e1
def DM16 (B g : Nat) (w : World) (e : Ending) (w' : World) : Prop := ∃ (j cb mo : Int) (A : Option Addr) (m c : Nat) (xs : List (Int × Int)), e = .returned (.tuple #[.int .i64 j, .int .i64 cb, .slice A m c, .int .i64 mo]) ∧ OwP w' w.heap.size (.slice A m c) xs ∧ xs.length ≤ 100 ∧ Src B w' g ∧ w.grownBy w' (some g)
set_option maxHeartbeats 2000000 in
theorem l16DrawMonth_any (B g : Nat) (w : World) (h : Src B w g) : Calls Try.prog 47 #[.pointer (some ⟨g, 0, none⟩)] w (DM16 B g w) := by
  have hlt := h.lt
  have S0 := Lib.hid h
  clear h
  go_enter Try.func47, Try.ntmps47
  have tok2 : True := trivial
  have tok3 : True := trivial
  have tok4 : True := trivial
  go_wp2_with (first | (go_at_call 56; (with_reducible refine Calls.mono (l16Draw_any _ g _ S0.out) ?_); rintro ee w1 ⟨j, cb, A1, m1, c1, xs, rfl, ho1, hx1, hs1, hg1⟩; have S1 := Lib.hid hs1; have O1 := Lib.hid ho1; have G1 := hg1; have ht1 := G1.size; clear ho1 hs1) | (go_at_call 51; clear tok2; (with_reducible refine Calls.mono (next_any _ g _ _ S1.out) ?_); rintro ee w2 ⟨r2, rfl, hr2, hs2, hg2⟩; have S2 := Lib.hid hs2; have O2 := Lib.hid (O1.out.far hg2 hlt); have G2 := grownBy_tr G1 hg2; have ht2 := G2.size; clear hs2) | (go_at_call 55; clear tok3; (with_reducible refine Calls.mono (pick_any _ g _ _ _ [wrap64 (j - 1), j, 36000] _ (S2.out.alloc _) (rd_litD _ _ _ _ rfl _ rfl) (by rintro ad ⟨rfl⟩; have := S2.out.lt; simp only; omega) (by omega)) ?_); rintro ee w3 ⟨r3, rfl, hm3, hs3, hg3⟩; have S3 := Lib.hid hs3; have O3 := Lib.hid ((O2.out.alloc _).far hg3 hlt); have G3 := grownBy_tr (grownBy_alloc G2 _) hg3; have ht3 := G3.size; clear hs3 hm3) | (go_at_call 51; clear tok4; (with_reducible refine Calls.mono (next_any _ g _ _ S2.out) ?_); rintro ee w4 ⟨r4, rfl, hr4, hs4, hg4⟩; have S4 := Lib.hid hs4; have O4 := Lib.hid (O2.out.far hg4 hlt); have G4 := grownBy_tr G2 hg4; have ht4 := G4.size; clear hs4))
  all_goals go_returns
  all_goals first
    | exact ⟨_, _, _, _, _, _, _, rfl, O3.out, hx1, S3.out, G3⟩
    | exact ⟨_, _, _, _, _, _, _, rfl, O4.out, hx1, S4.out, G4⟩
set_option maxHeartbeats 1000000 in
theorem drawBal_any (A : Option Addr) (n c : Nat) (w : World) (hC : Code' w.heap.size w A n) : Calls Try.prog 18 #[.slice A n c] w fun e w' => ∃ (j cb mo : Int) (A' : Option Addr) (m' c' : Nat) (xs : List (Int × Int)), e = .returned (.tuple #[.int .i64 j, .int .i64 cb, .slice A' m' c', .int .i64 mo]) ∧ RdP w' w'.heap.size A' m' xs ∧ m' ≤ 100 ∧ (A' = none → c' = 0) ∧ Below w.heap.size w w' := by
  have HF := Lib.hid (from_any A n c w hC)
  clear hC
  go_enter Try.func18, Try.ntmps18
  go_wp2_with (first | (go_at_call 48; (with_reducible refine Calls.mono HF.out ?_); rintro ee w0 ⟨g, rfl, hs0, hb0⟩; have hBg := hs0.1; have hlt := hs0.lt; have S0 := Lib.hid hs0; have hz0 := hb0.size; clear hs0) | (go_at_call 47; (with_reducible refine Calls.mono (l16DrawMonth_any _ g _ S0.out) ?_); rintro ee w1 ⟨j, cb, mo, A1, m1, c1, xs, rfl, ho1, hx1, hs1, hg1⟩; have S1 := Lib.hid hs1; have O1 := Lib.hid ho1; have G1 := hg1; have ht1 := G1.size; clear ho1 hs1))
  go_returns
  have hr := O1.out.rd
  exact ⟨_, _, _, _, _, _, xs, rfl, hr.2, by have := hr.1; omega, O1.out.none_cap, belowG hb0 G1 hBg hz0⟩
set_option maxHeartbeats 1000000 in
theorem drawTot_any (A : Option Addr) (n c : Nat) (w : World) (hC : Code' w.heap.size w A n) : Calls Try.prog 23 #[.slice A n c] w fun e w' => ∃ (j f mo : Int) (A' : Option Addr) (m' c' : Nat) (xs : List (Int × Int)), e = .returned (.tuple #[.int .i64 j, .slice A' m' c', .int .i64 f, .int .i64 mo]) ∧ RdP w' w'.heap.size A' m' xs ∧ m' ≤ 100 ∧ Below w.heap.size w w' := by
  have HF := Lib.hid (from_any A n c w hC)
  clear hC
  go_enter Try.func23, Try.ntmps23
  have tok2 : True := trivial
  go_wp2_with (first | (go_at_call 48; (with_reducible refine Calls.mono HF.out ?_); rintro ee w0 ⟨g, rfl, hs0, hb0⟩; have hBg := hs0.1; have hlt := hs0.lt; have S0 := Lib.hid hs0; have hz0 := hb0.size; clear hs0) | (go_at_call 47; (with_reducible refine Calls.mono (l16DrawMonth_any _ g _ S0.out) ?_); rintro ee w1 ⟨j, cb, mo, A1, m1, c1, xs, rfl, ho1, hx1, hs1, hg1⟩; have S1 := Lib.hid hs1; have O1 := Lib.hid ho1; have G1 := hg1; have ht1 := G1.size; clear ho1 hs1) | (go_at_call 51; clear tok2; (with_reducible refine Calls.mono (next_any _ g _ _ S1.out) ?_); rintro ee w2 ⟨r2, rfl, hr2, hs2, hg2⟩; have S2 := Lib.hid hs2; have O2 := Lib.hid (O1.out.far hg2 hlt); have G2 := grownBy_tr G1 hg2; have ht2 := G2.size; clear hs2))
  go_returns
  have hr := O2.out.rd
  exact ⟨_, _, _, _, _, _, xs, rfl, hr.2, by have := hr.1; omega, belowG hb0 G2 hBg hz0⟩
set_option maxHeartbeats 1000000 in
theorem drawRev_any (A : Option Addr) (n c : Nat) (w : World) (hC : Code' w.heap.size w A n) : Calls Try.prog 28 #[.slice A n c] w fun e w' => ∃ (j cb mo r : Int) (A' : Option Addr) (m' c' : Nat) (xs : List (Int × Int)), e = .returned (.tuple #[.int .i64 j, .int .i64 cb, .slice A' m' c', .int .i64 mo, .int .i64 r]) ∧ RdP w' w'.heap.size A' m' xs ∧ m' ≤ 100 ∧ Below w.heap.size w w' := by
  have HF := Lib.hid (from_any A n c w hC)
  clear hC
  go_enter Try.func28, Try.ntmps28
  have tok2 : True := trivial
  have tok3 : True := trivial
  go_wp2_with (first | (go_at_call 48; (with_reducible refine Calls.mono HF.out ?_); rintro ee w0 ⟨g, rfl, hs0, hb0⟩; have hBg := hs0.1; have hlt := hs0.lt; have S0 := Lib.hid hs0; have hz0 := hb0.size; clear hs0) | (go_at_call 47; (with_reducible refine Calls.mono (l16DrawMonth_any _ g _ S0.out) ?_); rintro ee w1 ⟨j, cb, mo, A1, m1, c1, xs, rfl, ho1, hx1, hs1, hg1⟩; have S1 := Lib.hid hs1; have O1 := Lib.hid ho1; have G1 := hg1; have ht1 := G1.size; clear ho1 hs1) | (go_at_call 51; clear tok2; (with_reducible refine Calls.mono (next_any _ g _ _ S1.out) ?_); rintro ee w2 ⟨r2, rfl, hr2, hs2, hg2⟩; have hr2' := hr2.2 (by omega); have S2 := Lib.hid hs2; have O2 := Lib.hid (O1.out.far hg2 hlt); have G2 := grownBy_tr G1 hg2; have ht2 := G2.size; clear hs2 hr2) | (go_at_call 55; clear tok3; (with_reducible refine Calls.mono (pick_any _ g _ _ _ [0, 5, 10, r2 - 1] _ (S2.out.alloc _) (rd_litD _ _ _ _ rfl _ rfl) (by rintro ad ⟨rfl⟩; have := S2.out.lt; simp only; omega) (by omega)) ?_); rintro ee w3 ⟨r3, rfl, hm3, hs3, hg3⟩; have S3 := Lib.hid hs3; have O3 := Lib.hid ((O2.out.alloc _).far hg3 hlt); have G3 := grownBy_tr (grownBy_alloc G2 _) hg3; have ht3 := G3.size; clear hs3 hm3))
  go_returns
  have hr := O3.out.rd
  exact ⟨_, _, _, _, _, _, _, xs, rfl, hr.2, by have := hr.1; omega, belowG hb0 G3 hBg hz0⟩
set_option maxHeartbeats 1000000 in
theorem drawUnt_any (A : Option Addr) (n c : Nat) (w : World) (hC : Code' w.heap.size w A n) : Calls Try.prog 29 #[.slice A n c] w fun e w' => ∃ (j cb : Int) (A' : Option Addr) (m' c' : Nat) (xs : List (Int × Int)), e = .returned (.tuple #[.int .i64 j, .int .i64 cb, .slice A' m' c']) ∧ RdP w' w'.heap.size A' m' xs ∧ m' ≤ 100 ∧ Below w.heap.size w w' := by
  have HF := Lib.hid (from_any A n c w hC)
  clear hC
  go_enter Try.func29, Try.ntmps29
  go_wp2_with (first | (go_at_call 48; (with_reducible refine Calls.mono HF.out ?_); rintro ee w0 ⟨g, rfl, hs0, hb0⟩; have hBg := hs0.1; have hlt := hs0.lt; have S0 := Lib.hid hs0; have hz0 := hb0.size; clear hs0) | (go_at_call 56; (with_reducible refine Calls.mono (l16Draw_any _ g _ S0.out) ?_); rintro ee w1 ⟨j, cb, A1, m1, c1, xs, rfl, ho1, hx1, hs1, hg1⟩; have S1 := Lib.hid hs1; have O1 := Lib.hid ho1; have G1 := hg1; have ht1 := G1.size; clear ho1 hs1))
  go_returns
  have hr := O1.out.rd
  exact ⟨_, _, _, _, _, xs, rfl, hr.2, by have := hr.1; omega, belowG hb0 G1 hBg hz0⟩
end Go.Proofs.Ytnklpdckclgilaa
