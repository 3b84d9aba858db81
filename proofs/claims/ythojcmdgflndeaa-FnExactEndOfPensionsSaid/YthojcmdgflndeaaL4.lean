/-
  The walks of statements of chapter 14, 'X returns what the reference returns' over one family: the law returns true and turns nothing that was there. No condition.
-/
import Derived.Test.YthojcmdgflndeaaC4
import Derived.Test.YthojcmdgflndeaaD4
import Derived.Test.YthojcmdgflndeaaF
set_option linter.unusedSimpArgs false
set_option linter.unusedVariables false
namespace Go.Proofs.Ythojcmdgflndeaa
open Go.ChangeShapes Go.WideShapes Go.ChangeAt Go.RowKit Go.Deep
set_option maxRecDepth 100000 in
/-- a family that came in -/
theorem open_family {H : Type} {enc : TypeId × Value → H} {w : World} {r : Reach} {b0 : Nat} {v : Value} {dd : DataW H} {p : List MemPlace} (hv : Value.okWide Try.prog w r b0 24 v) (h : DataW.Trod enc Try.prog w 0 (fun _ => true) true 24 v dd p) :
    ∃ d m wd lf A n c xs, v = .agg #[.int .i64 d, .int .i64 m, .int .i64 wd, .int .i64 lf, .slice A n c] ∧ RdI w w.heap.size A n xs ∧ n ≤ c ∧ c ≤ maxLen := by
  obtain ⟨l, fuel, rfl, hl, ht⟩ := open_agg Try.underlying24 (by kernel_rfl) hv h
  have hF := el_fields Try.underlying24 (by kernel_rfl) hl ht
  obtain ⟨n0, c0, y0, hc0, h0⟩ := hF 0 _ rfl
  obtain ⟨n1, c1, y1, hc1, h1⟩ := hF 1 _ rfl
  obtain ⟨n2, c2, y2, hc2, h2⟩ := hF 2 _ rfl
  obtain ⟨n3, c3, y3, hc3, h3⟩ := hF 3 _ rfl
  obtain ⟨n4, c4, y4, hc4, h4⟩ := hF 4 _ rfl
  obtain ⟨d, hd, _, _⟩ := DataW.trod_int Try.underlying2 h0
  obtain ⟨m, hm, _, _⟩ := DataW.trod_int Try.underlying2 h1
  obtain ⟨wd, hw, _, _⟩ := DataW.trod_int Try.underlying2 h2
  obtain ⟨lf, hf, _, _⟩ := DataW.trod_int Try.underlying2 h3
  obtain ⟨A, n, c, xs, hcs, hn, hc, hR, _⟩ := open_rd (en := enI) (sz := 1) (good := I64) Try.underlying22 (by kernel_rfl) (by omega) (el_int Try.underlying2) h4
  match l, hl with
  | [a0, a1, a2, a3, a4], _ =>
    simp only [List.getElem?_cons_zero, List.getElem?_cons_succ, Option.some.injEq] at hc0 hc1 hc2 hc3 hc4
    subst hc0 hc1 hc2 hc3 hc4
    simp only [List.cons.injEq, and_true] at hd hm hw hf hcs
    subst hd hm hw hf hcs
    exact ⟨_, _, _, _, _, _, _, xs, rfl, hR, hn, hc⟩
set_option maxHeartbeats 2000000 in
theorem fnExactIsFamily_walk (d m wd lf : Int) (A : Option Addr) (n c : Nat) (xs : List Int)  (w : World) (h : RdI w w.heap.size A n xs) (hc : n ≤ c) (hcm : c ≤ maxLen) : Calls Try.prog 3 #[.agg #[.int .i64 d, .int .i64 m, .int .i64 wd, .int .i64 lf, .slice A n c]] w fun e' w' => e' = .returned (.bool true) ∧ Below w.heap.size w w' := by
  by_cases hn : n ≤ 1048576
  · have HZ := Lib.hid (fun W => szF_ok d m wd lf A n c 1048576 W (by omega) (by omega))
    have HT := Lib.hid (fun W (hB : Below w.heap.size w W) => toF_any d m wd lf A n c w.heap.size xs W (h.below hB) hB.size hn)
    have HE := Lib.hid (fun W A1 A2 c1 c2 h1 h2 => eqF_same d m wd lf A1 A2 n c1 c2 W.heap.size W.heap.size xs W h1 h2 (Nat.le_refl _) (Nat.le_refl _) (Nat.le_trans hc hcm))
    have HS := fun W A' c' hR hc' hm' => sFam_any d m wd lf A' n c' xs W hR hc' hm' hn
    have HI := fun W W' A' c' (hR : RdI W W.heap.size A' n xs) (hB : Below W.heap.size W W') hc' hm' => iFam_any d m wd lf A' n c' xs W' (hR.later hB) hc' hm' hn
    generalize famT d m wd lf n xs = b at *
    have HS := Lib.hid HS
    have HI := Lib.hid HI
    clear h hc hcm
    go_enter Try.func3, Try.ntmps3
    go_wp2_with (go_at_call 13; (with_reducible refine Calls.mono (HZ.out _) ?_); rintro ee w0 ⟨rfl, hb0⟩; obtain ⟨hc0, hf0⟩ := bcell hb0; have hB0 := bel_step (w := w) (by go_grown) hb0; have hz0 := hb0.size; (try simp at hz0); have hy0 : w.heap.size < w0.heap.size := by omega)
    have tok1 : True := trivial
    go_wp2_with (go_at_call 15; clear tok1; (with_reducible refine Calls.mono (HT.out _ hB0) ?_); rintro ee w1 ⟨A1, c1, rfl, hn1, hm1, hR1, hb1⟩; have Q1 := Lib.hid hR1.rd.2; clear hR1; obtain ⟨hc1, hf1⟩ := bcell hb1; have hB1 := bel_step hB0 hb1; have hz1 := hb1.size; have hy1 : w.heap.size < w1.heap.size := by omega)
    go_wp2_with (go_at_call 14; (with_reducible refine Calls.mono (HS.out _ _ _ Q1.out hn1 hm1) ?_); rintro ee w2 ⟨rfl, hb2⟩; obtain ⟨hc2, hf2⟩ := bcell hb2; have hB2 := bel_step hB1 hb2; have hz2 := hb2.size; have hy2 : w.heap.size < w2.heap.size := by omega)
    have tok3 : True := trivial
    go_wp2_with (go_at_call 15; clear tok3; (with_reducible refine Calls.mono (HT.out _ hB2) ?_); rintro ee w3 ⟨A3, c3, rfl, hn3, hm3, hR3, hb3⟩; have Q3 := Lib.hid hR3.rd.2; clear hR3; obtain ⟨hc3, hf3⟩ := bcell hb3; have hB3 := bel_step hB2 hb3; have hz3 := hb3.size; have hy3 : w.heap.size < w3.heap.size := by omega)
    go_wp2_with fail
    have hBx : Below w3.heap.size w3 (w3.alloc (.cells #[.int .i64 d, .int .i64 m, .int .i64 wd, .int .i64 lf, .slice A3 n c3] 27)) := by go_grown
    refine Calls.mono (HI.out w3 _ _ _ Q3.out hBx hn3 hm3) ?_
    rintro ee w4 ⟨rfl, hb4⟩
    have hB34 := bel_step hBx hb4
    have hB4 := bel_step hB3 hB34
    obtain ⟨hc4, hf4⟩ := bcell hb4
    have hz4 := hb4.size
    simp only [World.size_alloc] at hz4
    have hx4 : w3.heap.size < w4.heap.size := by omega
    have hy4 : w.heap.size < w4.heap.size := by omega
    have hB04 : Below w0.heap.size w0 w4 := bel_step (bel_step (bel_step hb1 hb2) hb3) hB34
    have k0 : w4.cell? ⟨w3.heap.size, 0, none⟩ = some (.int .i64 d) := by rw [hc4 _ _ (by simp)]; simp [go_sem]
    have j0 : w0.cell? ⟨w.heap.size, 0, none⟩ = some (.int .i64 d) := by rw [hc0 _ _ (by simp)]; simp [go_sem]
    have i0 : w4.cell? ⟨w.heap.size, 0, none⟩ = some (.int .i64 d) := (hB04.cell (p := ⟨w.heap.size, 0, none⟩) hy0).trans j0
    have k1 : w4.cell? ⟨w3.heap.size, 1, none⟩ = some (.int .i64 m) := by rw [hc4 _ _ (by simp)]; simp [go_sem]
    have j1 : w0.cell? ⟨w.heap.size, 1, none⟩ = some (.int .i64 m) := by rw [hc0 _ _ (by simp)]; simp [go_sem]
    have i1 : w4.cell? ⟨w.heap.size, 1, none⟩ = some (.int .i64 m) := (hB04.cell (p := ⟨w.heap.size, 1, none⟩) hy0).trans j1
    have k2 : w4.cell? ⟨w3.heap.size, 2, none⟩ = some (.int .i64 wd) := by rw [hc4 _ _ (by simp)]; simp [go_sem]
    have j2 : w0.cell? ⟨w.heap.size, 2, none⟩ = some (.int .i64 wd) := by rw [hc0 _ _ (by simp)]; simp [go_sem]
    have i2 : w4.cell? ⟨w.heap.size, 2, none⟩ = some (.int .i64 wd) := (hB04.cell (p := ⟨w.heap.size, 2, none⟩) hy0).trans j2
    have k3 : w4.cell? ⟨w3.heap.size, 3, none⟩ = some (.int .i64 lf) := by rw [hc4 _ _ (by simp)]; simp [go_sem]
    have j3 : w0.cell? ⟨w.heap.size, 3, none⟩ = some (.int .i64 lf) := by rw [hc0 _ _ (by simp)]; simp [go_sem]
    have i3 : w4.cell? ⟨w.heap.size, 3, none⟩ = some (.int .i64 lf) := (hB04.cell (p := ⟨w.heap.size, 3, none⟩) hy0).trans j3
    have k4 : w4.cell? ⟨w3.heap.size, 4, none⟩ = some (.slice A3 n c3) := by rw [hc4 _ _ (by simp)]; simp [go_sem]
    have j4 : w0.cell? ⟨w.heap.size, 4, none⟩ = some (.slice A n c) := by rw [hc0 _ _ (by simp)]; simp [go_sem]
    have i4 : w4.cell? ⟨w.heap.size, 4, none⟩ = some (.slice A n c) := (hB04.cell (p := ⟨w.heap.size, 4, none⟩) hy0).trans j4
    have Q4 := Lib.hid (Q3.out.later hB34)
    clear hc0 hf0 hc1 hf1 hc2 hf2 hc3 hf3 hc4 hf4 j0 j1 j2 j3 j4 hb1 hb2 hb3 hBx HI HS
    go_wp2_with fail
    go_region_held3 (fun W' => Below w4.heap.size w4 W' ∧ ∀ b o, b < w4.heap.size → W'.cell? ⟨b, o, none⟩ = w4.cell? ⟨b, o, none⟩) (first | exact bS (Below.refl _ _).drew | exact bS hb5 | exact bS (bel_step hb5 hb6)) (first | (go_at_call 15; (with_reducible refine Calls.mono (HT.out _ hB4.drew) ?_); rintro ee w5 ⟨A5, c5, rfl, hn5, hm5, hR5, hb5⟩; have Q5 := Lib.hid hR5.rd.2; clear hR5; have hb5 := bel_step (w := w4) (Below.refl _ _).drew hb5) | (go_at_call 17; (with_reducible refine Calls.mono (HE.out _ _ _ _ _ (Q4.out.later hb5) Q5.out) ?_); rintro ee w6 ⟨rfl, hb6⟩; have hB6 := bel_step hB4 (bel_step hb5 hb6)))
    go_wp2
    go_returns
    exact ⟨rfl, hB6⟩
  · have HZ := Lib.hid (fun W => szF_big d m wd lf A n c W (by omega) (Nat.le_trans hc hcm))
    clear h
    go_enter Try.func3, Try.ntmps3
    go_wp2_with (go_at_call 13; (with_reducible refine (HZ.out _).mono ?_); rintro ee w0 ⟨rfl, hb0⟩; have hB0 := bel_step (w := w) (by go_grown) hb0)
    go_returns
    exact ⟨rfl, hB0⟩
end Go.Proofs.Ythojcmdgflndeaa
