/-
  Contracts of the functions of chapter 14: the code of a family, months and rates.
-/
import Derived.Test.YtmgaooinkdmpbaaE4
set_option linter.unusedSimpArgs false
set_option linter.unusedVariables false
namespace Go.Proofs.Ytmgaooinkdmpbaa
open Go.RowKit
/-- the code of a family and of other arguments that are in range or not -/
noncomputable def faC (d m wd lf : Int) (n : Nat) (xs : List Int) (t : Bool) : Int := if famT d m wd lf n xs = true then (if t = true then 0 else 2) else 1
theorem faC_cases (d m wd lf : Int) (n : Nat) (xs : List Int) (t : Bool) : (faC d m wd lf n xs t = 0 ∧ famP d m wd lf n xs ∧ t = true) ∨ (faC d m wd lf n xs t = 2 ∧ famT d m wd lf n xs = true ∧ t = false) ∨ (faC d m wd lf n xs t = 1 ∧ famT d m wd lf n xs = false) := by
  unfold faC
  cases h : famT d m wd lf n xs with
  | false => simp
  | true =>
    have hp := famT_t.1 h
    cases t
    · simp
    · simp [hp]
/-- a list of numbers that was written out -/
theorem rd_lit (W : World) (cs : Array Value) (zs : List Int) (t : TypeId) (h : cs = (zs.map (Value.int .i64)).toArray) (n : Nat) (hn : zs.length = n) : RdI (W.alloc (.cells cs t)) (W.alloc (.cells cs t)).heap.size (some ⟨W.heap.size, 0, none⟩) n zs := by
  subst h
  refine ⟨hn, fun _ => ⟨_, rfl, by simp, fun i x hx j v hv => ?_⟩⟩
  have hj : j = 0 := by
    have := (List.getElem?_eq_some_iff.1 hv).1
    simpa [enI] using this
  subst hj
  simp only [enI, List.getElem?_cons_zero, Option.some.injEq] at hv
  subst hv
  have := (Blk.new W t (zs.map (Value.int .i64)).toArray).cell i
  rw [show (⟨W.heap.size, 0, none⟩ : Addr).add (i * 1 + 0) = ⟨W.heap.size, i, none⟩ from by unfold Addr.add; split <;> simp_all, this]
  simp [hx]
set_option maxHeartbeats 1000000 in
theorem iCkF_any (d m wd lf : Int) (A : Option Addr) (n c : Nat) (xs : List Int) (B1 : Option Addr) (m1 d1 : Nat) (zs : List Int) (B2 : Option Addr) (m2 d2 : Nat) (rs : List Int) (w : World) (h : RdI w w.heap.size A n xs) (hc : n ≤ c) (hcm : c ≤ maxLen) (hn : n ≤ 1048576) (hz : RdI w w.heap.size B1 m1 zs) (hr : RdI w w.heap.size B2 m2 rs) (hm1 : m1 ≤ 100) (hm2 : m2 ≤ 100) : Calls Try.prog 42 #[.agg #[.int .i64 d, .int .i64 m, .int .i64 wd, .int .i64 lf, .slice A n c], .slice B1 m1 d1, .slice B2 m2 d2] w fun ee w' => ee = .returned (.int .i64 (faC d m wd lf n xs (zs.all (inR 0 35999) && rs.all (inR 0 1000000)))) ∧ Below w.heap.size w w' := by
  have HA := Lib.hid (fun W hR => iFam_any d m wd lf A n c xs W hR hc hcm hn)
  have HI := Lib.hid (fun W hR => allIn_any B1 m1 d1 zs 0 35999 W hR (by unfold maxLen; omega))
  have HJ := Lib.hid (fun W hR => allIn_any B2 m2 d2 rs 0 1000000 W hR (by unfold maxLen; omega))
  have H := Lib.hid h
  have HZ := Lib.hid hz
  have HR := Lib.hid hr
  have hW := al_ w (.cells #[.int .i64 d, .int .i64 m, .int .i64 wd, .int .i64 lf, .slice A n c] 26)
  unfold faC
  clear h hz hr
  generalize famT d m wd lf n xs = b at *
  generalize zs.all (inR 0 35999) = b1 at *
  generalize rs.all (inR 0 1000000) = b2 at *
  cases b <;> cases b1 <;> cases b2
  all_goals go_enter Try.func42, Try.ntmps42
  all_goals go_wp2_with (first | (go_at_call 24; (with_reducible refine Calls.mono (HA.out _ (H.out.later hW)) ?_); rintro ee w1 ⟨rfl, hb1⟩; have hB1 := bel_step hW hb1) | (go_at_call 61; (with_reducible refine Calls.mono (HI.out _ (HZ.out.later hB1)) ?_); rintro ee w2 ⟨rfl, hb2⟩; have hB2 := bel_step hB1 hb2) | (go_at_call 61; (with_reducible refine Calls.mono (HJ.out _ (HR.out.later hB2)) ?_); rintro ee w3 ⟨rfl, hb3⟩; have hB3 := bel_step hB2 hb3))
  all_goals go_ret
  all_goals exact ⟨rfl, by first | exact hB3 | exact hB2 | exact hB1⟩
set_option maxHeartbeats 1000000 in
theorem sCkF_any (d m wd lf : Int) (A : Option Addr) (n c : Nat) (xs : List Int) (t : Bool) (w : World) (h : RdI w w.heap.size A n xs) (hc : n ≤ c) (hcm : c ≤ maxLen) (hn : n ≤ 1048576) : Calls Try.prog 37 #[.agg #[.int .i64 d, .int .i64 m, .int .i64 wd, .int .i64 lf, .slice A n c], .bool t] w fun ee w' => ee = .returned (.int .i64 (faC d m wd lf n xs t)) ∧ Below w.heap.size w w' := by
  have HA := Lib.hid (fun W hR => sFam_any d m wd lf A n c xs W hR hc hcm hn)
  have H := Lib.hid h
  have hW := al_ w (.cells #[.int .i64 d, .int .i64 m, .int .i64 wd, .int .i64 lf, .slice A n c] 26)
  unfold faC
  clear h
  generalize famT d m wd lf n xs = b at *
  cases b <;> cases t
  all_goals go_enter Try.func37, Try.ntmps37
  all_goals go_wp2_with (first | (go_at_call 25; (with_reducible refine Calls.mono (HA.out _ (H.out.later hW)) ?_); rintro ee w1 ⟨rfl, hb1⟩; have hB1 := bel_step hW hb1))
  all_goals go_ret
  all_goals exact ⟨rfl, hB1⟩
set_option maxHeartbeats 400000 in
theorem sRates_any (a b : Int) (w : World) : Calls Try.prog 56 #[.int .i64 a, .int .i64 b] w fun e w' => e = .returned (.bool (inR 0 1000000 a && inR 0 1000000 b)) ∧ w = w' := by
  have HM := fun W => sIn_any a 0 1000000 W
  have HN := fun W => sIn_any b 0 1000000 W
  generalize inR 0 1000000 a = p at *
  generalize inR 0 1000000 b = q at *
  cases p <;> cases q
  all_goals go_enter Try.func56, Try.ntmps56
  all_goals go_wp2_with (first | (go_at_call 55; (with_reducible refine (HM _).mono ?_); rintro ee w1 ⟨rfl, rfl⟩) | (go_at_call 55; (with_reducible refine (HN _).mono ?_); rintro ee w1 ⟨rfl, rfl⟩))
  all_goals go_ret
  all_goals exact ⟨rfl, rfl⟩
end Go.Proofs.Ytmgaooinkdmpbaa
