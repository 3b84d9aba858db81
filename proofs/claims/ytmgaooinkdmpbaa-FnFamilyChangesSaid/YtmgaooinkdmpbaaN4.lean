/-
  Contracts of the functions of chapter 14: the next change.
-/
import Derived.Test.YtmgaooinkdmpbaaK4
set_option linter.unusedSimpArgs false
set_option linter.unusedVariables false
namespace Go.Proofs.Ytmgaooinkdmpbaa
open Go.RowKit
/-- do the pensions of a month differ from those of the month before -/
def difB (d wd lf : Int) (xs : List Int) (y : Int) : Bool := (widB wd lf y != widB wd lf (y - 1)) || (orpN d y xs != orpN d (y - 1) xs)
/-- the first month from y on (of k months) that differs -/
def nxF (d wd lf : Int) (xs : List Int) (y : Int) : Nat → Option Int
  | 0 => none
  | k + 1 => if difB d wd lf xs y = true then some y else nxF d wd lf xs (y + 1) k
noncomputable def nxC (d m wd lf : Int) (n : Nat) (xs : List Int) (x : Int) : Int := if faC d m wd lf n xs (inR 0 35999 x) = 0 then (match nxF d wd lf xs (x + 1) (35999 - x).toNat with | some _ => 0 | none => 4) else faC d m wd lf n xs (inR 0 35999 x)
noncomputable def nxV (d m wd lf : Int) (n : Nat) (xs : List Int) (x : Int) : Int := if faC d m wd lf n xs (inR 0 35999 x) = 0 then (nxF d wd lf xs (x + 1) (35999 - x).toNat).getD 0 else 0
theorem nx_some {d m wd lf : Int} {n : Nat} {xs : List Int} {x y : Int} (h : faC d m wd lf n xs (inR 0 35999 x) = 0) (h2 : nxF d wd lf xs (x + 1) (35999 - x).toNat = some y) : Hid (nxV d m wd lf n xs x = y ∧ nxC d m wd lf n xs x = 0) := by
  constructor
  · unfold nxV; rw [if_pos h, h2]; rfl
  · unfold nxC; rw [if_pos h, h2]
theorem nx_none {d m wd lf : Int} {n : Nat} {xs : List Int} {x : Int} (h : faC d m wd lf n xs (inR 0 35999 x) = 0) (h2 : nxF d wd lf xs (x + 1) (35999 - x).toNat = none) : Hid (nxV d m wd lf n xs x = 0 ∧ nxC d m wd lf n xs x = 4) := by
  constructor
  · unfold nxV; rw [if_pos h, h2]; rfl
  · unfold nxC; rw [if_pos h, h2]
theorem nx_bad {d m wd lf : Int} {n : Nat} {xs : List Int} {x : Int} (h : faC d m wd lf n xs (inR 0 35999 x) ≠ 0) : Hid (nxV d m wd lf n xs x = 0 ∧ nxC d m wd lf n xs x = faC d m wd lf n xs (inR 0 35999 x)) := ⟨if_neg h, if_neg h⟩
theorem nxF_hit {d wd lf : Int} {xs : List Int} {y : Int} {k : Nat} (h : difB d wd lf xs y = true) (hk : 0 < k) : nxF d wd lf xs y k = some y := by
  obtain ⟨k, rfl⟩ : ∃ j, k = j + 1 := ⟨k - 1, by omega⟩
  exact if_pos h
theorem nxF_miss {d wd lf : Int} {xs : List Int} {y : Int} {k : Nat} (h : difB d wd lf xs y = false) (hk : 0 < k) : nxF d wd lf xs y k = nxF d wd lf xs (y + 1) (k - 1) := by
  obtain ⟨k, rfl⟩ : ∃ j, k = j + 1 := ⟨k - 1, by omega⟩
  exact if_neg (by simp [h])
theorem dif_w {d wd lf : Int} {xs : List Int} {y : Int} (h : (widB wd lf y != widB wd lf (y - 1)) = true) : difB d wd lf xs y = true := by unfold difB; rw [h]; rfl
theorem dif_o {d wd lf : Int} {xs : List Int} {y : Int} (h : (widB wd lf y != widB wd lf (y - 1)) = false) : difB d wd lf xs y = (orpN d y xs != orpN d (y - 1) xs) := by unfold difB; rw [h]; rfl
set_option maxHeartbeats 2000000 in
theorem sDif_any (d m wd lf : Int) (A : Option Addr) (n c : Nat) (xs : List Int) (y : Int) (w : World) (h : RdI w w.heap.size A n xs) (hn12 : n ≤ 12) (hk : kidsP d n xs) (hy : 1 ≤ y ∧ y ≤ 35999) : Calls Try.prog 64 #[.agg #[.int .i64 d, .int .i64 m, .int .i64 wd, .int .i64 lf, .slice A n c], .int .i64 y] w fun ee w' => ee = .returned (.bool (difB d wd lf xs y)) ∧ Below w.heap.size w w' := by
      have H := Lib.hid h
      have hW := al_ w (.cells #[.int .i64 d, .int .i64 m, .int .i64 wd, .int .i64 lf, .slice A n c] 26)
      have a_0 : ((w.alloc (.cells #[.int .i64 d, .int .i64 m, .int .i64 wd, .int .i64 lf, .slice A n c] 26))).cell? ⟨w.heap.size, 0, none⟩ = some (.int .i64 d) := (by simp [go_sem]); have a_1 : ((w.alloc (.cells #[.int .i64 d, .int .i64 m, .int .i64 wd, .int .i64 lf, .slice A n c] 26))).cell? ⟨w.heap.size, 1, none⟩ = some (.int .i64 m) := (by simp [go_sem]); have a_2 : ((w.alloc (.cells #[.int .i64 d, .int .i64 m, .int .i64 wd, .int .i64 lf, .slice A n c] 26))).cell? ⟨w.heap.size, 2, none⟩ = some (.int .i64 wd) := (by simp [go_sem]); have a_3 : ((w.alloc (.cells #[.int .i64 d, .int .i64 m, .int .i64 wd, .int .i64 lf, .slice A n c] 26))).cell? ⟨w.heap.size, 3, none⟩ = some (.int .i64 lf) := (by simp [go_sem]); have a_4 : ((w.alloc (.cells #[.int .i64 d, .int .i64 m, .int .i64 wd, .int .i64 lf, .slice A n c] 26))).cell? ⟨w.heap.size, 4, none⟩ = some (.slice A n c) := (by simp [go_sem])
      have x_0 := fun x : InC (w.alloc (.cells #[.int .i64 d, .int .i64 m, .int .i64 wd, .int .i64 lf, .slice A n c] 26)) => x.cell a_0; have x_1 := fun x : InC (w.alloc (.cells #[.int .i64 d, .int .i64 m, .int .i64 wd, .int .i64 lf, .slice A n c] 26)) => x.cell a_1; have x_2 := fun x : InC (w.alloc (.cells #[.int .i64 d, .int .i64 m, .int .i64 wd, .int .i64 lf, .slice A n c] 26)) => x.cell a_2; have x_3 := fun x : InC (w.alloc (.cells #[.int .i64 d, .int .i64 m, .int .i64 wd, .int .i64 lf, .slice A n c] 26)) => x.cell a_3; have x_4 := fun x : InC (w.alloc (.cells #[.int .i64 d, .int .i64 m, .int .i64 wd, .int .i64 lf, .slice A n c] 26)) => x.cell a_4
      have HV : Hid (difB d wd lf xs y = difB d wd lf xs y) := rfl
      have W1 := fun W => sWid_any d m wd lf A n c xs y W
      have W2 := fun W => sWid_any d m wd lf A n c xs (y - 1) W
      have O1 := fun W hR => sOrp_any d m wd lf A n c xs y W hR hn12 hk (by omega)
      have O2 := fun W hR => sOrp_any d m wd lf A n c xs (y - 1) W hR hn12 hk (by omega)
      have q1 := IntWalk.i64_in (y - 1) (by omega)
      have HDw := Lib.hid (fun h => dif_w (d := d) (wd := wd) (lf := lf) (xs := xs) (y := y) h)
      have HDo := Lib.hid (fun h => dif_o (d := d) (wd := wd) (lf := lf) (xs := xs) (y := y) h)
      generalize widB wd lf y = p1 at *
      generalize widB wd lf (y - 1) = p2 at *
      generalize orpN d y xs = o1 at *
      generalize orpN d (y - 1) xs = o2 at *
      have O1 := Lib.hid O1
      have O2 := Lib.hid O2
      clear h hk
      rcases eqC o1 o2 with ⟨e1, e2, e3⟩ | ⟨e1, e2, e3⟩
      all_goals cases p1 <;> cases p2
      all_goals
        go_enter Try.func64, Try.ntmps64
        go_wp2_with fail
        (refine wp_region_inC (by kernel_rfl) (by kernel_rfl) ?_; (repeat go_big_quiet_step ((first | (go_at_call 39; with_reducible exact Calls.inC (W1 _)) | (go_at_call 39; with_reducible exact Calls.inC (W2 _)) | (go_at_call 59; with_reducible exact Calls.inC (O1.out _ (H.out.later (bel_step hW (InC.h _))))) | (go_at_call 59; with_reducible exact Calls.inC (O2.out _ (H.out.later (bel_step hW (InC.h _)))))))); refine wpQuiet_nil ?_; rintro w1 ⟨⟨_, hb1⟩, rfl⟩)
        go_wp2
        go_ret
        first | exact ⟨by rw [HDw.out rfl]; rfl, bel_step hW hb1⟩ | exact ⟨by rw [HDo.out rfl]; first | rfl | exact ret_bool e2.symm, bel_step hW hb1⟩
end Go.Proofs.Ytmgaooinkdmpbaa
