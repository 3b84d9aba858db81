/-
  Contracts of the functions of chapter 14: GetsWidow, OrphansIn, PensionIn.
-/
import Derived.Test.YtmgaooinkdmpbaaF4
set_option linter.unusedSimpArgs false
set_option linter.unusedVariables false
namespace Go.Proofs.Ytmgaooinkdmpbaa
open Go.RowKit
theorem all_1 (x : Int) : ([x].all (inR 0 35999) && ([] : List Int).all (inR 0 1000000)) = inR 0 35999 x := by simp
theorem all_3 (x a b : Int) : ([x].all (inR 0 35999) && [a, b].all (inR 0 1000000)) = (inR 0 35999 x && (inR 0 1000000 a && inR 0 1000000 b)) := by simp
theorem rd_litAt (W : World) (cs : Array Value) (zs : List Int) (t : TypeId) (h : cs = (zs.map (Value.int .i64)).toArray) (n : Nat) (hn : zs.length = n) (s : Nat) (hs : W.heap.size = s) : RdI (W.alloc (.cells cs t)) (W.alloc (.cells cs t)).heap.size (some ⟨s, 0, none⟩) n zs := by subst hs; exact rd_lit W cs zs t h n hn
/-- the pension of a month -/
def penN (d wd lf x wi o : Int) (xs : List Int) : Int := orpN d x xs * o + (if widB wd lf x = true then wi else 0)
theorem orpo_bd {d x o : Int} {xs : List Int} (hl : xs.length ≤ 12) (ho : 0 ≤ o ∧ o ≤ 1000000) : 0 ≤ orpN d x xs * o ∧ orpN d x xs * o ≤ 12000000 := by
  have h1 := orp_bd d x xs
  exact ⟨Int.mul_nonneg h1.1 ho.1, Int.le_trans (Int.mul_le_mul (show orpN d x xs ≤ 12 by omega) ho.2 ho.1 (by omega)) (by omega)⟩
theorem pen_bd {d wd lf x wi o : Int} {xs : List Int} (hl : xs.length ≤ 12) (ho : 0 ≤ o ∧ o ≤ 1000000) (hw : 0 ≤ wi ∧ wi ≤ 1000000) : 0 ≤ penN d wd lf x wi o xs ∧ penN d wd lf x wi o xs ≤ 13000000 := by
  have h1 := orpo_bd (d := d) (x := x) hl ho
  unfold penN
  split <;> omega
set_option maxHeartbeats 1000000 in
theorem iPen_any (d m wd lf : Int) (A : Option Addr) (n c : Nat) (xs : List Int) (x wi o : Int) (w : World) (h : RdI w w.heap.size A n xs) (hn : n ≤ 12) (hk : kidsP d n xs) (hx : 0 ≤ x ∧ x ≤ 35999) (ho : 0 ≤ o ∧ o ≤ 1000000) (hw : 0 ≤ wi ∧ wi ≤ 1000000) : Calls Try.prog 54 #[.agg #[.int .i64 d, .int .i64 m, .int .i64 wd, .int .i64 lf, .slice A n c], .int .i64 x, .int .i64 wi, .int .i64 o] w fun ee w' => ee = .returned (.int .i64 (penN d wd lf x wi o xs)) ∧ Below w.heap.size w w' := by
  have hb := orpo_bd (d := d) (x := x) (xs := xs) (o := o) (by rw [h.len]; exact hn) ho
  have HO := Lib.hid (fun W hR => iOrp_any d m wd lf A n c xs x W hR hn hk hx)
  have HW := fun W => iWid_any d m wd lf A n c xs x W
  have H := Lib.hid h
  have hW := al_ w (.cells #[.int .i64 d, .int .i64 m, .int .i64 wd, .int .i64 lf, .slice A n c] 26)
  have a_0 : ((w.alloc (.cells #[.int .i64 d, .int .i64 m, .int .i64 wd, .int .i64 lf, .slice A n c] 26))).cell? ⟨w.heap.size, 0, none⟩ = some (.int .i64 d) := (by simp [go_sem]); have a_1 : ((w.alloc (.cells #[.int .i64 d, .int .i64 m, .int .i64 wd, .int .i64 lf, .slice A n c] 26))).cell? ⟨w.heap.size, 1, none⟩ = some (.int .i64 m) := (by simp [go_sem]); have a_2 : ((w.alloc (.cells #[.int .i64 d, .int .i64 m, .int .i64 wd, .int .i64 lf, .slice A n c] 26))).cell? ⟨w.heap.size, 2, none⟩ = some (.int .i64 wd) := (by simp [go_sem]); have a_3 : ((w.alloc (.cells #[.int .i64 d, .int .i64 m, .int .i64 wd, .int .i64 lf, .slice A n c] 26))).cell? ⟨w.heap.size, 3, none⟩ = some (.int .i64 lf) := (by simp [go_sem]); have a_4 : ((w.alloc (.cells #[.int .i64 d, .int .i64 m, .int .i64 wd, .int .i64 lf, .slice A n c] 26))).cell? ⟨w.heap.size, 4, none⟩ = some (.slice A n c) := (by simp [go_sem])
  have hbb : 0 ≤ orpN d x xs ∧ orpN d x xs ≤ 12 := by have := orp_bd d x xs; rw [h.len] at this; omega
  have hcm : orpN d x xs * o = o * orpN d x xs := Int.mul_comm _ _
  have HCM := Lib.hid hcm
  cases hq : widB wd lf x with
  | true =>
    have HQ : Hid (penN d wd lf x wi o xs = orpN d x xs * o + wi) := by show _ = _; unfold penN; rw [hq]; rfl
    rw [hq] at HW
    have hb2 := hb
    rw [hcm] at hb2
    clear h hk hq hcm
    generalize orpN d x xs = t at *
    go_enter Try.func54, Try.ntmps54
    go_wp2_with (first | ((go_at_call 58; (with_reducible refine Calls.mono (HO.out _ (H.out.later hW)) ?_); rintro ee w1 ⟨rfl, hb1⟩; have hB1 := bel_step hW hb1); have b_0 := keepC hb1 a_0; have b_1 := keepC hb1 a_1; have b_2 := keepC hb1 a_2; have b_3 := keepC hb1 a_3; have b_4 := keepC hb1 a_4) | (go_at_call 43; (with_reducible refine Calls.mono (HW _) ?_); rintro ee w2 ⟨rfl, hb2⟩; have hB2 := bel_step hB1 hb2))
    go_ret
    exact ⟨by rw [HQ.out]; first | rfl | (rw [HCM.out]; rfl), hB2⟩
  | false =>
    have HQ : Hid (penN d wd lf x wi o xs = orpN d x xs * o) := by show _ = _; unfold penN; rw [hq]; exact Int.add_zero _
    rw [hq] at HW
    have hb2 := hb
    rw [hcm] at hb2
    clear h hk hq hcm
    generalize orpN d x xs = t at *
    go_enter Try.func54, Try.ntmps54
    go_wp2_with (first | ((go_at_call 58; (with_reducible refine Calls.mono (HO.out _ (H.out.later hW)) ?_); rintro ee w1 ⟨rfl, hb1⟩; have hB1 := bel_step hW hb1); have b_0 := keepC hb1 a_0; have b_1 := keepC hb1 a_1; have b_2 := keepC hb1 a_2; have b_3 := keepC hb1 a_3; have b_4 := keepC hb1 a_4) | (go_at_call 43; (with_reducible refine Calls.mono (HW _) ?_); rintro ee w2 ⟨rfl, hb2⟩; have hB2 := bel_step hB1 hb2))
    go_ret
    exact ⟨by rw [HQ.out]; first | rfl | (rw [HCM.out]; rfl), hB2⟩
set_option maxHeartbeats 1000000 in
theorem sPen_any (d m wd lf : Int) (A : Option Addr) (n c : Nat) (xs : List Int) (x wi o : Int) (w : World) (h : RdI w w.heap.size A n xs) (hn : n ≤ 12) (hk : kidsP d n xs) (hx : 0 ≤ x ∧ x ≤ 35999) (ho : 0 ≤ o ∧ o ≤ 1000000) (hw : 0 ≤ wi ∧ wi ≤ 1000000) : Calls Try.prog 57 #[.agg #[.int .i64 d, .int .i64 m, .int .i64 wd, .int .i64 lf, .slice A n c], .int .i64 x, .int .i64 wi, .int .i64 o] w fun ee w' => ee = .returned (.int .i64 (penN d wd lf x wi o xs)) ∧ Below w.heap.size w w' := by
  have hb := orpo_bd (d := d) (x := x) (xs := xs) (o := o) (by rw [h.len]; exact hn) ho
  have HO := Lib.hid (fun W hR => sOrp_any d m wd lf A n c xs x W hR hn hk hx)
  have HW := fun W => sWid_any d m wd lf A n c xs x W
  have H := Lib.hid h
  have hW := al_ w (.cells #[.int .i64 d, .int .i64 m, .int .i64 wd, .int .i64 lf, .slice A n c] 26)
  have a_0 : ((w.alloc (.cells #[.int .i64 d, .int .i64 m, .int .i64 wd, .int .i64 lf, .slice A n c] 26))).cell? ⟨w.heap.size, 0, none⟩ = some (.int .i64 d) := (by simp [go_sem]); have a_1 : ((w.alloc (.cells #[.int .i64 d, .int .i64 m, .int .i64 wd, .int .i64 lf, .slice A n c] 26))).cell? ⟨w.heap.size, 1, none⟩ = some (.int .i64 m) := (by simp [go_sem]); have a_2 : ((w.alloc (.cells #[.int .i64 d, .int .i64 m, .int .i64 wd, .int .i64 lf, .slice A n c] 26))).cell? ⟨w.heap.size, 2, none⟩ = some (.int .i64 wd) := (by simp [go_sem]); have a_3 : ((w.alloc (.cells #[.int .i64 d, .int .i64 m, .int .i64 wd, .int .i64 lf, .slice A n c] 26))).cell? ⟨w.heap.size, 3, none⟩ = some (.int .i64 lf) := (by simp [go_sem]); have a_4 : ((w.alloc (.cells #[.int .i64 d, .int .i64 m, .int .i64 wd, .int .i64 lf, .slice A n c] 26))).cell? ⟨w.heap.size, 4, none⟩ = some (.slice A n c) := (by simp [go_sem])
  have hbb : 0 ≤ orpN d x xs ∧ orpN d x xs ≤ 12 := by have := orp_bd d x xs; rw [h.len] at this; omega
  have hcm : orpN d x xs * o = o * orpN d x xs := Int.mul_comm _ _
  have HCM := Lib.hid hcm
  cases hq : widB wd lf x with
  | true =>
    have HQ : Hid (penN d wd lf x wi o xs = orpN d x xs * o + wi) := by show _ = _; unfold penN; rw [hq]; rfl
    rw [hq] at HW
    have hb2 := hb
    rw [hcm] at hb2
    clear h hk hq hcm
    generalize orpN d x xs = t at *
    go_enter Try.func57, Try.ntmps57
    go_wp2_with (first | ((go_at_call 59; (with_reducible refine Calls.mono (HO.out _ (H.out.later hW)) ?_); rintro ee w1 ⟨rfl, hb1⟩; have hB1 := bel_step hW hb1); have b_0 := keepC hb1 a_0; have b_1 := keepC hb1 a_1; have b_2 := keepC hb1 a_2; have b_3 := keepC hb1 a_3; have b_4 := keepC hb1 a_4) | (go_at_call 39; (with_reducible refine Calls.mono (HW _) ?_); rintro ee w2 ⟨rfl, hb2⟩; have hB2 := bel_step hB1 hb2))
    go_ret
    exact ⟨by rw [HQ.out]; first | rfl | (rw [HCM.out]; rfl), hB2⟩
  | false =>
    have HQ : Hid (penN d wd lf x wi o xs = orpN d x xs * o) := by show _ = _; unfold penN; rw [hq]; exact Int.add_zero _
    rw [hq] at HW
    have hb2 := hb
    rw [hcm] at hb2
    clear h hk hq hcm
    generalize orpN d x xs = t at *
    go_enter Try.func57, Try.ntmps57
    go_wp2_with (first | ((go_at_call 59; (with_reducible refine Calls.mono (HO.out _ (H.out.later hW)) ?_); rintro ee w1 ⟨rfl, hb1⟩; have hB1 := bel_step hW hb1); have b_0 := keepC hb1 a_0; have b_1 := keepC hb1 a_1; have b_2 := keepC hb1 a_2; have b_3 := keepC hb1 a_3; have b_4 := keepC hb1 a_4) | (go_at_call 39; (with_reducible refine Calls.mono (HW _) ?_); rintro ee w2 ⟨rfl, hb2⟩; have hB2 := bel_step hB1 hb2))
    go_ret
    exact ⟨by rw [HQ.out]; first | rfl | (rw [HCM.out]; rfl), hB2⟩
end Go.Proofs.Ytmgaooinkdmpbaa
