/-
  Contracts of the functions over life tables that a call owns (the copy, the marks); the joint table.
-/
import Derived.Test.YtmefjjamkebinaaJ6
import Derived.Test.YtmefjjamkebinaaOW
set_option linter.unusedSimpArgs false
set_option linter.unusedVariables false
namespace Go.Proofs.Ytmefjjamkebinaa
open Go.RowKit
set_option maxHeartbeats 1000000 in
theorem toT_own (f : Int) (A : Option Addr) (n c B : Nat) (xs : List Int) (w : World) (h : RdI w B A n xs) (hB : B ≤ w.heap.size) (hn : n ≤ 1048576) : Calls Try.prog 8 #[.agg #[.int .i64 f, .slice A n c]] w fun e w' => ∃ A' c', e = .returned (.agg #[.int .i64 f, .slice A' n c']) ∧ n ≤ c' ∧ c' ≤ maxLen ∧ OwI w' w.heap.size (.slice A' n c') xs ∧ Below w.heap.size w w' := by
  have HT := Lib.hid (fun W (hb : Below w.heap.size w W) => toInts_own A n c B xs W (h.below (hb.mono hB)) (Nat.le_trans hB hb.size) hn)
  clear h
  go_enter Try.func8, Try.ntmps8
  go_wp2_with fail
  refine (HT.out _ (by go_grown)).mono ?_
  rintro ee w1 ⟨A1, c1, rfl, hn1, hm1, hR1, hb1⟩
  have R1 := Lib.hid hR1; clear hR1
  have hB1 := bel_step (w := w) (by go_grown) hb1
  have hz1 := hb1.size; (try simp at hz1)
  obtain ⟨hc1, hf1⟩ := bcell hb1
  have k0 : w1.cell? ⟨w.heap.size + 1, 0, none⟩ = some (.int .i64 0) := by rw [hc1 _ _ (by simp)]; simp [go_sem]
  have k1 : w1.cell? ⟨w.heap.size + 1, 1, none⟩ = some (.slice none 0 0) := by rw [hc1 _ _ (by simp)]; simp [go_sem]
  have k2 : w1.cell? ⟨w.heap.size + 1 + 1, 0, none⟩ = some (.int .i64 f) := by rw [hc1 _ _ (by simp)]; simp [go_sem]
  have k3 : w1.cell? ⟨w.heap.size + 1 + 1, 1, none⟩ = some (.slice none 0 0) := by rw [hc1 _ _ (by simp)]; simp [go_sem]
  have f0 : ∀ o, w1.frozen? ⟨w.heap.size + 1, o, none⟩ = false := fun o => by rw [hf1 _ _ (by simp)]; simp [go_sem]
  have f1 : ∀ o, w1.frozen? ⟨w.heap.size + 1 + 1, o, none⟩ = false := fun o => by rw [hf1 _ _ (by simp)]; simp [go_sem]
  have hy1 : w.heap.size < w1.heap.size := by omega
  have hx1 : w.heap.size + 1 < w1.heap.size := by omega
  have hv1 : w.heap.size + 1 + 1 < w1.heap.size := by omega
  clear hc1 hf1
  go_wp2
  (try simp only [Exit.inBlock, Exit.then])
  refine bodyPost_ret (v := .agg #[.int .i64 f, .slice A1 n c1]) (by simp [results, Try.results8, go_sem, *]) rfl ⟨A1, c1, rfl, hn1, hm1, ?_, by go_grown⟩
  refine OwI.mono (base := w.heap.size + 1 + 1 + 1) ?_ (by omega)
  repeat (refine OwI.store ?_ (by simp) _)
  exact R1.out.mono (by simp)
set_option maxHeartbeats 1000000 in
theorem markT_any (base : Nat) (f : Int) (A : Option Addr) (n c : Nat) (zs : List Int) (k0 : Nat) (w : World) (h : OwI w base (.slice A n c) zs) (hn : n ≤ 1048576) (hk : k0 ≤ 10000000) : Calls Try.prog 11 #[.agg #[.int .i64 f, .slice A n c], .int .i64 k0] w fun e w' => e = .returned (.int .i64 ((k0 + n : Nat) : Int)) ∧ OwI w' base (.slice A n c) (marks k0 n) ∧ (w.alloc (.cells #[.int .i64 f, .slice A n c] 26)).grownBy w' (Value.slice A n c).ownBlock := by
  have H := Lib.hid h
  have HM := Lib.hid (fun W hO => mark_any base A n c zs k0 W hO (by omega) (by omega))
  clear h
  go_enter Try.func11, Try.ntmps11
  go_wp2_with (go_at_call 31; (with_reducible refine Calls.mono (HM.out _ (H.out.alloc _)) ?_); rintro ee w1 ⟨rfl, ho, hg⟩; have HO := Lib.hid ho; clear ho)
  go_ret
  exact ⟨rfl, HO.out, hg⟩
set_option maxHeartbeats 1000000 in
theorem heldT_any (f : Int) (A : Option Addr) (n c B k0 : Nat) (w : World) (h : RdI w B A n (marks k0 n)) (hB : B ≤ w.heap.size) (hn : n ≤ 1048576) (hk : k0 ≤ 10000000) : Calls Try.prog 12 #[.agg #[.int .i64 f, .slice A n c], .int .i64 k0] w fun e w' => e = .returned (.int .i64 ((k0 + n : Nat) : Int)) ∧ Below w.heap.size w w' := by
  have HM := Lib.hid (fun W hO => held_any A n c B k0 W hO (by omega) (by omega))
  have H := Lib.hid (h.alloc hB (.cells #[.int .i64 f, .slice A n c] 26))
  clear h
  go_enter Try.func12, Try.ntmps12
  go_wp2_with (go_at_call 32; (with_reducible refine Calls.mono (HM.out _ H.out) ?_); rintro ee w1 ⟨rfl, rfl⟩)
  go_ret
  exact ⟨rfl, (Below.refl _ _).alloc (Nat.le_refl _) _⟩
end Go.Proofs.Ytmefjjamkebinaa
