/-
  Plain law of FnClasses, packed as the walk asks for it.
-/
import Derived.Test.YtaikfclgmkfooaaGreatDoorCL4
set_option linter.unusedSimpArgs false
set_option linter.unusedVariables false
namespace Go.Proofs.YtaikfclgmkfooaaGreatDoor
open Go Go.RowKit
theorem ct_pack (ss ds : List Int) (ch : Int) : ∃ (T : ByteArray) (K : Int) (ok : Bool), ctS ss ds ch = T ∧ ctK ss ds ch = K ∧ okC ss ds ch = ok ∧ T.size ≤ 1342 ∧ (K == 0) = ok ∧ ((ok = false ∧ K = 1) ∨ (ok = true ∧ K = 0 ∧ rcT (rdS T.data.toList) = (ss, ds, ch, 0))) := by
  refine ⟨_, _, _, rfl, rfl, rfl, ?_, ?_, ?_⟩
  · unfold ctS
    split
    · next h => exact txB_size h
    · exact Nat.zero_le _
  · unfold ctK
    cases okC ss ds ch <;> rfl
  · unfold ctS ctK
    cases h : okC ss ds ch with
    | false => exact .inl ⟨rfl, rfl⟩
    | true => exact .inr ⟨rfl, rfl, by rw [if_pos rfl]; exact rc_text h⟩
theorem rc_pack (s : ByteArray) : ∃ (L1 L2 : List Int) (cv kc : Int), rcT (rdS s.data.toList) = (L1, L2, cv, kc) ∧ (L1.length ≤ 60 ∧ L2.length ≤ 60) ∧ (kc = 6 ∨ (kc = 0 ∧ ctS L1 L2 cv = s ∧ ctK L1 L2 cv = 0)) := by
  rcases rc_case s with h | ⟨ss, ds, ch, h, h1, h2⟩
  · exact ⟨[], [], 0, 6, h, ⟨Nat.zero_le _, Nat.zero_le _⟩, .inl rfl⟩
  · have hk := okC_iff.1 h1
    have hl := inc_len hk.2.2.2.2 hk.2.2.1
    exact ⟨ss, ds, ch, 0, h, ⟨hk.1.2, Nat.le_trans hl hk.1.2⟩, .inr ⟨rfl, by unfold ctS; rw [if_pos h1]; exact h2, if_pos h1⟩⟩
theorem bm_pack (ss ds ms : List Int) (ch : Int) : ∃ (N1 N2 : List Int) (nv kb : Int), kL (bmC ss ds ms ch) ss = N1 ∧ kL (bmC ss ds ms ch) (srt (ds ++ ms)) = N2 ∧ kI (bmC ss ds ms ch) ch = nv ∧ bmC ss ds ms ch = kb ∧ (N1.length ≤ ss.length ∧ N2.length ≤ ds.length + ms.length) ∧ ((kb == 0) = false ∨ (kb = 0 ∧ okC ss ds ch = true ∧ okC N1 N2 nv = true ∧ (∀ j, j < ms.length → ∃ q : Nat, gz ms j = (q : Int) ∧ q < ss.length ∧ gnS ss ms (j + 1) = gnS ss ms j + gz ss q) ∧ (∀ j : Nat, 0 ≤ gnS ss ms j ∧ gnS ss ms j ≤ 1000 * (j : Int)) ∧ lvS ss ds ss.length - gnS ss ms ms.length = lvS N1 N2 N1.length ∧ N2.length = ds.length + ms.length ∧ (0 ≤ lvS ss ds ss.length ∧ lvS ss ds ss.length ≤ 1000 * (ss.length : Int)))) := by
  refine ⟨_, _, _, _, rfl, rfl, rfl, rfl, ⟨kL_len _ _, ?_⟩, ?_⟩
  · have h1 := kL_len (bmC ss ds ms ch) (srt (ds ++ ms))
    rw [srt_len, List.length_append] at h1
    exact h1
  · rcases bm_case ss ds ms ch with h | ⟨h, h1, h2, h3, h4, h5⟩
    · exact .inl h
    · right
      rw [h]
      have ha := (okC_iff.1 h1).2.1
      refine ⟨rfl, h1, h2, fun j hj => ?_, fun j => gnS_bd ha j, h4, h5, lvS_bd ha _ (Nat.le_refl _)⟩
      have h6 := inR_iff.1 (List.all_eq_true.1 h3 _ (gz_mem hj))
      exact ⟨(gz ms j).toNat, by omega, by omega, rfl⟩
end Go.Proofs.YtaikfclgmkfooaaGreatDoor
