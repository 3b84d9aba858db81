/-
  Bytes that came in: how a law's argument is opened.
-/
import Derived.Test.YtaikfclgmkfooaaGreatDoor03
import Derived.Test.YtaikfclgmkfooaaGreatDoorF
set_option linter.unusedSimpArgs false
set_option linter.unusedVariables false
namespace Go.Proofs.YtaikfclgmkfooaaGreatDoor
open Go.ChangeShapes Go.WideShapes Go.ChangeAt Go.RowKit Go.Deep
set_option maxRecDepth 100000 in
/-- bytes that came in -/
theorem open_bytes {H : Type} {enc : TypeId × Value → H} {w : World} {r : Reach} {b0 : Nat} {v : Value} {d : DataW H} {p : List MemPlace} (hv : Value.okWide Tryz.prog w r b0 22 v) (h : DataW.Trod enc Tryz.prog w 0 (fun _ => true) true 22 v d p) :
    ∃ A n c bs, v = .slice A n c ∧ RdB w w.heap.size A n bs ∧ (∀ b ∈ bs, 0 ≤ b ∧ b ≤ 255) ∧ n ≤ maxLen := by
  obtain ⟨a, len, cap, rfl⟩ := okWide_slice Tryz.underlying22 hv
  obtain ⟨fuel, hf⟩ := h
  obtain ⟨A, n, c, xs, hcs, hn, hc, hR, hg⟩ := open_rd (en := enB) (sz := 1) (good := fun b => 0 ≤ b ∧ b ≤ 255) Tryz.underlying22 (by kernel_rfl) (by omega) (fun fuel cs x hl ht => by
    obtain ⟨n, rfl, _, hw⟩ := DataW.trod_int Tryz.underlying5 ht
    exact ⟨n, rfl, by simpa [Lit.wf, IntKind.min, IntKind.max, IntKind.signed, IntKind.bits] using hw⟩) hf
  simp only [Value.cells, Array.toList] at hcs
  injection hcs with hcs _
  injection hcs with h1 h2 h3
  subst h1 h2 h3
  exact ⟨_, _, _, xs, rfl, hR, hg, Nat.le_trans hn hc⟩
end Go.Proofs.YtaikfclgmkfooaaGreatDoor
