/-
  Contracts of chapter 13: burying, the program's side.
-/
import Derived.Test.YtmhbkabdiciakaaDoorC1
import Derived.Test.YtmhbkabdiciakaaDoorS1
import Derived.Test.YtmhbkabdiciakaaDoorO1
set_option linter.unusedSimpArgs false
set_option linter.unusedVariables false
namespace Go.Proofs.YtmhbkabdiciakaaDoor
open Go.RowKit
theorem buC_2 {ss ds ms : List Int} (h : ¬ (ms.length ≤ 120 ∧ ms.all (inR 0 ((ss.length : Int) - 1)) = true)) : Hid (buC ss ds ms = 2) := by show _ = _; unfold buC; rw [if_neg h]
theorem buC_5 {ss ds ms : List Int} (h : ms.length ≤ 120 ∧ ms.all (inR 0 ((ss.length : Int) - 1)) = true) (h2 : incB (srt (ds ++ ms)) = false) : Hid (buC ss ds ms = 5) := by show _ = _; unfold buC; rw [if_pos h, if_neg (by rw [h2]; decide)]
theorem buC_0 {ss ds ms : List Int} (h : ms.length ≤ 120 ∧ ms.all (inR 0 ((ss.length : Int) - 1)) = true) (h2 : incB (srt (ds ++ ms)) = true) : Hid (buC ss ds ms = 0) := by show _ = _; unfold buC; rw [if_pos h, if_pos h2]
/-- what burying gives: class, code, and who owns it -/
def buP (w w' : World) (e : Ending) (k : Int) (ss ds : List Int) (ch : Int) : Prop := ∃ S' n' c' D' m' d', e = .returned (.tuple #[.agg #[.slice S' n' c', .slice D' m' d', .int .i64 (kI k ch)], .int .i64 k]) ∧ OwC w' w.heap.size (.slice S' n' c') (.slice D' m' d') (kL k ss) (kL k ds) ∧ Below w.heap.size w w'
theorem buP_no {w w' : World} {k : Int} {ss ds : List Int} {ch : Int} (hk : k ≠ 0) (hb : Below w.heap.size w w') : buP w w' (.returned (.tuple #[.agg #[.slice none 0 0, .slice none 0 0, .int .i64 0], .int .i64 k])) k ss ds ch := by
  refine ⟨none, 0, 0, none, 0, 0, ?_, ?_, hb⟩
  · rw [show kI k ch = 0 from if_neg hk]
  · rw [show kL k ss = [] from if_neg hk, show kL k ds = [] from if_neg hk]
    exact OwC.nil hb.size
theorem okC_bury {ss ds ms : List Int} {ch : Int} (h : okC ss ds ch = true) (hm : ms.all (inR 0 ((ss.length : Int) - 1)) = true) : okC ss (srt (ds ++ ms)) ch = incB (srt (ds ++ ms)) := by
  have h1 := okC_iff.1 h
  rw [Bool.eq_iff_iff, okC_iff]
  refine ⟨fun e => e.2.2.2.2, fun e => ⟨h1.1, h1.2.1, ?_, h1.2.2.2.1, e⟩⟩
  rw [srt_all, List.all_append, h1.2.2.1, hm]
  rfl
end Go.Proofs.YtmhbkabdiciakaaDoor
