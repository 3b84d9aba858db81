/-
  The statement of FnMadeTables, proved: called with any arguments it returns true, and each argument reads afterwards as it read before. No condition.
-/
import Derived.Test.YtmefjjamkebinaaZ3
import Derived.Test.YtmefjjamkebinaaF
namespace Go.Proofs.Ytmefjjamkebinaa
open Go.ChangeShapes Go.WideShapes Go.ChangeAt Go.RowKit Go.Deep
set_option maxRecDepth 100000 in
theorem fnMadeTables_lifted (os : Os) (started : os.Started) (H : Type) (enc : TypeId × Value → H) :
    ReturnsInHanded {} Try.checked os 4 .any (Rows.fnMadeTablesSpec.pre6 enc Try.prog Try.f4 Rows.fnMadeTablesRow.domain false) (Rows.fnMadeTablesSpec.post enc Try.prog Try.f4 false true false false) :=
  law_ret (C := Try.checked) (fn := Try.f4) (s := Rows.fnMadeTablesSpec) own laidOut started (by kernel_rfl) Try.func4
    (ChangeSpec.witness6 (enc := enc) (C := Try.checked) false ⟨#[], #[.slice none 0 0], []⟩ 8 (by kernel_rfl) (by kernel_rfl) (by kernel_rfl) (by kernel_rfl))
    rfl (fun ds h => by match ds, h with | [d0], _ => rfl) rfl Try.underlying4 (by
      intro t ht
      rw [Try.params4] at ht
      simp only [List.mem_cons, List.not_mem_nil, or_false] at ht
      rcases ht with rfl
      all_goals exact ⟨by kernel_rfl, of_decide_eq_true (by kernel_rfl)⟩)
    (fun W base args ds p hval hA => by
      rw [Try.params4] at hA hval
      obtain ⟨v0, vs0, d0, ds0, p0, q0, hargs, rfl, rfl, h0, r0⟩ := trodAll_cons hA
      obtain ⟨rfl, rfl, rfl⟩ := trodAll_nil r0
      obtain rfl : args = #[v0] := by cases args; simp_all
      obtain ⟨A, n, c, bs, rfl, hR, hby, hmx⟩ := open_bytes (hval 0 _ _ rfl rfl) h0
      exact fnMadeTables_walk A n c bs W hR hby hmx)
theorem fnMadeTables_holds : Rows.FnMadeTablesSaid :=
  OpenClaim.holds_of_wide (p := Try.pinned) (s := Rows.fnMadeTablesSpec) (c := Rows.fnMadeTablesRow) 4 Try.f4 rfl rfl rfl rfl rfl rfl rfl ⟨rfl, rfl, rfl, rfl, rfl⟩ rfl rfl rfl rfl rfl (by kernel_rfl) Try.func4 (by kernel_rfl)
    (of_decide_eq_true (by kernel_rfl)) (by unfold Func.isWrapper; first | (rw [if_pos (by decide +kernel)]; kernel_rfl) | (rw [if_neg (by decide +kernel)]; exact ⟨rfl, rfl⟩))
    (fun os started H enc _ => fnMadeTables_lifted os started H enc)
#print axioms fnMadeTables_holds
end Go.Proofs.Ytmefjjamkebinaa
