/-
  The statement of FnTontines, proved: called with any arguments it returns true, and each argument reads afterwards as it read before. No condition.
-/
import Derived.Test.YtmhbkabdiciakaaY2
import Derived.Test.YtmhbkabdiciakaaF
namespace Go.Proofs.Ytmhbkabdiciakaa
open Go.ChangeShapes Go.WideShapes Go.ChangeAt Go.RowKit Go.Deep
set_option maxRecDepth 100000 in
theorem fnTontines_lifted (os : Os) (started : os.Started) (H : Type) (enc : TypeId × Value → H) :
    ReturnsInHanded {} Try.checked os 3 .any (Rows.fnTontinesSpec.pre6 enc Try.prog Try.f3 Rows.fnTontinesRow.domain false) (Rows.fnTontinesSpec.post enc Try.prog Try.f3 false true false false) :=
  law_ret (C := Try.checked) (fn := Try.f3) (s := Rows.fnTontinesSpec) own laidOut started (by kernel_rfl) Try.func3
    (ChangeSpec.witness6 (enc := enc) (C := Try.checked) false ⟨#[], #[.slice none 0 0], []⟩ 8 (by kernel_rfl) (by kernel_rfl) (by kernel_rfl) (by kernel_rfl))
    rfl (fun ds h => by match ds, h with | [d0], _ => rfl) rfl Try.underlying4 (by
      intro t ht
      rw [Try.params3] at ht
      simp only [List.mem_cons, List.not_mem_nil, or_false] at ht
      rcases ht with rfl
      all_goals exact ⟨by kernel_rfl, of_decide_eq_true (by kernel_rfl)⟩)
    (fun W base args ds p hval hA => by
      rw [Try.params3] at hA hval
      obtain ⟨v0, vs0, d0, ds0, p0, q0, hargs, rfl, rfl, h0, r0⟩ := trodAll_cons hA
      obtain ⟨rfl, rfl, rfl⟩ := trodAll_nil r0
      obtain rfl : args = #[v0] := by cases args; simp_all
      obtain ⟨A, n, c, bs, rfl, hR, hby, hmx⟩ := open_bytes (hval 0 _ _ rfl rfl) h0
      exact fnTontines_walk A n c bs W hR hby hmx)
theorem fnTontines_holds : Rows.FnTontinesSaid :=
  OpenClaim.holds_of_wide (p := Try.pinned) (s := Rows.fnTontinesSpec) (c := Rows.fnTontinesRow) 3 Try.f3 rfl rfl rfl rfl rfl rfl rfl ⟨rfl, rfl, rfl, rfl, rfl⟩ rfl rfl rfl rfl rfl (by kernel_rfl) Try.func3 (by kernel_rfl)
    (of_decide_eq_true (by kernel_rfl)) (by unfold Func.isWrapper; first | (rw [if_pos (by decide +kernel)]; kernel_rfl) | (rw [if_neg (by decide +kernel)]; exact ⟨rfl, rfl⟩))
    (fun os started H enc _ => fnTontines_lifted os started H enc)
#print axioms fnTontines_holds
end Go.Proofs.Ytmhbkabdiciakaa
