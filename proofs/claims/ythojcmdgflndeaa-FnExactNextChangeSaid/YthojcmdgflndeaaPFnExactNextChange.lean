/-
  The statement of FnExactNextChange, proved: called with any arguments it returns true, and each argument reads afterwards as it read before. No condition.
-/
import Derived.Test.YthojcmdgflndeaaQ4
import Derived.Test.YthojcmdgflndeaaF
namespace Go.Proofs.Ythojcmdgflndeaa
open Go.ChangeShapes Go.WideShapes Go.ChangeAt Go.RowKit Go.Deep
set_option maxRecDepth 100000 in
theorem fnExactNextChange_lifted (os : Os) (started : os.Started) (H : Type) (enc : TypeId × Value → H) :
    ReturnsInHanded {} Try.checked os 7 .any (Rows.fnExactNextChangeSpec.pre6 enc Try.prog Try.f7 Rows.fnExactNextChangeRow.domain false) (Rows.fnExactNextChangeSpec.post enc Try.prog Try.f7 false true false false) :=
  law_ret (C := Try.checked) (fn := Try.f7) (s := Rows.fnExactNextChangeSpec) own laidOut started (by kernel_rfl) Try.func7
    (ChangeSpec.witness6 (enc := enc) (C := Try.checked) false ⟨#[], #[.agg #[.int .i64 0, .int .i64 0, .int .i64 0, .int .i64 0, .slice none 0 0], .int .i64 0], []⟩ 8 (by kernel_rfl) (by kernel_rfl) (by kernel_rfl) (by kernel_rfl))
    rfl (fun ds h => by match ds, h with | [d0, d1], _ => rfl) rfl Try.underlying4 (by
      intro t ht
      rw [Try.params7] at ht
      simp only [List.mem_cons, List.not_mem_nil, or_false] at ht
      rcases ht with rfl | rfl
      all_goals exact ⟨by kernel_rfl, of_decide_eq_true (by kernel_rfl)⟩)
    (fun W base args ds p hval hA => by
      rw [Try.params7] at hA hval
      obtain ⟨v0, vs0, d0, ds0, p0, q0, hargs, rfl, rfl, h0, r0⟩ := trodAll_cons hA
      obtain ⟨v1, vs1, d1, ds1, p1, q1, rfl, rfl, rfl, h1, r1⟩ := trodAll_cons r0
      obtain ⟨rfl, rfl, rfl⟩ := trodAll_nil r1
      obtain rfl : args = #[v0, v1] := by cases args; simp_all
      obtain ⟨d, m, wd, lf, A, n, c, xs, rfl, hR, hc, hm⟩ := open_family (hval 0 _ _ rfl rfl) h0
      obtain ⟨x, rfl, _, _, _⟩ := open_int Try.underlying2 (hval 1 _ _ rfl rfl) h1
      exact fnExactNextChange_walk d m wd lf A n c xs x W hR hc hm)
theorem fnExactNextChange_holds : Rows.FnExactNextChangeSaid :=
  OpenClaim.holds_of_wide (p := Try.pinned) (s := Rows.fnExactNextChangeSpec) (c := Rows.fnExactNextChangeRow) 7 Try.f7 rfl rfl rfl rfl rfl rfl rfl ⟨rfl, rfl, rfl, rfl, rfl⟩ rfl rfl rfl rfl rfl (by kernel_rfl) Try.func7 (by kernel_rfl)
    (of_decide_eq_true (by kernel_rfl)) (by unfold Func.isWrapper; first | (rw [if_pos (by decide +kernel)]; kernel_rfl) | (rw [if_neg (by decide +kernel)]; exact ⟨rfl, rfl⟩))
    (fun os started H enc _ => fnExactNextChange_lifted os started H enc)
#print axioms fnExactNextChange_holds
end Go.Proofs.Ythojcmdgflndeaa
