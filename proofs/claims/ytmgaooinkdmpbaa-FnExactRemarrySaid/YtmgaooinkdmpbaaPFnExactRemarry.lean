/-
  The statement of FnExactRemarry, proved: called with any arguments it returns true, and each argument reads afterwards as it read before. No condition.
-/
import Derived.Test.YtmgaooinkdmpbaaS4
import Derived.Test.YtmgaooinkdmpbaaF
namespace Go.Proofs.Ytmgaooinkdmpbaa
open Go.ChangeShapes Go.WideShapes Go.ChangeAt Go.RowKit Go.Deep
set_option maxRecDepth 100000 in
theorem fnExactRemarry_lifted (os : Os) (started : os.Started) (H : Type) (enc : TypeId × Value → H) :
    ReturnsInHanded {} Try.checked os 3 .any (Rows.fnExactRemarrySpec.pre6 enc Try.prog Try.f3 Rows.fnExactRemarryRow.domain false) (Rows.fnExactRemarrySpec.post enc Try.prog Try.f3 false true false false) :=
  law_ret (C := Try.checked) (fn := Try.f3) (s := Rows.fnExactRemarrySpec) own laidOut started (by kernel_rfl) Try.func3
    (ChangeSpec.witness6 (enc := enc) (C := Try.checked) false ⟨#[], #[.agg #[.int .i64 0, .int .i64 0, .int .i64 0, .int .i64 0, .slice none 0 0], .int .i64 0], []⟩ 8 (by kernel_rfl) (by kernel_rfl) (by kernel_rfl) (by kernel_rfl))
    rfl (fun ds h => by match ds, h with | [d0, d1], _ => rfl) rfl Try.underlying4 (by
      intro t ht
      rw [Try.params3] at ht
      simp only [List.mem_cons, List.not_mem_nil, or_false] at ht
      rcases ht with rfl | rfl
      all_goals exact ⟨by kernel_rfl, of_decide_eq_true (by kernel_rfl)⟩)
    (fun W base args ds p hval hA => by
      rw [Try.params3] at hA hval
      obtain ⟨v0, vs0, d0, ds0, p0, q0, hargs, rfl, rfl, h0, r0⟩ := trodAll_cons hA
      obtain ⟨v1, vs1, d1, ds1, p1, q1, rfl, rfl, rfl, h1, r1⟩ := trodAll_cons r0
      obtain ⟨rfl, rfl, rfl⟩ := trodAll_nil r1
      obtain rfl : args = #[v0, v1] := by cases args; simp_all
      obtain ⟨d, m, wd, lf, A, n, c, xs, rfl, hR, hc, hm⟩ := open_family (hval 0 _ _ rfl rfl) h0
      obtain ⟨x, rfl, _, _, _⟩ := open_int Try.underlying2 (hval 1 _ _ rfl rfl) h1
      exact fnExactRemarry_walk d m wd lf A n c xs x W hR hc hm)
theorem fnExactRemarry_holds : Rows.FnExactRemarrySaid :=
  OpenClaim.holds_of_wide (p := Try.pinned) (s := Rows.fnExactRemarrySpec) (c := Rows.fnExactRemarryRow) 3 Try.f3 rfl rfl rfl rfl rfl rfl rfl ⟨rfl, rfl, rfl, rfl, rfl⟩ rfl rfl rfl rfl rfl (by kernel_rfl) Try.func3 (by kernel_rfl)
    (of_decide_eq_true (by kernel_rfl)) (by unfold Func.isWrapper; first | (rw [if_pos (by decide +kernel)]; kernel_rfl) | (rw [if_neg (by decide +kernel)]; exact ⟨rfl, rfl⟩))
    (fun os started H enc _ => fnExactRemarry_lifted os started H enc)
#print axioms fnExactRemarry_holds
end Go.Proofs.Ytmgaooinkdmpbaa
