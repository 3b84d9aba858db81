/-
  The statement of FnExactRunClass, proved: called with any arguments it returns true, and each argument reads afterwards as it read before. No condition.
-/
import Derived.Test.YtmhbkabdiciakaaV1
import Derived.Test.YtmhbkabdiciakaaF
namespace Go.Proofs.Ytmhbkabdiciakaa
open Go.ChangeShapes Go.WideShapes Go.ChangeAt Go.RowKit Go.Deep
set_option maxRecDepth 100000 in
theorem fnExactRunClass_lifted (os : Os) (started : os.Started) (H : Type) (enc : TypeId × Value → H) :
    ReturnsInHanded {} Try.checked os 5 .any (Rows.fnExactRunClassSpec.pre6 enc Try.prog Try.f5 Rows.fnExactRunClassRow.domain false) (Rows.fnExactRunClassSpec.post enc Try.prog Try.f5 false true false false) :=
  law_ret (C := Try.checked) (fn := Try.f5) (s := Rows.fnExactRunClassSpec) own laidOut started (by kernel_rfl) Try.func5
    (ChangeSpec.witness6 (enc := enc) (C := Try.checked) false ⟨#[], #[.agg #[.slice none 0 0, .slice none 0 0, .int .i64 0], .slice none 0 0, .slice none 0 0], []⟩ 8 (by kernel_rfl) (by kernel_rfl) (by kernel_rfl) (by kernel_rfl))
    rfl (fun ds h => by match ds, h with | [d0, d1, d2], _ => rfl) rfl Try.underlying4 (by
      intro t ht
      rw [Try.params5] at ht
      simp only [List.mem_cons, List.not_mem_nil, or_false] at ht
      rcases ht with rfl | rfl | rfl
      all_goals exact ⟨by kernel_rfl, of_decide_eq_true (by kernel_rfl)⟩)
    (fun W base args ds p hval hA => by
      rw [Try.params5] at hA hval
      obtain ⟨v0, vs0, d0, ds0, p0, q0, hargs, rfl, rfl, h0, r0⟩ := trodAll_cons hA
      obtain ⟨v1, vs1, d1, ds1, p1, q1, rfl, rfl, rfl, h1, r1⟩ := trodAll_cons r0
      obtain ⟨v2, vs2, d2, ds2, p2, q2, rfl, rfl, rfl, h2, r2⟩ := trodAll_cons r1
      obtain ⟨rfl, rfl, rfl⟩ := trodAll_nil r2
      obtain rfl : args = #[v0, v1, v2] := by cases args; simp_all
      obtain ⟨S, n, c, ss, D, m, d, ds, ch, rfl, hS, hD, hn, hc, hm, hd⟩ := open_class (hval 0 _ _ rfl rfl) h0
      obtain ⟨I, ni, ic, is, rfl, hI, hni, hic⟩ := open_ints (hval 1 _ _ rfl rfl) h1
      obtain ⟨E, ne, ec, es, ll, rfl, hE, hne, hec, hll⟩ := open_intss (hval 2 _ _ rfl rfl) h2
      exact fnExactRunClass_walk S n c ss D m d ds ch I ni ic is E ne ec es ll W hS hD hI hE (Nat.le_trans hn hc) (Nat.le_trans hm hd) (Nat.le_trans hni hic) (Nat.le_trans hne hec) hll)
theorem fnExactRunClass_holds : Rows.FnExactRunClassSaid :=
  OpenClaim.holds_of_wide (p := Try.pinned) (s := Rows.fnExactRunClassSpec) (c := Rows.fnExactRunClassRow) 5 Try.f5 rfl rfl rfl rfl rfl rfl rfl ⟨rfl, rfl, rfl, rfl, rfl⟩ rfl rfl rfl rfl rfl (by kernel_rfl) Try.func5 (by kernel_rfl)
    (of_decide_eq_true (by kernel_rfl)) (by unfold Func.isWrapper; first | (rw [if_pos (by decide +kernel)]; kernel_rfl) | (rw [if_neg (by decide +kernel)]; exact ⟨rfl, rfl⟩))
    (fun os started H enc _ => fnExactRunClass_lifted os started H enc)
#print axioms fnExactRunClass_holds
end Go.Proofs.Ytmhbkabdiciakaa
