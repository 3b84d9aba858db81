/-
  The statement of FnExactAddSpell, proved: called with any arguments it returns true, and each argument reads afterwards as it read before. No condition.
-/
import Derived.Test.YtldemcdocpdkfaaR5
import Derived.Test.YtldemcdocpdkfaaF
namespace Go.Proofs.Ytldemcdocpdkfaa
open Go.ChangeShapes Go.WideShapes Go.ChangeAt Go.RowKit Go.Deep
set_option maxRecDepth 100000 in
theorem fnExactAddSpell_lifted (os : Os) (started : os.Started) (H : Type) (enc : TypeId × Value → H) :
    ReturnsInHanded {} Try.checked os 11 .any (Rows.fnExactAddSpellSpec.pre6 enc Try.prog Try.f11 Rows.fnExactAddSpellRow.domain false) (Rows.fnExactAddSpellSpec.post enc Try.prog Try.f11 false true false false) :=
  law_ret (C := Try.checked) (fn := Try.f11) (s := Rows.fnExactAddSpellSpec) own laidOut started (by kernel_rfl) Try.func11
    (ChangeSpec.witness6 (enc := enc) (C := Try.checked) false ⟨#[], #[.slice none 0 0, .agg #[.int .i64 0, .int .i64 0]], []⟩ 8 (by kernel_rfl) (by kernel_rfl) (by kernel_rfl) (by kernel_rfl))
    rfl (fun ds h => by match ds, h with | [d0, d1], _ => rfl) rfl Try.underlying4 (by
      intro t ht
      rw [Try.params11] at ht
      simp only [List.mem_cons, List.not_mem_nil, or_false] at ht
      rcases ht with rfl | rfl
      all_goals exact ⟨by kernel_rfl, of_decide_eq_true (by kernel_rfl)⟩)
    (fun W base args ds p hval hA => by
      rw [Try.params11] at hA hval
      obtain ⟨v0, vs0, d0, ds0, p0, q0, hargs, rfl, rfl, h0, r0⟩ := trodAll_cons hA
      obtain ⟨v1, vs1, d1, ds1, p1, q1, rfl, rfl, rfl, h1, r1⟩ := trodAll_cons r0
      obtain ⟨rfl, rfl, rfl⟩ := trodAll_nil r1
      obtain rfl : args = #[v0, v1] := by cases args; simp_all
      obtain ⟨A, n, c, xs, rfl, hR, hmx⟩ := open_spells (hval 0 _ _ rfl rfl) h0
      obtain ⟨a, b, rfl⟩ := open_spell (hval 1 _ _ rfl rfl) h1
      exact fnExactAddSpell_walk A n c xs a b W hR hmx)
theorem fnExactAddSpell_holds : Rows.FnExactAddSpellSaid :=
  OpenClaim.holds_of_wide (p := Try.pinned) (s := Rows.fnExactAddSpellSpec) (c := Rows.fnExactAddSpellRow) 11 Try.f11 rfl rfl rfl rfl rfl rfl rfl ⟨rfl, rfl, rfl, rfl, rfl⟩ rfl rfl rfl rfl rfl (by kernel_rfl) Try.func11 (by kernel_rfl)
    (of_decide_eq_true (by kernel_rfl)) (by unfold Func.isWrapper; first | (rw [if_pos (by decide +kernel)]; kernel_rfl) | (rw [if_neg (by decide +kernel)]; exact ⟨rfl, rfl⟩))
    (fun os started H enc _ => fnExactAddSpell_lifted os started H enc)
#print axioms fnExactAddSpell_holds
end Go.Proofs.Ytldemcdocpdkfaa
