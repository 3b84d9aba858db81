/-
  The statement of FnExactReadClass, proved, as its tied card: called with any string it returns true, and the argument reads afterwards as it read before. Condition: the listed variables of the library hold what the program's text lays (the card ties that).
-/
import Derived.Test.YtmhbkabdiciakaaDoorCards
import Derived.Test.YtmhbkabdiciakaaDoorTie
import Derived.Test.YtmhbkabdiciakaaDoorDL1
import Derived.Test.YtmhbkabdiciakaaDoorFD
import Derived.SevenTiedAt
set_option linter.unusedSimpArgs false
set_option linter.unusedVariables false
namespace Go.Proofs.YtmhbkabdiciakaaDoor
open Go Go.ChangeShapes Go.WideShapes Go.ChangeAt Go.RowKit Go.Deep
open Go.ChangeMaps (open_string shut_string)
theorem powIs : (Rows.laid_internal_strconv_uint64pow10 : DataW Unit) = Lib.tabData .u64 Lib.pow10Tab := by kernel_rfl
theorem noHandle : (Rows.fnExactReadClassRow.laid.all fun x => x.2.handleName?.isNone) = true := by kernel_rfl
theorem lb_row {W : World} (h : laidMetH Tryd.prog Rows.fnExactReadClassRow.laid W) (hsh : W.ShapedOpen Tryd.prog) : Lb W := by
  rw [MakeChecks.laidMetH_plain _ _ _ noHandle] at h
  unfold Rows.fnExactReadClassRow at h
  rw [powIs] at h
  exact lb_of_laid h hsh
theorem laid_met (os : Os) : laidMetH Tryd.prog Rows.fnExactReadClassRow.laid ((World.laidAll Tryd.prog os Rows.fnExactReadClassRow.laid).forCall (fun _ _ => 0) ⟨#[], #[.string .empty], []⟩).memory := by
  rw [MakeChecks.laidMetH_plain _ _ _ noHandle]
  exact laidMet_laidAll _ (by kernel_rfl) (by kernel_rfl)
theorem reads (os : Os) {H : Type} (enc : TypeId × Value → H) : ∃ places, DataW.whole enc Tryd.prog ((World.laidAll Tryd.prog os Rows.fnExactReadClassRow.laid).forCall (fun _ _ => 0) ⟨#[], #[.string .empty], []⟩).memory Tryd.f3.params.toList Rows.fnExactReadClassSpec.vars false #[Value.string .empty].toList 8 = some ([.lit (.string [])], [], places) :=
  ⟨[], by kernel_rfl⟩
set_option maxRecDepth 100000 in
theorem witness (os : Os) (H : Type) (enc : TypeId × Value → H) : ∃ (w : World) (tape : Tape) (i : Input), w.os = os ∧ (w.forCall tape i).Shaped Tryd.prog ∧ i.vars = [] ∧ Input.okWide Tryd.prog (w.forCall tape i) .any w.heap.size 3 i ∧
      (OpenSpec.ofChange Rows.fnExactReadClassSpec).preRow enc Tryd.prog Tryd.f3 [] false Rows.fnExactReadClassRow.laid (w.forCall tape i).memory i.args ∧ ({} : Assume).holds Tryd.prog (lone (Frame.enter Tryd.prog 3 i.args .normal) [] (w.forCall tape i)) := by
  obtain ⟨places, hx⟩ := reads os enc
  refine ⟨World.laidAll Tryd.prog os Rows.fnExactReadClassRow.laid, fun _ _ => 0, ⟨#[], #[.string .empty], []⟩, World.laidAll_os _ _ _, World.shaped_of_ZipB (by kernel_rfl) (by kernel_rfl), rfl, (Input.okWide_of_okWideB (by kernel_rfl)).2, OpenSpec.preRow_of_cond 8 hx (by kernel_rfl) (fun k hk => by cases hk) (by kernel_rfl) (laid_met os), ?_⟩
  simp only [Assume.holds]
  exact ⟨by simp, by simp, fun _ => Modest.zero, by simp, by simp⟩
set_option maxRecDepth 100000 in
theorem lifted (os : Os) (started : os.Started) (H : Type) (enc : TypeId × Value → H) (F : Stop.Interp) :
    ReturnsInHanded {} Tryd.checked os 3 .any ((OpenSpec.ofChange Rows.fnExactReadClassSpec).preRow enc Tryd.prog Tryd.f3 Rows.fnExactReadClassRow.domain false Rows.fnExactReadClassRow.laid) (((OpenSpec.ofChange Rows.fnExactReadClassSpec).at F).post enc Tryd.prog Tryd.f3 false true false false) :=
  door_ret (C := Tryd.checked) (fn := Tryd.f3) (s := Rows.fnExactReadClassSpec) F own laidOut started (by kernel_rfl) Tryd.func3 (witness os H enc)
    rfl (fun ds h => by match ds, h with | [d0], _ => rfl) rfl Tryd.underlying4 (by
      intro t ht
      rw [Tryd.params3] at ht
      simp only [List.mem_cons, List.not_mem_nil, or_false] at ht
      rcases ht with rfl
      all_goals exact ⟨by kernel_rfl, of_decide_eq_true (by kernel_rfl)⟩)
    (fun W base args ds p hval hA hL hsh => by
      rw [Tryd.params3] at hA hval
      obtain ⟨v0, vs0, d0, ds0, p0, q0, hargs, rfl, rfl, h0, r0⟩ := trodAll_cons hA
      obtain ⟨rfl, rfl, rfl⟩ := trodAll_nil r0
      obtain rfl : args = #[v0] := by cases args; simp_all
      obtain ⟨s, rfl, rfl, rfl, hs⟩ := open_string Tryd.underlying9 (hval 0 _ _ rfl rfl) h0
      exact fnExactReadClass_walk s W hs (lb_row hL hsh))
theorem fnExactReadClass_said : Rows.FnExactReadClassSaid :=
  OpenClaim.holds_of_cond 3 Tryd.f3 rfl rfl rfl rfl rfl rfl rfl ⟨rfl, rfl, rfl, rfl, rfl⟩ rfl rfl rfl rfl rfl (by kernel_rfl) Tryd.func3 (by kernel_rfl)
    (of_decide_eq_true (by kernel_rfl)) (by unfold Func.isWrapper; first | (rw [if_pos (by decide +kernel)]; kernel_rfl) | (rw [if_neg (by decide +kernel)]; exact ⟨rfl, rfl⟩))
    (fun os started H enc _ F => by rw [OpenClaim.pre_eq_preRow]; exact lifted os started H enc F)
theorem plain_ (f : FuncId) (fn : Func) (hf : Tryd.pinned.checked.prog.funcNamed "loop.example/g01025/laws.FnExactReadClass" = some f) (hfn : Tryd.pinned.checked.prog.funcs[f]? = some fn) :
    true = Tryd.pinned.checked.prog.looks [] ∧ ∀ (j : Nat) t, fn.params[j]? = some t → Tryd.pinned.checked.prog.wantsStandIn t = false := by
  obtain rfl : f = 3 := Option.some.inj ((show Tryd.prog.funcNamed "loop.example/g01025/laws.FnExactReadClass" = some 3 by kernel_rfl).symm.trans hf) |>.symm
  obtain rfl : fn = Tryd.f3 := (Option.some.inj (Tryd.func3.symm.trans hfn)).symm
  refine ⟨by kernel_rfl, fun j t ht => ?_⟩
  rw [Tryd.params3] at ht
  obtain rfl : t = 9 := by simpa using Array.mem_of_getElem? ht
  exact (show Tryd.prog.wantsStandIn 9 = false by kernel_rfl)
theorem fnExactReadClass_card : Rows.FnExactReadClassCardSaid :=
  Claim7.holds_tied_plain_at .later [] _ _ _ _ fnExactReadClass_said (fun _ h => by cases h) (by kernel_rfl) (fun _ h => by cases h) fnExactReadClass_row_tie rfl ⟨rfl, rfl⟩ (by kernel_rfl) rfl plain_ (by kernel_rfl)
#print axioms fnExactReadClass_card
end Go.Proofs.YtmhbkabdiciakaaDoor
