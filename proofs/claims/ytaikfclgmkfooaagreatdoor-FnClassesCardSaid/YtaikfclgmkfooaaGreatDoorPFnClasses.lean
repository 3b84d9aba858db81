/-
  The statement of FnClasses, proved, as its tied card: called with any bytes it returns true, and the argument reads afterwards as it read before. Condition: the listed variables of the library hold what the program's text lays (the card ties that).
-/
import Derived.Test.YtaikfclgmkfooaaGreatDoorCards
import Derived.Test.YtaikfclgmkfooaaGreatDoorTie
import Derived.Test.YtaikfclgmkfooaaGreatDoorCL8
import Derived.Test.YtaikfclgmkfooaaGreatDoor04
import Derived.Test.YtaikfclgmkfooaaGreatDoorFD
import Derived.SevenTiedAt
set_option linter.unusedSimpArgs false
set_option linter.unusedVariables false
namespace Go.Proofs.YtaikfclgmkfooaaGreatDoor
open Go Go.ChangeShapes Go.WideShapes Go.ChangeAt Go.RowKit Go.Deep
theorem powIs : (Rows.laid_internal_strconv_uint64pow10 : DataW Unit) = Lib.tabData .u64 Lib.pow10Tab := by kernel_rfl
theorem noHandle : (Rows.fnClassesRow.laid.all fun x => x.2.handleName?.isNone) = true := by kernel_rfl
theorem lb_row {W : World} (h : laidMetH Tryz.prog Rows.fnClassesRow.laid W) (hsh : W.ShapedOpen Tryz.prog) : Lb W := by
  rw [MakeChecks.laidMetH_plain _ _ _ noHandle] at h
  unfold Rows.fnClassesRow at h
  rw [powIs] at h
  exact lb_of_laid h hsh
theorem laid_met (os : Os) : laidMetH Tryz.prog Rows.fnClassesRow.laid ((World.laidAll Tryz.prog os Rows.fnClassesRow.laid).forCall (fun _ _ => 0) ⟨#[], #[.slice none 0 0], []⟩).memory := by
  rw [MakeChecks.laidMetH_plain _ _ _ noHandle]
  exact laidMet_laidAll _ (by kernel_rfl) (by kernel_rfl)
theorem reads (os : Os) {H : Type} (enc : TypeId × Value → H) : ∃ places, DataW.whole enc Tryz.prog ((World.laidAll Tryz.prog os Rows.fnClassesRow.laid).forCall (fun _ _ => 0) ⟨#[], #[.slice none 0 0], []⟩).memory Tryz.f3.params.toList Rows.fnClassesSpec.vars false #[Value.slice none 0 0].toList 8 = some ([.nil], [], places) :=
  ⟨[], by kernel_rfl⟩
set_option maxRecDepth 100000 in
theorem witness (os : Os) (H : Type) (enc : TypeId × Value → H) : ∃ (w : World) (tape : Tape) (i : Input), w.os = os ∧ (w.forCall tape i).Shaped Tryz.prog ∧ i.vars = [] ∧ Input.okWide Tryz.prog (w.forCall tape i) .any w.heap.size 3 i ∧
      (OpenSpec.ofChange Rows.fnClassesSpec).preRow enc Tryz.prog Tryz.f3 [] false Rows.fnClassesRow.laid (w.forCall tape i).memory i.args ∧ ({} : Assume).holds Tryz.prog (lone (Frame.enter Tryz.prog 3 i.args .normal) [] (w.forCall tape i)) := by
  obtain ⟨places, hx⟩ := reads os enc
  refine ⟨World.laidAll Tryz.prog os Rows.fnClassesRow.laid, fun _ _ => 0, ⟨#[], #[.slice none 0 0], []⟩, World.laidAll_os _ _ _, World.shaped_of_ZipB (by kernel_rfl) (by kernel_rfl), rfl, (Input.okWide_of_okWideB (by kernel_rfl)).2, OpenSpec.preRow_of_cond 8 hx (by kernel_rfl) (fun k hk => by cases hk) (by kernel_rfl) (laid_met os), ?_⟩
  simp only [Assume.holds]
  exact ⟨by simp, by simp, fun _ => Modest.zero, by simp, by simp⟩
set_option maxRecDepth 100000 in
theorem lifted (os : Os) (started : os.Started) (H : Type) (enc : TypeId × Value → H) (F : Stop.Interp) :
    ReturnsInHanded {} Tryz.checked os 3 .any ((OpenSpec.ofChange Rows.fnClassesSpec).preRow enc Tryz.prog Tryz.f3 Rows.fnClassesRow.domain false Rows.fnClassesRow.laid) (((OpenSpec.ofChange Rows.fnClassesSpec).at F).post enc Tryz.prog Tryz.f3 false true false false) :=
  door_ret (C := Tryz.checked) (fn := Tryz.f3) (s := Rows.fnClassesSpec) F own laidOut started (by kernel_rfl) Tryz.func3 (witness os H enc)
    rfl (fun ds h => by match ds, h with | [d0], _ => rfl) rfl Tryz.underlying4 (by
      intro t ht
      rw [Tryz.params3] at ht
      simp only [List.mem_cons, List.not_mem_nil, or_false] at ht
      rcases ht with rfl
      all_goals exact ⟨by kernel_rfl, of_decide_eq_true (by kernel_rfl)⟩)
    (fun W base args ds p hval hA hL hsh => by
      rw [Tryz.params3] at hA hval
      obtain ⟨v0, vs0, d0, ds0, p0, q0, hargs, rfl, rfl, h0, r0⟩ := trodAll_cons hA
      obtain ⟨rfl, rfl, rfl⟩ := trodAll_nil r0
      obtain rfl : args = #[v0] := by cases args; simp_all
      obtain ⟨A, n, c, bs, rfl, hR, hby, hmx⟩ := open_bytes (hval 0 _ _ rfl rfl) h0
      exact fnClasses_walk A n c bs W hR hby hmx (lb_row hL hsh))
theorem fnClasses_said : Rows.FnClassesSaid :=
  OpenClaim.holds_of_cond 3 Tryz.f3 rfl rfl rfl rfl rfl rfl rfl ⟨rfl, rfl, rfl, rfl, rfl⟩ rfl rfl rfl rfl rfl (by kernel_rfl) Tryz.func3 (by kernel_rfl)
    (of_decide_eq_true (by kernel_rfl)) (by unfold Func.isWrapper; first | (rw [if_pos (by decide +kernel)]; kernel_rfl) | (rw [if_neg (by decide +kernel)]; exact ⟨rfl, rfl⟩))
    (fun os started H enc _ F => by rw [OpenClaim.pre_eq_preRow]; exact lifted os started H enc F)
theorem plain_ (f : FuncId) (fn : Func) (hf : Tryz.pinned.checked.prog.funcNamed "loop.example/g01025/laws.FnClasses" = some f) (hfn : Tryz.pinned.checked.prog.funcs[f]? = some fn) :
    true = Tryz.pinned.checked.prog.looks [] ∧ ∀ (j : Nat) t, fn.params[j]? = some t → Tryz.pinned.checked.prog.wantsStandIn t = false := by
  obtain rfl : f = 3 := Option.some.inj ((show Tryz.prog.funcNamed "loop.example/g01025/laws.FnClasses" = some 3 by kernel_rfl).symm.trans hf) |>.symm
  obtain rfl : fn = Tryz.f3 := (Option.some.inj (Tryz.func3.symm.trans hfn)).symm
  refine ⟨by kernel_rfl, fun j t ht => ?_⟩
  rw [Tryz.params3] at ht
  obtain rfl : t = 22 := by simpa using Array.mem_of_getElem? ht
  exact (show Tryz.prog.wantsStandIn 22 = false by kernel_rfl)
theorem fnClasses_card : Rows.FnClassesCardSaid :=
  Claim7.holds_tied_plain_at .later [] _ _ _ _ fnClasses_said (fun _ h => by cases h) (by kernel_rfl) (fun _ h => by cases h) fnClasses_row_tie rfl ⟨rfl, rfl⟩ (by kernel_rfl) rfl plain_ (by kernel_rfl)
#print axioms fnClasses_card
end Go.Proofs.YtaikfclgmkfooaaGreatDoor
