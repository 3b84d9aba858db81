/-
  How an argument that is a list of lists of numbers is opened.
-/
import Derived.Test.YtmhbkabdiciakaaM2
import Derived.Test.YtmhbkabdiciakaaG1
set_option linter.unusedSimpArgs false
set_option linter.unusedVariables false
namespace Go.Proofs.Ytmhbkabdiciakaa
open Go.ChangeShapes Go.WideShapes Go.ChangeAt Go.RowKit Go.Deep
theorem pick_lists {α : Type} {R : α → List Int → Prop} : ∀ (es : List α), (∀ e ∈ es, ∃ l, R e l) → ∃ ll : List (List Int), ll.length = es.length ∧ ∀ (i : Nat) e l, es[i]? = some e → ll[i]? = some l → R e l
  | [], _ => ⟨[], rfl, fun i e l h => by simp at h⟩
  | a :: t, h => by
    obtain ⟨l, hl⟩ := h a (by simp)
    obtain ⟨ll, h1, h2⟩ := pick_lists t (fun e he => h e (by simp [he]))
    refine ⟨l :: ll, by simp [h1], fun i e l' he hl' => ?_⟩
    cases i with
    | zero => simp at he hl'; subst he; subst hl'; exact hl
    | succ i => simp at he hl'; exact h2 i e l' he hl'
theorem open_rdN {H : Type} {enc : TypeId × Value → H} {P : Program} {w : World} {t e : TypeId} {fuel : Nat} {cs : List Value} {x : DataW H × List MemPlace} (ht : P.underlying t = some (.slice e)) (h : DataW.trod enc P w 0 (fun _ => true) true fuel t cs = some x) : ∀ A n c, cs = [.slice A n c] → A = none → c = 0 := by
  intro A n c hcs hA
  rcases open_slice ht h with ⟨h0, _⟩ | ⟨a, len, cap, m, k, D, Pl, hcs2, _⟩
  · rw [hcs] at h0
    simp only [List.cons.injEq, Value.slice.injEq, and_true] at h0
    exact h0.2.2
  · rw [hcs] at hcs2
    simp only [List.cons.injEq, Value.slice.injEq, and_true] at hcs2
    rw [hA] at hcs2
    cases hcs2.1
set_option maxRecDepth 100000 in
theorem open_intss {H : Type} {enc : TypeId × Value → H} {w : World} {r : Reach} {b0 : Nat} {v : Value} {dd : DataW H} {p : List MemPlace} (hv : Value.okWide Try.prog w r b0 27 v) (h : DataW.Trod enc Try.prog w 0 (fun _ => true) true 27 v dd p) :
    ∃ A n c es ll, v = .slice A n c ∧ RdLL w w.heap.size A n es ll ∧ n ≤ c ∧ c ≤ maxLen ∧ ∀ l ∈ ll, l.length ≤ maxLen := by
  obtain ⟨a, len, cap, rfl⟩ := okWide_slice Try.underlying27 hv
  obtain ⟨fuel, hf⟩ := h
  obtain ⟨A, n, c, xs, hcs, hn, hc, hR, hg⟩ := open_rd (en := enSl) (sz := 1) (good := fun e => ∃ l, RdI w w.heap.size e.1 e.2.1 l ∧ (e.1 = none → e.2.2 = 0) ∧ l.length ≤ maxLen) Try.underlying27 (by kernel_rfl) (by omega) (by
    intro fuel cs x _ hx
    obtain ⟨A, n, c, xs, hcs, hn, hc, hR, _⟩ := open_rd (en := enI) (sz := 1) (good := I64) Try.underlying24 (by kernel_rfl) (by omega) (el_int Try.underlying2) hx
    have h1 := open_rdN Try.underlying24 hx A n c hcs
    have h2 := hR.len
    exact ⟨(A, n, c), hcs, xs, hR, h1, by omega⟩) hf
  simp only [Value.cells, Array.toList] at hcs
  injection hcs with hcs _
  injection hcs with h1 h2 h3
  subst h1 h2 h3
  obtain ⟨ll, h4, h5⟩ := pick_lists xs hg
  refine ⟨_, _, _, xs, ll, rfl, ⟨hR, by rw [h4]; exact hR.len, fun i e l he hl => ⟨(h5 i e l he hl).1, (h5 i e l he hl).2.1⟩⟩, hn, hc, fun l hl => ?_⟩
  obtain ⟨i, hi⟩ := List.mem_iff_getElem?.1 hl
  have h6 := (List.getElem?_eq_some_iff.1 hi).1
  exact (h5 i _ l (List.getElem?_eq_getElem (by omega)) hi).2.2
end Go.Proofs.Ytmhbkabdiciakaa
