/-
  The frame of a law's proof: from 'the call returns true and turns nothing that was there' to the given statement's form; and how the arguments are opened.
-/
import Derived.Test.YtaikfclgmkfooaaGreatDoorRows
import Derived.Test.YtaikfclgmkfooaaGreatDoorW
import Derived.ProofKit
import Derived.OpenShut
import Derived.ChangeOld
import Derived.Deep.Slices
import Derived.Deep.Fields
set_option linter.unusedSimpArgs false
set_option linter.unusedVariables false
namespace Go.Proofs.YtaikfclgmkfooaaGreatDoor
open Go.ChangeShapes Go.WideShapes Go.ChangeAt Go.RowKit Go.Deep

/-- an int64 -/
def I64 (z : Int) : Prop := -9223372036854775808 ≤ z ∧ z ≤ 9223372036854775807
theorem I64.of_wf {z : Int} (h : (Lit.int .i64 z).wf = true) : I64 z := by
  simpa [Lit.wf, IntKind.min, IntKind.max, IntKind.signed, IntKind.bits, I64] using h

section
variable {H : Type} {enc : TypeId × Value → H} {P : Program} {w : World}
theorem open_rd {α : Type} {en : α → List Value} {sz : Nat} {good : α → Prop} {t e : TypeId} {fuel : Nat} {cs : List Value} {x : DataW H × List MemPlace} (ht : P.underlying t = some (.slice e)) (hC : P.cellsOf e = sz) (hsz : 0 < sz)
    (hel : ∀ (fuel : Nat) (cs : List Value) (x : DataW H × List MemPlace), cs.length = sz → DataW.trod enc P w 0 (fun _ => true) true fuel e cs = some x → ∃ a, cs = en a ∧ good a)
    (h : DataW.trod enc P w 0 (fun _ => true) true fuel t cs = some x) :
    ∃ A n c xs, cs = [.slice A n c] ∧ n ≤ c ∧ c ≤ maxLen ∧ RdS en sz w w.heap.size A n xs ∧ ∀ x ∈ xs, good x := by
  rcases open_slice ht h with ⟨h0, _⟩ | ⟨a, len, cap, m, n, D, Pl, hcs, hb, hl, hm, hmm, hx, hi⟩
  · exact ⟨none, 0, 0, [], h0, Nat.le_refl _, by unfold maxLen; omega, RdS.nil_, fun x hx => by cases hx⟩
  · have hE : ∀ i, i < len → ∃ y, (∀ j v, (en y)[j]? = some v → w.cell? (a.add (i * sz + j)) = some v) ∧ (en y).length = sz ∧ good y := by
      intro i hil
      have him : i < m := by
        rw [hmm, if_pos rfl]
        omega
      obtain ⟨cs', hc, ht'⟩ := hi i him
      rw [hC] at hc
      obtain ⟨_, hcl, hat⟩ := World.cells?_some hc
      obtain ⟨y, rfl, hg⟩ := hel _ _ _ hcl ht'
      refine ⟨y, fun j v hv => ?_, hcl, hg⟩
      have hj : j < sz := by rw [← hcl]; exact (List.getElem?_eq_some_iff.1 hv).1
      rw [← add_of_add, hat j hj, hv]
    refine ⟨some a, len, cap, List.ofFn (fun i : Fin len => Classical.choose (hE i.1 i.2)), hcs, hl, hm, ⟨by simp, fun h0 => ⟨a, rfl, ?_, fun i y hy j v hv => ?_⟩⟩, fun y hy => ?_⟩
    · obtain ⟨y, h1, h2, _⟩ := hE 0 h0
      have := h1 0 ((en y)[0]'(by omega)) (List.getElem?_eq_getElem (by omega))
      have := World.block_lt_of_cell? _ _ this
      rwa [block_of_add] at this
    · have hil : i < len := by simpa using (List.getElem?_eq_some_iff.1 hy).1
      have : y = Classical.choose (hE i hil) := by
        have h2 := (List.getElem?_eq_some_iff.1 hy).2
        simp only [List.getElem_ofFn] at h2
        exact h2.symm
      rw [this] at hv
      exact (Classical.choose_spec (hE i hil)).1 j v hv
    · obtain ⟨i, hi', rfl⟩ := List.getElem_of_mem hy
      simp only [List.getElem_ofFn]
      exact (Classical.choose_spec (hE i (by simpa using hi'))).2.2

theorem el_int {e : TypeId} (he : P.underlying e = some (.int .i64)) : ∀ (fuel : Nat) (cs : List Value) (x : DataW H × List MemPlace), cs.length = 1 → DataW.trod enc P w 0 (fun _ => true) true fuel e cs = some x → ∃ z, cs = enI z ∧ I64 z := by
  intro fuel cs x _ h
  obtain ⟨n, rfl, _, hw⟩ := DataW.trod_int he h
  exact ⟨n, rfl, I64.of_wf hw⟩

/-- a struct of one-cell fields, its cells and each field's reading -/
theorem el_fields {e : TypeId} {fs : Array Field} (he : P.underlying e = some (.struct fs)) (hone : oneCellFields P fs = true) {fuel : Nat} {cs : List Value} {x : DataW H × List MemPlace} (hl : cs.length = fs.size)
    (h : DataW.trod enc P w 0 (fun _ => true) true fuel e cs = some x) : ∀ (j : Nat) (f : Field), fs[j]? = some f → ∃ (n : Nat) (c : Value) (y : DataW H × List MemPlace), cs[j]? = some c ∧ DataW.trod enc P w 0 (fun _ => true) true n f.type [c] = some y := by
  intro j f hj
  obtain ⟨ys, n, _, _, _, hyl, hf⟩ := DataW.trod_struct he h
  obtain ⟨ho, hk⟩ := hone_of hone j f hj
  have hjl : j < fs.size := (Array.getElem?_eq_some_iff.1 hj).1
  have h1 := hf j f hj
  rw [ho, hk] at h1
  have hone' : (cs.drop j).take 1 = [cs[j]'(by omega)] := by
    rw [List.drop_eq_getElem_cons (by omega)]
    rfl
  rw [hone'] at h1
  have hys : ys[j]? = some (ys[j]'(by omega)) := List.getElem?_eq_getElem (by omega)
  exact ⟨n, _, _, List.getElem?_eq_getElem (by omega), h1.trans hys⟩

/-- a struct of int64 fields -/
theorem el_ints {e : TypeId} {fs : Array Field} (he : P.underlying e = some (.struct fs)) (hone : oneCellFields P fs = true) (hi : ∀ (j : Nat) (f : Field), fs[j]? = some f → P.underlying f.type = some (.int .i64)) {fuel : Nat} {cs : List Value} {x : DataW H × List MemPlace} (hl : cs.length = fs.size)
    (h : DataW.trod enc P w 0 (fun _ => true) true fuel e cs = some x) : ∃ zs : List Int, zs.length = fs.size ∧ cs = zs.map (.int .i64) ∧ ∀ z ∈ zs, I64 z := by
  have hE : ∀ j, j < fs.size → ∃ z, cs[j]? = some (.int .i64 z) ∧ I64 z := by
    intro j hj
    obtain ⟨n, c, y, hc, hy⟩ := el_fields he hone hl h j _ (Array.getElem?_eq_getElem hj)
    obtain ⟨z, hz, _, hw⟩ := DataW.trod_int (hi j _ (Array.getElem?_eq_getElem hj)) hy
    simp only [List.cons.injEq, and_true] at hz
    subst hz
    exact ⟨z, hc, I64.of_wf hw⟩
  refine ⟨List.ofFn (fun i : Fin fs.size => Classical.choose (hE i.1 i.2)), by simp, ?_, fun z hz => ?_⟩
  · refine List.ext_getElem? fun j => ?_
    by_cases hj : j < fs.size
    · refine (Classical.choose_spec (hE j hj)).1.trans ?_
      rw [List.getElem?_map, List.getElem?_ofFn, dif_pos hj]
      rfl
    · rw [List.getElem?_eq_none (by omega), List.getElem?_eq_none (by simp; omega)]
  · obtain ⟨i, hi', rfl⟩ := List.getElem_of_mem hz
    simp only [List.getElem_ofFn]
    exact (Classical.choose_spec (hE i (by simpa using hi'))).2

/-- a struct by value -/
theorem open_agg {r : Reach} {b0 : Nat} {t : TypeId} {fs : Array Field} {v : Value} {d : DataW H} {p : List MemPlace} (hs : P.underlying t = some (.struct fs)) (hC : P.cellsOf t = fs.size)
    (hv : Value.okWide P w r b0 t v) (h : DataW.Trod enc P w 0 (fun _ => true) true t v d p) : ∃ (l : List Value) (fuel : Nat), v = .agg l.toArray ∧ l.length = fs.size ∧ DataW.trod enc P w 0 (fun _ => true) true fuel t l = some (d, p) := by
  obtain ⟨cs, rfl, hsz⟩ := okWide_struct hs hv
  obtain ⟨l⟩ := cs
  obtain ⟨fuel, hf⟩ := h
  exact ⟨l, fuel, rfl, by simpa using hsz.trans hC, by simpa [Value.cells] using hf⟩

theorem trodAll_len : ∀ {ts : List TypeId} {vs : List Value} {ds : List (DataW H)} {ps : List MemPlace}, DataW.TrodAll enc P w 0 (fun _ => true) true ts vs ds ps → ds.length = ts.length
  | [], vs, ds, ps, h => by obtain ⟨_, rfl, _⟩ := trodAll_nil h; rfl
  | t :: ts, vs, ds, ps, h => by
    obtain ⟨v, vs', d, ds', p, q, rfl, rfl, rfl, _, hr⟩ := trodAll_cons h
    simp [trodAll_len hr]

theorem trodAll_below (hl : laidOutB P = true) {w' : World} (hb : Below w.heap.size w w') : ∀ {ts : List TypeId} {vs : List Value} {ds : List (DataW H)} {ps : List MemPlace},
    (∀ t ∈ ts, P.readableRec t = true ∧ t < P.types.size) → DataW.TrodAll enc P w 0 (fun _ => true) true ts vs ds ps → (∀ x ∈ ps, x.block < w.heap.size) → DataW.TrodAll enc P w' 0 (fun b => decide (b < w.heap.size)) true ts vs ds ps
  | [], vs, ds, ps, _, h, _ => by obtain ⟨rfl, rfl, rfl⟩ := trodAll_nil h; exact trodAll_mk0
  | t :: ts, vs, ds, ps, hr, h, hlt => by
    obtain ⟨v, vs', d, ds', p, q, rfl, rfl, rfl, h0, h1⟩ := trodAll_cons h
    obtain ⟨h2, h3⟩ := hr t (by simp)
    exact trodAll_cons_mk (Below.trod hl h2 h3 h0 hb (fun x hx => hlt x (List.mem_append_left _ hx))) (trodAll_below hl hb (fun t ht => hr t (by simp [ht])) h1 (fun x hx => hlt x (List.mem_append_right _ hx)))
end

/-- WHAT A LAW's WALK GIVES, AS THE ROW WANTS IT. -/
theorem law_ret {C : Checked} {os : Os} {H : Type} {enc : TypeId × Value → H} {f : FuncId} {fn : Func} {s : ChangeSpec} {tb : TypeId} (own : ownKnob C.prog.godebug = none) (laid : laidOutB C.prog = true) (started : os.Started)
    (noInit : C.prog.inits.idxOf? f = none) (hfn : C.prog.funcs[f]? = some fn)
    (witness : ∃ (w : World) (tape : Tape) (i : Input), w.os = os ∧ (w.forCall tape i).Shaped C.prog ∧ i.vars = [] ∧ Input.okWide C.prog (w.forCall tape i) .any w.heap.size f i ∧
      s.pre6 enc C.prog fn [] false (w.forCall tape i).memory i.args ∧ ({} : Assume).holds C.prog (lone (Frame.enter C.prog f i.args .normal) [] (w.forCall tape i)))
    (hv : s.vars = []) (hs : ∀ ds : List (DataW H), ds.length = fn.params.size → s.fn H ds = { results := [.lit (.bool true)], args := ds })
    (hr : fn.resultTypes = #[tb]) (htb : C.prog.underlying tb = some .bool) (hread : ∀ t ∈ fn.params.toList, C.prog.readableRec t = true ∧ t < C.prog.types.size)
    (walk : ∀ (W : World) (base : Nat) (args : Array Value) (ds : List (DataW H)) (p : List MemPlace), (∀ (j : Nat) t v, fn.params[j]? = some t → args[j]? = some v → Value.okWide C.prog W .any base t v) →
      DataW.TrodAll enc C.prog W 0 (fun _ => true) true fn.params.toList args.toList ds p → Calls C.prog f args W fun e W' => e = .returned (.bool true) ∧ Below W.heap.size W W') :
    ReturnsInHanded {} C os f .any (s.pre6 enc C.prog fn [] false) (s.post enc C.prog fn false true false false) := by
  refine returnsInHanded_of_change (C := C) own started noInit hfn witness ?_
  intro W base args ds gs before hval hW hcnd _
  have hW' := hW
  obtain ⟨p, q, hA, hV, hpq, hfz, hnd⟩ := hW
  rw [hv] at hV
  obtain ⟨rfl, rfl⟩ := trodVars_none hV
  have hlt : ∀ x ∈ p, x.block < W.heap.size := hA.lt
  have hlen : ds.length = fn.params.size := by rw [trodAll_len hA]; simp
  refine (walk W base args ds p hval hA).mono fun e W' ⟨he, bel⟩ => ?_
  subst he
  refine ⟨_, rfl, ds, [], before, [], p, [], hW', ?_, ?_, ?_, bel.frame _, fun h => by cases h⟩
  · rw [List.append_nil, hs ds hlen, hr]
    exact trodAll_mk1 (shut_bool htb true)
  · rw [List.append_nil, hs ds hlen]
    exact trodAll_below laid bel hread hA hlt
  · rw [List.append_nil, hs ds hlen, hv]
    rfl

theorem own : ownKnob Tryz.prog.godebug = none := by kernel_rfl
theorem laidOut : laidOutB Tryz.prog = true := by kernel_rfl
end Go.Proofs.YtaikfclgmkfooaaGreatDoor
