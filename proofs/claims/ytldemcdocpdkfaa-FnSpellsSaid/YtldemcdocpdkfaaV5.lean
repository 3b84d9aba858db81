/-
  The library's slices.SortFunc over spells, as impl.AddSpell calls it: the row holds the same spells, the days they begin on going up; nothing else turns. The days lie in 0 .. 100000.
-/
import Derived.Test.YtldemcdocpdkfaaK5
import Derived.Test.YtldemcdocpdkfaaLV
import Derived.Shelf.SlSortCmp.WholeK
set_option linter.unusedSimpArgs false
set_option linter.unusedVariables false
namespace Go.Proofs.Ytldemcdocpdkfaa
open Go.ChangeShapes Go.WideShapes Go.ChangeAt Go.RowKit
open Go.Shelf Go.Sort
/-- a spell whose first day is in its range -/
structure Day where
  v : Int × Int
  ok : 0 ≤ v.1 ∧ v.1 ≤ 100000
instance : Inhabited Day := ⟨⟨(0, 0), by decide⟩⟩
def encD (x : Day) : List Value := enP x.v
def cfD (x y : Day) : Int := x.v.1 - y.v.1
theorem ltD (x y : Day) : ltOf cfD x y = decide (x.v.1 < y.v.1) := by
  unfold ltOf cfD
  rw [Bool.eq_iff_iff]
  simp only [decide_eq_true_eq]
  omega
theorem swoD : SWO (ltOf cfD) where
  irrefl x := by rw [ltD]; simp
  trans x y z h1 h2 := by rw [ltD] at *; simp at *; omega
  ntrans x y z h1 h2 := by rw [ltD] at *; simp at *; omega
set_option maxHeartbeats 1000000 in
theorem closD (x y : Day) (W : World) : Calls Try.prog 68 #[.agg (encD x).toArray, .agg (encD y).toArray] W fun e w' => e = .returned (.int .i64 (cfD x y)) ∧ ∃ q os', w' = grow (W.drewN q) os' := by
  have hx := x.ok
  have hy := y.ok
  unfold cfD encD enP
  generalize x.v.1 = a at hx
  generalize x.v.2 = b
  generalize y.v.1 = c at hy
  generalize y.v.2 = d
  have h1 := IntWalk.i64_in (a - c) (by omega)
  go_enter Try.func68, Try.ntmps68
  go_wp2
  go_ret
  exact ⟨rfl, 0, _, by rw [alloc_eq_grow, alloc_eq_grow, grow_grow]; rfl⟩
theorem flat_get : ∀ (l : List Day) (t : Nat), t < l.length * 2 → ((l.map (·.v)).flatMap enP)[t]? = some ((encD l[t / 2]!)[t % 2]!)
  | [], t, h => by simp at h
  | x :: r, 0, h => rfl
  | x :: r, 1, h => rfl
  | x :: r, t + 2, h => by
    have ih := flat_get r t (by simp at h; omega)
    rw [show (t + 2) / 2 = t / 2 + 1 by omega, show (t + 2) % 2 = t % 2 by omega, List.map_cons, List.flatMap_cons]
    rw [show (enP x.v ++ (r.map (·.v)).flatMap enP)[t + 2]? = ((r.map (·.v)).flatMap enP)[t]? from rfl, ih]
    simp
theorem flatD (d : Array Day) : (flatK encD 2 d).toList = (d.toList.map (·.v)).flatMap enP := by
  apply List.ext_getElem?
  intro t
  by_cases h : t < d.size * 2
  · rw [flat_get d.toList t (by simpa using h), Array.getElem?_toList, Array.getElem?_eq_getElem (by simpa using h)]
    have := get_flatK encD 2 d t h
    rw [getElem!_pos _ t (by simpa using h)] at this
    rw [this]
    have hq : t / 2 < d.size := by omega
    rw [getElem!_pos d _ hq, getElem!_pos d.toList _ (by simpa using hq), Array.getElem_toList]
  · rw [List.getElem?_eq_none (by simp; omega), List.getElem?_eq_none (by rw [flat_len]; simp; omega)]
theorem days_of : ∀ zs : List (Int × Int), (∀ x ∈ zs, 0 ≤ x.1 ∧ x.1 ≤ 100000) → ∃ l : List Day, l.map (·.v) = zs
  | [], _ => ⟨[], rfl⟩
  | x :: r, h => by
    obtain ⟨l, hl⟩ := days_of r (fun y hy => h y (List.mem_cons_of_mem _ hy))
    exact ⟨⟨x, h x List.mem_cons_self⟩ :: l, by rw [List.map_cons, hl]⟩
theorem holds_blk {w : World} {g : Nat} {cur F : Array Value} {e : TypeId} (hb : w.heap[g]? = some (.cells cur e (0, 0))) (ht : cur.toList.take F.size = F.toList) : Holds id w g 0 F := by
  intro j hj
  refine ⟨?_, by simp [World.frozen?, hb]⟩
  have h1 : (cur.toList.take F.size)[j]? = F.toList[j]? := by rw [ht]
  rw [List.getElem?_take_of_lt hj] at h1
  simp only [World.cell?, hb, Nat.zero_add]
  simp only [Option.isSome_none, Bool.false_eq_true, if_false]
  rw [← Array.getElem?_toList, h1, Array.getElem?_toList, Array.getElem?_eq_getElem hj, getElem!_pos _ j hj]
  rfl
theorem heap_put {w : World} {g n : Nat} {os : Array Obj} {cur : Array Value} {e : TypeId} {fr : Nat × Nat} (F : Array Value) (hb : w.heap[g]? = some (.cells cur e fr)) :
    (grow (putRow id (Sort.ahead w n) g 0 F) os).heap[g]? = some (.cells (putCells id 0 F cur) e fr) := by
  have hg : g < w.heap.size := (Array.getElem?_eq_some_iff.1 hb).1
  rw [heap_grow_old _ _ (by simpa using hg)]
  simp [putRow, mapBlock, Sort.ahead, Array.getElem?_modify, hb, onCells]
theorem grownBy_put {w : World} {g n : Nat} {os : Array Obj} (F : Array Value) : w.grownBy (grow (putRow id (Sort.ahead w n) g 0 F) os) (some g) := by
  refine ⟨rfl, rfl, rfl, by simp, fun k hk hne => ?_⟩
  rw [heap_grow_old _ _ (by simpa using hk)]
  have : g ≠ k := fun e => hne (by rw [e])
  simp [putRow, mapBlock, Sort.ahead, Array.getElem?_modify, this]
theorem take_put (cur F : Array Value) (h : F.size ≤ cur.size) : (putCells id 0 F cur).toList.take F.size = F.toList := by
  apply List.ext_getElem?
  intro j
  by_cases hj : j < F.size
  · rw [List.getElem?_take_of_lt hj, Array.getElem?_toList, Array.getElem?_toList]
    simp [putCells, hj, show j < cur.size by omega]
  · rw [List.getElem?_take_eq_none (by omega), List.getElem?_eq_none (by simp; omega)]
set_option maxHeartbeats 1000000 in
set_option maxRecDepth 100000 in
theorem sort_any (w : World) (base n c : Nat) (A : Option Addr) (zs : List (Int × Int)) (h : OwP w base (.slice A n c) zs) (hz : ∀ x ∈ zs, 0 ≤ x.1 ∧ x.1 ≤ 100000) (h0 : 0 < zs.length) (hl : zs.length ≤ 1000000) :
    Calls Try.prog 67 #[.slice A n c, .func (.func 68) #[] #[]] w fun e w' => e = .returned (.tuple #[]) ∧ ∃ ys, ys.Perm zs ∧ (ys.Pairwise fun x y => x.1 ≤ y.1) ∧ OwP w' base (.slice A n c) ys ∧ w.grownBy w' (Value.slice A n c).ownBlock := by
  obtain ⟨hn, h2⟩ := h
  rcases h2 with ⟨h3, h4⟩ | ⟨g, cap, cur, hv, hbase, hb, h1, h2, h3, h4⟩
  · omega
  injection hv with e1 e2 e3
  subst e1 e2 e3
  obtain ⟨l, hl2⟩ : ∃ l : List Day, l.map (·.v) = zs := days_of zs hz
  have hF : (flatK encD 2 l.toArray).toList = zs.flatMap enP := by rw [flatD]; simp [hl2]
  have hll : l.length = zs.length := by rw [← hl2]; simp
  have eg : ∀ args w, (callFunc 68 args).run Try.prog w = .ok (.enter 68 args) w := enters_of Try.func68 (by kernel_rfl) rfl
  have hH : HoldsK encD 2 w g 0 l.toArray := holds_blk hb (by rw [hF, ← h4]; simp [hll])
  have hs := AnyQ.slices_SortFunc sortSp 2 Try.isAgg57 Try.sizeOf57 encD (fun _ => rfl) (fun x v hv => by simp [encD, enP] at hv; rcases hv with rfl | rfl <;> rfl) cfD swoD 68 #[] g 0 c l.toArray w eg (fun _ _ _ _ x y => closD x y _) hH (Array.getElem?_eq_some_iff.1 hb).1 (by simp; omega)
  change Calls Try.prog 67 _ _ _ at hs
  simp only [List.size_toArray, hll] at hs
  refine hs.mono ?_
  rintro e w' ⟨he, d', m, os, hp, hso, hw⟩
  have hds : d'.size = l.length := by simpa using hp.1
  have hF' : (flatK encD 2 d').toList = (d'.toList.map (·.v)).flatMap enP := flatD d'
  have hFs : (flatK encD 2 d').size = zs.length * 2 := by rw [size_flatK, hds, hll]
  subst hw
  refine ⟨he, d'.toList.map (·.v), ?_, ?_, ?_, grownBy_put _⟩
  · have h5 := hp.2.2
    rw [show (d'.extract 0 zs.length) = d' by rw [← hll, ← hds]; exact Array.extract_size, show (l.toArray.extract 0 zs.length) = l.toArray by rw [← hll]; simp] at h5
    have h6 := h5.map (fun x : Day => x.v)
    rw [← hl2]
    exact h6
  · rw [List.pairwise_map, List.pairwise_iff_getElem]
    intro i j hi hj hij
    have hi' : i < d'.size := by simpa using hi
    have hj' : j < d'.size := by simpa using hj
    have h5 := hso i j (Nat.zero_le _) hij (by omega)
    rw [ltD, getElem!_pos d' j hj', getElem!_pos d' i hi'] at h5
    have h6 := of_decide_eq_false h5
    rw [Array.getElem_toList, Array.getElem_toList]
    omega
  · have e1 : (d'.toList.map (·.v)).length = zs.length := by simp [hds, hll]
    unfold OwP
    rw [e1]
    refine ⟨by rw [flat_len, e1], .inr ⟨g, c, _, rfl, hbase, heap_put _ hb, h1, h2, by simp [putCells, h3], ?_⟩⟩
    rw [← hFs, ← hF']
    exact take_put cur _ (by rw [hFs, h3]; omega)
end Go.Proofs.Ytldemcdocpdkfaa
