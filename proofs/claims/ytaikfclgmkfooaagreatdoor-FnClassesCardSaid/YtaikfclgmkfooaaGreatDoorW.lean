/-
  Words for memory, and small facts on lists and numbers, for the proofs of this seat. No program is named here.
-/
import Derived.WalkKit
import Derived.WalkSpells
import Derived.WalkLawsBesides
import Derived.Handy
import Derived.Lib.Hide
import Derived.Maps.AppendAt
import Derived.Deep.AppendLies
import Derived.Deep.Draws
set_option linter.unusedSimpArgs false
set_option linter.unusedVariables false
namespace Go.Proofs.YtaikfclgmkfooaaGreatDoor
open Go.RowKit

theorem block_of_add (a : Addr) (n : Nat) : (a.add n).block = a.block := by unfold Addr.add; split <;> rfl
theorem add_of_add (a : Addr) (i j : Nat) : (a.add i).add j = a.add (i + j) := by
  unfold Addr.add
  by_cases hi : i = 0 <;> by_cases hj : j = 0 <;> simp [hi, hj, Nat.add_assoc]
theorem add_zero' (a : Addr) : a.add 0 = a := by unfold Addr.add; simp

/-- Slice '.slice A n c' reads as the list xs, each element of sz cells as 'enc' says; it lies below block B; nil let in. -/
def RdS {α : Type} (enc : α → List Value) (sz : Nat) (w : World) (B : Nat) (A : Option Addr) (n : Nat) (xs : List α) : Prop :=
  xs.length = n ∧ (0 < n → ∃ ad, A = some ad ∧ ad.block < B ∧ ∀ i x, xs[i]? = some x → ∀ j v, (enc x)[j]? = some v → w.cell? (ad.add (i * sz + j)) = some v)

section
variable {α : Type} {enc : α → List Value} {sz : Nat} {w w' : World} {B B' : Nat} {A : Option Addr} {n : Nat} {xs : List α}
theorem RdS.nil_ : RdS enc sz w B A 0 ([] : List α) := ⟨rfl, fun h => absurd h (by omega)⟩
theorem RdS.len (h : RdS enc sz w B A n xs) : xs.length = n := h.1
theorem RdS.at_ {k : Nat} (h : RdS enc sz w B A n xs) (hk : k < n) :
    ∃ ad x, A = some ad ∧ ad.block < B ∧ xs[k]? = some x ∧ ∀ j v, (enc x)[j]? = some v → w.cell? (ad.add (k * sz + j)) = some v := by
  obtain ⟨ad, e, hb, hc⟩ := h.2 (by omega)
  have hl : k < xs.length := by have := h.1; omega
  exact ⟨ad, xs[k], e, hb, List.getElem?_eq_getElem hl, hc k _ (List.getElem?_eq_getElem hl)⟩
theorem RdS.keep (h : RdS enc sz w B A n xs) (hk : ∀ p : Addr, p.block < B → w'.cell? p = w.cell? p) : RdS enc sz w' B A n xs :=
  ⟨h.1, fun hn => by
    obtain ⟨ad, e, hb, hc⟩ := h.2 hn
    exact ⟨ad, e, hb, fun i x hx j v hv => (hk _ (by rw [block_of_add]; exact hb)).trans (hc i x hx j v hv)⟩⟩
theorem RdS.more (h : RdS enc sz w B A n xs) (hB : B ≤ B') : RdS enc sz w B' A n xs :=
  ⟨h.1, fun hn => by
    obtain ⟨ad, e, hb, hc⟩ := h.2 hn
    exact ⟨ad, e, by omega, hc⟩⟩
theorem RdS.below (h : RdS enc sz w B A n xs) (hb : Below B w w') : RdS enc sz w' B A n xs := h.keep fun _ hp => hb.cell hp
/-- the same in a later world, below its own size -/
theorem RdS.later (h : RdS enc sz w w.heap.size A n xs) (hb : Below w.heap.size w w') : RdS enc sz w' w'.heap.size A n xs := (h.below hb).more hb.size
theorem RdS.alloc (h : RdS enc sz w B A n xs) (hB : B ≤ w.heap.size) (o : Obj) : RdS enc sz (w.alloc o) B A n xs := h.keep fun p hp => World.cell?_alloc_lt w o p (by omega)
theorem RdS.cur (h : RdS enc sz w w.heap.size A n xs) (o : Obj) : RdS enc sz (w.alloc o) (w.alloc o).heap.size A n xs := (h.alloc (Nat.le_refl _) o).more (by simp)
theorem RdS.setCell (h : RdS enc sz w B A n xs) {p : Addr} (hB : B ≤ p.block) (u : Value) : RdS enc sz (w.setCell p u) B A n xs :=
  h.keep fun q hq => World.cell?_setCell_other w p q u (fun e => by subst e; omega)
theorem RdS.drew (h : RdS enc sz w B A n xs) : RdS enc sz w.drew B A n xs := h
theorem RdS.drewN (h : RdS enc sz w B A n xs) (k : Nat) : RdS enc sz (w.drewN k) B A n xs := h
theorem RdS.grown (h : RdS enc sz w B A n xs) {row : Option Nat} (hg : w.grownBy w' row) (hB : B ≤ w.heap.size) (hr : ∀ g, row = some g → B ≤ g) : RdS enc sz w' B A n xs :=
  h.keep fun p hp => World.cell?_of_block (hg.block p.block (by omega) (fun e => by have := hr _ e.symm; omega))
theorem RdS.cut (h : RdS enc sz w B A n xs) {k cap : Nat} (hk : k ≤ n) (hc : n ≤ cap) :
    RdS enc sz w B (if cap = k then A else A.map (·.add (k * sz))) (n - k) (xs.drop k) := by
  refine ⟨by rw [List.length_drop, h.1], fun hn => ?_⟩
  obtain ⟨ad, rfl, hb, hcell⟩ := h.2 (by omega)
  rw [if_neg (by omega)]
  refine ⟨ad.add (k * sz), rfl, by rw [block_of_add]; exact hb, fun i x hx j v hv => ?_⟩
  rw [add_of_add, ← Nat.add_assoc, ← Nat.add_mul]
  exact hcell _ x (by rw [← hx, List.getElem?_drop]) j v hv
theorem RdS.take (h : RdS enc sz w B A n xs) {k : Nat} (hk : k ≤ n) : RdS enc sz w B A k (xs.take k) := by
  refine ⟨by rw [List.length_take, h.1]; omega, fun hn => ?_⟩
  obtain ⟨ad, rfl, hb, hcell⟩ := h.2 (by omega)
  refine ⟨ad, rfl, hb, fun i x hx j v hv => hcell i x ?_ j v hv⟩
  rw [List.getElem?_take] at hx
  split at hx
  · exact hx
  · cases hx
theorem RdS.of_own {base : Nat} {e : TypeId} {c : Nat} {cs : List Value} (hs : ∀ x, (enc x).length = sz) (h : w.ownsRow base e sz (.slice A n c) n cs) (hcs : cs = xs.flatMap enc) (hn : xs.length = n) : RdS enc sz w w.heap.size A n xs := by
  refine ⟨hn, fun h0 => ?_⟩
  obtain ⟨g, cap, hv, _, hlt⟩ := h.form h0
  have hA : A = some ⟨g, 0, none⟩ := by injection hv
  subst hA
  refine ⟨_, rfl, hlt, fun i x hx j v hvx => ?_⟩
  refine h.cells (g := g) rfl (i * sz + j) v ?_
  rw [hcs]
  have hj : j < sz := by rw [← hs x]; exact (List.getElem?_eq_some_iff.1 hvx).1
  clear hcs h0 hlt h hn hv
  induction xs generalizing i with
  | nil => simp at hx
  | cons y ys ih =>
    rw [List.flatMap_cons]
    cases i with
    | zero =>
      simp only [List.getElem?_cons_zero, Option.some.injEq] at hx
      subst hx
      rw [List.getElem?_append_left (by rw [hs]; omega)]
      simpa using hvx
    | succ i =>
      simp only [List.getElem?_cons_succ] at hx
      rw [List.getElem?_append_right (by rw [hs, Nat.add_mul]; omega)]
      have := ih i hx
      rw [hs, Nat.add_mul, show i * sz + 1 * sz + j - sz = i * sz + j from by omega]
      exact this
end

/-- int64 elements -/
def enI (z : Int) : List Value := [.int .i64 z]
abbrev RdI := RdS enI 1
theorem RdI.atI {w : World} {B : Nat} {A : Option Addr} {n : Nat} {zs : List Int} {k : Nat} (h : RdI w B A n zs) (hk : k < n) :
    ∃ ad z, A = some ad ∧ ad.block < B ∧ zs[k]? = some z ∧ w.cell? (ad.add k) = some (.int .i64 z) := by
  obtain ⟨ad, z, h1, h2, h3, h4⟩ := h.at_ hk
  exact ⟨ad, z, h1, h2, h3, by simpa using h4 0 _ rfl⟩

/-- the rules that a call which makes memory leaves of old cells -/
theorem bcell {W w1 : World} (hb : Below W.heap.size W w1) : (∀ b o, b < W.heap.size → w1.cell? ⟨b, o, none⟩ = W.cell? ⟨b, o, none⟩) ∧ (∀ b o, b < W.heap.size → w1.frozen? ⟨b, o, none⟩ = W.frozen? ⟨b, o, none⟩) :=
  ⟨fun b o h => hb.cell (p := ⟨b, o, none⟩) h, fun b o h => hb.frozen (p := ⟨b, o, none⟩) h⟩

theorem bel_step {w W w1 : World} (h : Below w.heap.size w W) (hb : Below W.heap.size W w1) : Below w.heap.size w w1 := h.trans (hb.mono h.size)
/-- what a region that draws its order keeps: all that lay in w1 -/
theorem bS {w1 W' : World} (h : Below w1.heap.size w1 W') : Below w1.heap.size w1 W' ∧ ∀ b o, b < w1.heap.size → W'.cell? ⟨b, o, none⟩ = w1.cell? ⟨b, o, none⟩ := ⟨h, (bcell h).1⟩
/-- block g is just the cells cs of element type t, none frozen -/
def Blk (w : World) (g : Nat) (t : TypeId) (cs : Array Value) : Prop := w.heap[g]? = some (.cells cs t (0, 0))
section
variable {w w' : World} {g : Nat} {t : TypeId} {cs : Array Value}
theorem Blk.lt (h : Blk w g t cs) : g < w.heap.size := by
  rcases Nat.lt_or_ge g w.heap.size with hlt | hge
  · exact hlt
  · unfold Blk at h; rw [Array.getElem?_eq_none hge] at h; cases h
theorem Blk.cell (h : Blk w g t cs) (i : Nat) : w.cell? ⟨g, i, none⟩ = cs[i]? := cell_of_row w g i cs t (0, 0) h
theorem Blk.frozen (h : Blk w g t cs) (i : Nat) : w.frozen? ⟨g, i, none⟩ = false := by
  unfold Blk at h
  simp [World.frozen?, h]
theorem Blk.new (w : World) (t : TypeId) (cs : Array Value) : Blk (w.alloc (.cells cs t)) w.heap.size t cs := heap_alloc_new w _
theorem Blk.drewN (h : Blk w g t cs) (n : Nat) : Blk (w.drewN n) g t cs := h
theorem Blk.alloc (h : Blk w g t cs) (o : Obj) : Blk (w.alloc o) g t cs := (Below.heap_alloc w o g h.lt).trans h
theorem Blk.set_ (h : Blk w g t cs) (i : Nat) (u : Value) : Blk (w.setCell ⟨g, i, none⟩ u) g t (cs.setIfInBounds i u) := by
  unfold Blk at h ⊢
  simp [World.setCell, Array.getElem?_modify, h]
theorem Blk.far (h : Blk w g t cs) {p : Addr} (hp : g ≠ p.block) (u : Value) : Blk (w.setCell p u) g t cs := (Below.heap_setCell w p u g hp).trans h
theorem Blk.below {B : Nat} (h : Blk w g t cs) (hb : Below B w w') (hg : g < B) : Blk w' g t cs := (hb.block g hg).trans h
theorem Blk.grown {row : Option Nat} (h : Blk w g t cs) (hb : w.grownBy w' row) (hg : some g ≠ row) : Blk w' g t cs := (hb.block g h.lt hg).trans h
end
theorem grownBy_drewN {a w : World} {row : Option Nat} (h : a.grownBy w row) (n : Nat) : a.grownBy (w.drewN n) row := ⟨h.os, h.tape, h.output, h.size, h.block⟩
theorem grownBy_alloc {a w : World} {row : Option Nat} (h : a.grownBy w row) (o : Obj) : a.grownBy (w.alloc o) row :=
  ⟨h.os, h.tape, h.output, Nat.le_trans h.size (by simp), fun i hi hne => (Below.heap_alloc w o i (Nat.lt_of_lt_of_le hi h.size)).trans (h.block i hi hne)⟩
theorem grownBy_set {a w : World} {g : Nat} (h : a.grownBy w (some g)) {p : Addr} (hp : p.block = g ∨ a.heap.size ≤ p.block) (u : Value) : a.grownBy (w.setCell p u) (some g) :=
  ⟨h.os, h.tape, h.output, by simpa [World.setCell] using h.size, fun i hi hne => (Below.heap_setCell w p u i (by
    rintro rfl
    rcases hp with hp | hp
    · exact hne (by rw [hp])
    · omega)).trans (h.block i hi hne)⟩
theorem grownBy_store {w wr : World} {g : Nat} (h : w.grownBy wr (some g)) (j : Nat) (u : Value) : w.grownBy (wr.setCell ⟨g, j, none⟩ u) (some g) :=
  ⟨h.os, h.tape, h.output, by simpa [World.setCell] using h.size, fun i hi hne => (Below.heap_setCell wr _ u i (fun e => hne (by rw [e]))).trans (h.block i hi hne)⟩
theorem grownBy_below {a w w1 : World} {row : Option Nat} (h : a.grownBy w row) (hb : Below w.heap.size w w1) : a.grownBy w1 row :=
  ⟨hb.os.trans h.os, hb.tape.trans h.tape, hb.output.trans h.output, Nat.le_trans h.size hb.size, fun i hi hne => (hb.block i (Nat.lt_of_lt_of_le hi h.size)).trans (h.block i hi hne)⟩
theorem grownBy_tr {a b c : World} {row : Option Nat} (h : a.grownBy b row) (k : b.grownBy c row) : a.grownBy c row :=
  ⟨k.os.trans h.os, k.tape.trans h.tape, k.output.trans h.output, Nat.le_trans h.size k.size, fun i hi hne => (k.block i (Nat.lt_of_lt_of_le hi h.size) hne).trans (h.block i hi hne)⟩
theorem below_of_grown {a w : World} {g B : Nat} (h : a.grownBy w (some g)) (hB : B ≤ g) (hs : B ≤ a.heap.size) : Below B a w :=
  ⟨h.os, h.tape, h.output, h.size, fun k hk => h.block k (by omega) (fun e => by injection e with e; omega)⟩
/-- a number in a range -/
def inR (lo hi n : Int) : Bool := decide (lo ≤ n) && decide (n ≤ hi)
theorem inR_t {lo hi n : Int} (h : decide (lo ≤ n) = true) : inR lo hi n = decide (n ≤ hi) := by unfold inR; rw [h, Bool.true_and]
theorem inR_f {lo hi n : Int} (h : decide (lo ≤ n) = false) : inR lo hi n = false := by unfold inR; rw [h, Bool.false_and]
theorem inR_iff {lo hi n : Int} : inR lo hi n = true ↔ lo ≤ n ∧ n ≤ hi := by unfold inR; simp
theorem inR_ff {lo hi n : Int} : inR lo hi n = false ↔ n < lo ∨ hi < n := by
  cases h : inR lo hi n with
  | true => rw [inR_iff] at h; simp; omega
  | false =>
    have : ¬ (lo ≤ n ∧ n ≤ hi) := fun h' => by rw [inR_iff.2 h'] at h; cases h
    simp; omega

/-- the index of the first element that p holds of, or -1 -/
def firstI {α : Type} (p : α → Bool) (zs : List α) : Int := match zs.findIdx? p with | some k => k | none => -1
theorem firstI_none {α : Type} {p : α → Bool} {zs : List α} (h : ∀ j, j < zs.length → ∀ y, zs[j]? = some y → p y = false) : firstI p zs = -1 := by
  unfold firstI
  have : zs.findIdx? p = none := by
    rw [List.findIdx?_eq_none_iff]
    intro x hx
    obtain ⟨j, hj, rfl⟩ := List.getElem_of_mem hx
    exact h j hj _ (List.getElem?_eq_getElem hj)
  rw [this]
theorem firstI_some {α : Type} {p : α → Bool} {zs : List α} {k : Nat} {z : α} (h : ∀ j, j < k → ∀ y, zs[j]? = some y → p y = false) (hz : zs[k]? = some z) (hp : p z = true) : firstI p zs = k := by
  unfold firstI
  have hk : k < zs.length := (List.getElem?_eq_some_iff.1 hz).1
  have : zs.findIdx? p = some k := by
    rw [List.findIdx?_eq_some_iff_getElem]
    refine ⟨hk, ?_, fun j hj => ?_⟩
    · rw [List.getElem?_eq_getElem hk] at hz; cases hz; exact hp
    · simp [h j hj _ (List.getElem?_eq_getElem (by omega))]
  rw [this]
theorem firstI_ge {α : Type} (p : α → Bool) (zs : List α) : decide (0 ≤ firstI p zs) = zs.any p := by
  unfold firstI
  cases h : zs.findIdx? p with
  | none =>
    rw [List.findIdx?_eq_none_iff] at h
    have : zs.any p = false := by rw [List.any_eq_false]; intro x hx; simp [h x hx]
    simp [this]
  | some k =>
    rw [List.findIdx?_eq_some_iff_getElem] at h
    obtain ⟨hk, hp, _⟩ := h
    have : zs.any p = true := by rw [List.any_eq_true]; exact ⟨_, List.getElem_mem hk, hp⟩
    simp [this]
theorem all_any {α : Type} (p : α → Bool) (zs : List α) : (!(zs.any fun z => !p z)) = zs.all p := by
  induction zs with
  | nil => rfl
  | cons z zs ih => simp_all
theorem step_lt {α : Type} {p : α → Bool} {zs : List α} {k : Nat} {z : α} (h : ∀ j, j < k → ∀ y, zs[j]? = some y → p y = false) (hz : zs[k]? = some z) (hp : p z = false) : ∀ j, j < k + 1 → ∀ y, zs[j]? = some y → p y = false := by
  intro j hj y hy
  rcases Nat.lt_or_ge j k with h1 | h1
  · exact h j h1 y hy
  · obtain rfl : j = k := by omega
    cases hz.symm.trans hy
    exact hp
theorem step_le {α : Type} {p : α → Bool} {zs : List α} {k : Nat} {z : α} (h : ∀ j, j < k → ∀ y, zs[j]? = some y → p y = true) (hz : zs[k]? = some z) (hp : p z = true) : ∀ j, j < k + 1 → ∀ y, zs[j]? = some y → p y = true := by
  intro j hj y hy
  rcases Nat.lt_or_ge j k with h1 | h1
  · exact h j h1 y hy
  · obtain rfl : j = k := by omega
    cases hz.symm.trans hy
    exact hp
/-- a search that came to the end -/
theorem all_of_steps {α : Type} {p : α → Bool} {zs : List α} (h : ∀ j, j < zs.length → ∀ y, zs[j]? = some y → p y = true) : zs.all p = true := by
  rw [List.all_eq_true]
  intro x hx
  obtain ⟨j, hj, rfl⟩ := List.getElem_of_mem hx
  exact h j hj _ (List.getElem?_eq_getElem hj)
theorem all_no {α : Type} {p : α → Bool} {zs : List α} {k : Nat} {z : α} (hz : zs[k]? = some z) (hp : p z = false) : zs.all p = false := by
  rw [List.all_eq_false]
  obtain ⟨hk, rfl⟩ := List.getElem?_eq_some_iff.1 hz
  exact ⟨_, List.getElem_mem hk, by simp [hp]⟩
theorem run_make_rowN {P : Program} (t e : TypeId) (i : TypeInfo) (z : Value) (ht : P.underlying t = some (.slice e)) (hi : P.info? e = some i) (hz : i.zero = some z)
    (kl kc : IntKind) (n c : Nat) (hnc : n ≤ c) (hbytes : i.bytes * c ≤ 281474976710656) (h63 : c ≤ 9223372036854775807) (w : World) :
    (Instr.makeSlice t (.int kl (n : Int)) (.int kc (c : Int))).run P w = .ok (.slice (some ⟨w.heap.size, 0, none⟩) n c) (w.alloc (.cells (madeCells z.cells (c * i.size)) e)) := by
  have hb : (i.bytes : Int) * (c : Int) ≤ 281474976710656 := by
    have h : ((i.bytes * c : Nat) : Int) ≤ 281474976710656 := by omega
    rwa [Int.natCast_mul] at h
  have hr := run_make (P := P) w t e i z ht hi hz kl kc n c (by omega) (by omega) hb (by omega)
  simp only [Int.toNat_natCast] at hr
  exact hr
/-- the first cells of a block, two more written -/
theorem take_set2 (cs : Array Value) (k : Nat) (a b : Value) (h : 2 * k + 2 ≤ cs.size) : ((cs.setIfInBounds (k * 2) a).setIfInBounds (k * 2 + 1) b).toList.take (2 * (k + 1)) = cs.toList.take (2 * k) ++ [a, b] := by
  obtain ⟨l⟩ := cs
  simp only [List.size_toArray] at h
  simp only [List.setIfInBounds_toArray]
  refine List.ext_getElem? fun j => ?_
  simp only [List.getElem?_take, List.getElem?_set, List.getElem?_append, List.length_take, List.length_set]
  by_cases h1 : j < 2 * k
  · simp [h1, show j < 2 * (k + 1) by omega, show ¬ k * 2 + 1 = j by omega, show ¬ k * 2 = j by omega, show j < min (2 * k) l.length by omega]
  · by_cases h2 : j = 2 * k
    · subst h2
      simp [show 2 * k < 2 * (k + 1) by omega, show ¬ k * 2 + 1 = 2 * k by omega, show k * 2 = 2 * k by omega, show 2 * k < l.length by omega, show min (2 * k) l.length = 2 * k by omega]
    · by_cases h3 : j = 2 * k + 1
      · subst h3
        simp [show 2 * k + 1 < 2 * (k + 1) by omega, show k * 2 + 1 = 2 * k + 1 by omega, show 2 * k + 1 < l.length by omega, show min (2 * k) l.length = 2 * k by omega]
        intro h4
        omega
      · simp [show ¬ j < 2 * (k + 1) by omega, show ¬ j < min (2 * k) l.length by omega]
        omega
theorem ret_int {k : IntKind} {a b : Int} (h : a = b) : Ending.returned (.int k a) = .returned (.int k b) := by rw [h]
theorem ret_bool {a b : Bool} (h : a = b) : Ending.returned (.bool a) = .returned (.bool b) := by rw [h]
end Go.Proofs.YtaikfclgmkfooaaGreatDoor
