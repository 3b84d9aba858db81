/-
  The plain words for pay, and lists that are filled place by place.
-/
import Derived.Test.YtaikfclgmkfooaaGreatDoorC1
set_option linter.unusedSimpArgs false
set_option linter.unusedVariables false
namespace Go.Proofs.YtaikfclgmkfooaaGreatDoor
open Go.RowKit
/-- a list of n numbers: the first k by f, the others by g -/
def mix (f g : Nat → Int) (n k : Nat) : List Int := (List.range n).map (fun i => if i < k then f i else g i)
theorem mix_len (f g : Nat → Int) (n k : Nat) : (mix f g n k).length = n := by unfold mix; simp
theorem mix_get (f g : Nat → Int) {n k i : Nat} (h : i < n) : (mix f g n k)[i]? = some (if i < k then f i else g i) := by
  unfold mix
  rw [List.getElem?_map, List.getElem?_range h]
  rfl
theorem mix_set (f g : Nat → Int) {n k : Nat} (h : k < n) : (mix f g n k).set k (f k) = mix f g n (k + 1) := by
  refine List.ext_getElem? fun i => ?_
  rw [List.getElem?_set]
  by_cases hi : i < n
  · rw [mix_get f g hi, mix_get f g hi, mix_len]
    by_cases hk : k = i
    · subst hk
      rw [if_pos rfl, if_pos h, if_pos (by omega)]
    · rw [if_neg hk]
      by_cases h2 : i < k
      · rw [if_pos h2, if_pos (by omega)]
      · rw [if_neg h2, if_neg (by omega)]
  · rw [if_neg (by omega), List.getElem?_eq_none (by rw [mix_len]; omega), List.getElem?_eq_none (by rw [mix_len]; omega)]
theorem mix_skip (f g : Nat → Int) {n k : Nat} (h : f k = g k) : mix f g n k = mix f g n (k + 1) := by
  unfold mix
  refine List.map_congr_left fun i _ => ?_
  by_cases h1 : i < k
  · rw [if_pos h1, if_pos (by omega)]
  · by_cases h2 : i = k
    · subst h2
      rw [if_neg h1, if_pos (by omega), h]
    · rw [if_neg h1, if_neg (by omega)]
theorem mix_0 (f g : Nat → Int) (n : Nat) : mix f g n 0 = (List.range n).map g := by
  unfold mix
  refine List.map_congr_left fun i _ => ?_
  rw [if_neg (by omega)]
theorem mix_n (f g : Nat → Int) (n : Nat) : mix f g n n = (List.range n).map f := by
  unfold mix
  refine List.map_congr_left fun i hi => ?_
  rw [if_pos (List.mem_range.1 hi)]
theorem range_zero (n : Nat) : (List.range n).map (fun _ => (0 : Int)) = List.replicate n 0 := by
  rw [List.map_const', List.length_range]
theorem range_gz (xs : List Int) : (List.range xs.length).map (gz xs) = xs := by
  refine List.ext_getElem? fun i => ?_
  rw [List.getElem?_map]
  by_cases hi : i < xs.length
  · rw [List.getElem?_range hi, gz_get hi]
    rfl
  · rw [List.getElem?_eq_none (by simp; omega), List.getElem?_eq_none (by omega)]
    rfl
/-- a block holds a list -/
def holdsL (cs : Array Value) (xs : List Int) : Prop := cs.toList = xs.map (Value.int .i64)
theorem holdsL.set {cs : Array Value} {xs : List Int} (h : holdsL cs xs) (i : Nat) (v : Int) : holdsL (cs.setIfInBounds i (.int .i64 v)) (xs.set i v) := by
  unfold holdsL at h ⊢
  rw [Array.toList_setIfInBounds, h, List.map_set]
theorem holdsL.size {cs : Array Value} {xs : List Int} (h : holdsL cs xs) : cs.size = xs.length := by
  have := congrArg List.length h
  simpa using this
theorem holdsL.get {cs : Array Value} {xs : List Int} (h : holdsL cs xs) {i : Nat} {x : Int} (hx : xs[i]? = some x) : cs[i]? = some (.int .i64 x) := by
  rw [← Array.getElem?_toList, h, List.getElem?_map, hx]
  rfl
theorem holdsL.own {w : World} {g base : Nat} {cs : Array Value} {xs : List Int} (hb : Blk w g 2 cs) (h : holdsL cs xs) (hn : xs.length ≤ 1048576) (hg : base ≤ g) : OwI w base (.slice (some ⟨g, 0, none⟩) xs.length xs.length) xs :=
  (owi_of_blk hb h.size (by rw [← map_flat]; exact h) hn hg).2
theorem holdsL_made (n : Nat) : holdsL (madeCells (Value.int .i64 0).cells n) (List.replicate n 0) := by
  unfold holdsL
  rw [show (Value.int .i64 0).cells = #[Value.int .i64 0] from rfl, toList_madeCells_one, List.map_replicate]
/-- what one of the living or the dead is paid of t -/
def paV (ss ds : List Int) (t : Int) (i : Nat) : Int := if hs ds i = true then 0 else t / lvS ss ds ss.length * gz ss i
/-- what all are paid -/
def paL (ss ds : List Int) (t : Int) : List Int := (List.range ss.length).map (paV ss ds t)
/-- what is left in the chest -/
def paC (ss ds : List Int) (t : Int) : Int := t - t / lvS ss ds ss.length * lvS ss ds ss.length
theorem paL_len (ss ds : List Int) (t : Int) : (paL ss ds t).length = ss.length := by unfold paL; simp
theorem paC_mod (ss ds : List Int) (t : Int) : paC ss ds t = t % lvS ss ds ss.length := by
  unfold paC
  rw [Int.emod_def, Int.mul_comm]
theorem paC_bd {ss ds : List Int} {t : Int} (ha : ss.all (inR 1 1000) = true) (ht : 0 ≤ t) : 0 ≤ paC ss ds t ∧ paC ss ds t ≤ t := by
  have hL := lvS_bd (ds := ds) ha ss.length (Nat.le_refl _)
  unfold paC
  by_cases h0 : lvS ss ds ss.length = 0
  · rw [h0]; simp; exact ht
  · have h1 := Int.ediv_mul_le t h0
    have h2 : 0 ≤ t / lvS ss ds ss.length := Int.ediv_nonneg ht hL.1
    have h3 := Int.mul_nonneg h2 hL.1
    omega
theorem each_bd {ss ds : List Int} {t : Int} (ha : ss.all (inR 1 1000) = true) (ht : 0 ≤ t ∧ t ≤ 1001000000000) : 0 ≤ t / lvS ss ds ss.length ∧ t / lvS ss ds ss.length ≤ 1001000000000 := by
  have hL := lvS_bd (ds := ds) ha ss.length (Nat.le_refl _)
  exact ⟨Int.ediv_nonneg ht.1 hL.1, Int.le_trans (Int.ediv_le_self _ ht.1) ht.2⟩
theorem mul_bdP {a b : Int} (ha : 0 ≤ a ∧ a ≤ 1001000000000) (hb : 0 ≤ b ∧ b ≤ 1000) : 0 ≤ a * b ∧ a * b ≤ 1001000000000000 := by
  have h1 := Int.mul_nonneg ha.1 hb.1
  have h2 : a * b ≤ 1001000000000 * 1000 := Int.mul_le_mul ha.2 hb.2 hb.1 (by omega)
  omega
theorem paV_bd {ss ds : List Int} {t : Int} (ha : ss.all (inR 1 1000) = true) (ht : 0 ≤ t ∧ t ≤ 1001000000000) {i : Nat} (hi : i < ss.length) : 0 ≤ paV ss ds t i ∧ paV ss ds t i ≤ 1001000000000000 := by
  unfold paV
  split
  · omega
  · have h1 := inR_iff.1 (List.all_eq_true.1 ha _ (gz_mem hi))
    exact mul_bdP (each_bd ha ht) ⟨by omega, h1.2⟩
end Go.Proofs.YtaikfclgmkfooaaGreatDoor
