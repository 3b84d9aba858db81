/-
  Contracts of the small functions that many statements reach: ranges, lists of numbers, searches.
-/
import Derived.Test.YtaikfclgmkfooaaGreatDoorProg
import Derived.Test.YtaikfclgmkfooaaGreatDoorW
import Derived.Shelf.Abstract
import Derived.Deep.QuietTactic
import Derived.BigQuiet
import Derived.Deep.RegionWith
import Derived.Deep.Cut
import Derived.Deep.CutRange
import Derived.Deep.CutBlock
import Derived.Deep.LoopGhost
import Derived.Deep.DeepFit
import Derived.Deep.DeepMust
set_option linter.unusedSimpArgs false
set_option linter.unusedVariables false
namespace Go.Proofs.YtaikfclgmkfooaaGreatDoor
open Go.RowKit

set_option maxHeartbeats 400000 in
theorem sIn_any (n lo hi : Int) (w : World) : Calls Tryz.prog 44 #[.int .i64 n, .int .i64 lo, .int .i64 hi] w fun e w' => e = .returned (.bool (inR lo hi n)) ∧ w = w' := by
  by_cases h : lo ≤ n
  · have h2 := Lib.hid (inR_t (hi := hi) (decide_eq_true h))
    go_enter Tryz.func44, Tryz.ntmps44
    go_wp2
    go_ret
    exact ⟨by rw [h2.out]; rfl, rfl⟩
  · have h2 := Lib.hid (inR_f (hi := hi) (decide_eq_false h))
    go_enter Tryz.func44, Tryz.ntmps44
    go_wp2
    go_ret
    exact ⟨by rw [h2.out]; rfl, rfl⟩
set_option maxHeartbeats 400000 in
theorem inRange_any (n lo hi : Int) (w : World) : Calls Tryz.prog 39 #[.int .i64 n, .int .i64 lo, .int .i64 hi] w fun e w' => e = .returned (.bool (inR lo hi n)) ∧ w = w' := by
  by_cases h : lo ≤ n
  · have h2 := Lib.hid (inR_t (hi := hi) (decide_eq_true h))
    go_enter Tryz.func39, Tryz.ntmps39
    go_wp2
    go_ret
    exact ⟨by rw [h2.out]; rfl, rfl⟩
  · have h2 := Lib.hid (inR_f (hi := hi) (decide_eq_false h))
    go_enter Tryz.func39, Tryz.ntmps39
    go_wp2
    go_ret
    exact ⟨by rw [h2.out]; rfl, rfl⟩
set_option maxHeartbeats 400000 in
theorem indexFunc_any (p : Int → Bool) (c : Nat) (caps : Array Value) (eg : ∀ args w, (callFunc c args).run Tryz.prog w = .ok (.enter c args) w) (A : Option Addr) (n cap : Nat) (zs : List Int) (w : World) (h : RdI w w.heap.size A n zs) (hn : n ≤ maxLen)
    (hp : ∀ z, Calls Tryz.prog c (#[.int .i64 z] ++ caps) w fun e w' => e = .returned (.bool (p z)) ∧ w = w') :
    Calls Tryz.prog 73 #[.slice A n cap, .func (.func c) #[] caps] w fun e w' => e = .returned (.int .i64 (firstI p zs)) ∧ w = w' := by
  have hl := Lib.hid h.len
  unfold maxLen at hn
  have HP := Lib.hid hp
  clear hp
  go_enter Tryz.func73, Tryz.ntmps73
  go_wp2
  go_loop [5, 8] (fun x i => ∃ k : Nat, k ≤ n ∧ i = .int .i64 k ∧ Hid (∀ j, j < k → ∀ y, zs[j]? = some y → p y = false)) (fun _ i => n - (intOf i).toNat)
  case atStart => exact ⟨0, Nat.zero_le _, rfl, fun j hj => by omega⟩
  case round =>
    obtain ⟨k, hk, rfl, HB⟩ := hrel
    by_cases hlt : k < n
    · obtain ⟨ad, z, rfl, hb, hz, hc⟩ := h.atI hlt
      have HC := HP.out z
      have HZ := Lib.hid hz
      clear hz h
      cases hq : p z with
      | true =>
        rw [hq] at HC
        have HQ := Lib.hid hq
        have HC := Lib.hid HC
        clear hq
        go_wp2_with (go_at_fn c; refine HC.out.mono ?_; rintro e w' ⟨rfl, rfl⟩)
        go_ret
        exact ⟨by rw [firstI_some HB.out HZ.out HQ.out]; rfl, rfl⟩
      | false =>
        rw [hq] at HC
        have HQ := Lib.hid hq
        have HC := Lib.hid HC
        clear hq
        go_wp2_with (go_at_fn c; refine HC.out.mono ?_; rintro e w' ⟨rfl, rfl⟩)
        go_round
        case rel => exact ⟨k + 1, by omega, by go_num, step_lt HB.out HZ.out HQ.out⟩
        case measure => simp [intOf]; omega
    · go_wp2
      go_ret
      exact ⟨by rw [firstI_none (fun j hj => HB.out j (by have := hl.out; omega))]; rfl, rfl⟩
set_option maxHeartbeats 400000 in
theorem containsFunc_any (p : Int → Bool) (c : Nat) (caps : Array Value) (eg : ∀ args w, (callFunc c args).run Tryz.prog w = .ok (.enter c args) w) (A : Option Addr) (n cap : Nat) (zs : List Int) (w : World) (h : RdI w w.heap.size A n zs) (hn : n ≤ maxLen)
    (hp : ∀ z, Calls Tryz.prog c (#[.int .i64 z] ++ caps) w fun e w' => e = .returned (.bool (p z)) ∧ w = w') :
    Calls Tryz.prog 55 #[.slice A n cap, .func (.func c) #[] caps] w fun e w' => e = .returned (.bool (zs.any p)) ∧ w = w' := by
  have H := Lib.hid (indexFunc_any p c caps eg A n cap zs w h hn hp)
  have HF := Lib.hid (firstI_ge p zs)
  clear h hp eg
  go_enter Tryz.func55, Tryz.ntmps55
  go_wp2_with (go_at_call 73; refine H.out.mono ?_; rintro e w' ⟨rfl, rfl⟩)
  go_ret
  exact ⟨by rw [← HF.out]; rfl, rfl⟩
theorem egAllIn : ∀ args w, (callFunc 56 args).run Tryz.prog w = .ok (.enter 56 args) w := fun _ _ => by kernel_rfl
set_option maxHeartbeats 400000 in
theorem allIn1_any (z lo hi : Int) (a b : Addr) (w : World) (ha : w.cell? a = some (.int .i64 lo)) (hb : w.cell? b = some (.int .i64 hi)) :
    Calls Tryz.prog 56 #[.int .i64 z, .pointer (some a), .pointer (some b)] w fun e w' => e = .returned (.bool (!inR lo hi z)) ∧ w = w' := by
  go_enter Tryz.func56, Tryz.ntmps56
  go_wp2_with (go_at_call 39; refine (inRange_any _ _ _ _).mono ?_; rintro e w' ⟨rfl, rfl⟩)
  go_ret
  exact ⟨rfl, rfl⟩
set_option maxHeartbeats 400000 in
theorem allIn_any (A : Option Addr) (n cap : Nat) (zs : List Int) (lo hi : Int) (w : World) (h : RdI w w.heap.size A n zs) (hn : n ≤ maxLen) :
    Calls Tryz.prog 40 #[.slice A n cap, .int .i64 lo, .int .i64 hi] w fun e w' => e = .returned (.bool (zs.all (inR lo hi))) ∧ Below w.heap.size w w' := by
  have HC := Lib.hid (fun W hW h1 h2 => containsFunc_any (fun z => !inR lo hi z) 56 #[.pointer (some ⟨w.heap.size, 0, none⟩), .pointer (some ⟨w.heap.size + 1, 0, none⟩)] egAllIn A n cap zs W hW hn (fun z => allIn1_any z lo hi ⟨w.heap.size, 0, none⟩ ⟨w.heap.size + 1, 0, none⟩ W h1 h2))
  have h2 := Lib.hid ((h.cur (.cells #[.int .i64 lo] 2)).cur (.cells #[.int .i64 hi] 2))
  have HA := Lib.hid (all_any (inR lo hi) zs)
  clear h
  go_enter Tryz.func40, Tryz.ntmps40
  go_wp2_with (go_at_call 55; refine (HC.out _ h2.out (by go_side) (by go_side)).mono ?_; rintro e w' ⟨rfl, rfl⟩)
  go_ret
  exact ⟨by rw [← HA.out]; rfl, by go_grown⟩
theorem within_end {zs : List Int} {lo hi : Int} {n : Nat} {most : Int} (h : ∀ j, j < zs.length → ∀ y, zs[j]? = some y → inR lo hi y = true) : (zs.all (inR lo hi) && decide ((n : Int) ≤ most)) = decide ((n : Int) ≤ most) := by
  rw [all_of_steps h, Bool.true_and]
theorem within_no {zs : List Int} {lo hi : Int} {n k : Nat} {most z : Int} (hz : zs[k]? = some z) (hp : inR lo hi z = false) : (zs.all (inR lo hi) && decide ((n : Int) ≤ most)) = false := by
  rw [all_no hz hp, Bool.false_and]
set_option maxHeartbeats 400000 in
theorem within_any (A : Option Addr) (n cap : Nat) (zs : List Int) (most lo hi : Int) (w : World) (h : RdI w w.heap.size A n zs) (hn : n ≤ maxLen) :
    Calls Tryz.prog 34 #[.slice A n cap, .int .i64 most, .int .i64 lo, .int .i64 hi] w fun e w' => e = .returned (.bool (zs.all (inR lo hi) && decide ((n : Int) ≤ most))) ∧ w = w' := by
  have hl := Lib.hid h.len
  unfold maxLen at hn
  go_enter Tryz.func34, Tryz.ntmps34
  go_wp2
  go_loop [9] (fun i => ∃ k : Nat, k ≤ n ∧ i = .int .i64 k ∧ Hid (∀ j, j < k → ∀ y, zs[j]? = some y → inR lo hi y = true)) (fun i => n - (intOf i).toNat)
  case atStart => exact ⟨0, Nat.zero_le _, rfl, fun j hj => by omega⟩
  case round =>
    obtain ⟨k, hk, rfl, HB⟩ := hrel
    by_cases hlt : k < n
    · obtain ⟨ad, z, rfl, hb, hz, hc⟩ := h.atI hlt
      have HZ := Lib.hid hz
      have HC := Lib.hid (fun W => sIn_any z lo hi W)
      clear h
      cases hq : inR lo hi z with
      | true =>
        rw [hq] at HC
        have HQ := Lib.hid hq
        clear hq hz
        go_wp2_with (go_at_call 44; refine (HC.out _).mono ?_; rintro e w' ⟨rfl, rfl⟩)
        go_round
        case rel => exact ⟨k + 1, by omega, by go_num, step_le HB.out HZ.out HQ.out⟩
        case measure => simp [intOf]; omega
      | false =>
        rw [hq] at HC
        have HQ := Lib.hid (within_no (n := n) (most := most) hz hq)
        clear hq hz
        go_wp2_with (go_at_call 44; refine (HC.out _).mono ?_; rintro e w' ⟨rfl, rfl⟩)
        go_ret
        exact ⟨by rw [HQ.out]; rfl, rfl⟩
    · have HE := Lib.hid (within_end (n := n) (most := most) (zs := zs) (lo := lo) (hi := hi) (fun j hj => HB.out j (by have := hl.out; omega)))
      go_wp2
      go_ret
      exact ⟨by rw [HE.out]; rfl, rfl⟩
end Go.Proofs.YtaikfclgmkfooaaGreatDoor
