/-
  The marks that a law writes into a list of spells which a call has made, and the test that they stand. Condition: fewer than 1000001 spells.
-/
import Derived.Test.YtldemcdocpdkfaaK5
set_option linter.unusedSimpArgs false
set_option linter.unusedVariables false
namespace Go.Proofs.Ytldemcdocpdkfaa
open Go.ChangeShapes Go.WideShapes Go.ChangeAt Go.RowKit
/-- the marks -/
def marksP (n : Nat) : List (Int × Int) := (List.range n).map fun i : Nat => (1 + 2 * (i : Int), 1 + 2 * (i : Int) + 1)
theorem marksP_len (n : Nat) : (marksP n).length = n := by simp [marksP]
theorem marksP_at {n k : Nat} (h : k < n) : (marksP n)[k]? = some (1 + 2 * (k : Int), 1 + 2 * (k : Int) + 1) := by simp [marksP, h]
theorem marksP_succ (k : Nat) : (marksP (k + 1)).flatMap enP = (marksP k).flatMap enP ++ [.int .i64 (1 + 2 * (k : Int)), .int .i64 (1 + 2 * (k : Int) + 1)] := by
  unfold marksP
  rw [List.range_succ, List.map_append, List.flatMap_append]
  rfl
set_option maxHeartbeats 1000000 in
theorem markP1 (base : Nat) (A : Option Addr) (n c : Nat) (zs : List (Int × Int)) (w : World) (h : OwP w base (.slice A n c) zs) (hn : n ≤ 1000000) :
    Calls Try.prog 25 #[.slice A n c, .int .i64 1] w fun e w' => e = .returned (.int .i64 (1 + 2 * (n : Int))) ∧ OwP w' base (.slice A n c) (marksP n) ∧ w.grownBy w' (Value.slice A n c).ownBlock := by
  obtain ⟨hz1, h2⟩ := h
  rcases h2 with ⟨h3, h4⟩ | ⟨g, cap, cur, hv, hbase, hb, h1, h2, h3, h4⟩
  · injection h3 with e1 e2 e3
    subst e1 e2 e3
    clear hz1 hn
    go_enter Try.func25, Try.ntmps25
    go_wp2
    refine wp_loop_rounds 1 ?_
    rw [rounds_succ]
    go_wp2
    go_ret
    exact ⟨rfl, World.ownsRow_nil _ _ _ _, World.grownBy.refl _ _⟩
  · injection hv with e1 e2 e3
    subst e1 e3
    have hnl : n = zs.length := e2
    have H0 : Hid (Blk w g 57 cur) := hb
    have HS := Lib.hid h3
    rw [← hnl] at h1
    clear hb h4 hz1 e2 h3 hnl
    unfold maxLen at h2
    go_enter Try.func25, Try.ntmps25
    go_wp2
    go_loopw [1, 5] (fun x i wr => ∃ k : Nat, k ≤ n ∧ i = .int .i64 k ∧ x = .int .i64 (1 + 2 * (k : Int)) ∧ w.grownBy wr (some g) ∧ ∃ cs : Array Value, cs.size = c * 2 ∧ Hid (Blk wr g 57 cs) ∧ Hid (cs.toList.take (2 * k) = (marksP k).flatMap enP)) (fun _ i _ => n - (intOf i).toNat)
    case atStart => exact ⟨0, Nat.zero_le _, rfl, rfl, World.grownBy.refl _ _, cur, HS.out, H0, by unfold Hid; simp [marksP]⟩
    case round =>
      obtain ⟨k, hk, rfl, rfl, hG, cs, hcs, HB, HL⟩ := hrel
      by_cases hlt : k < n
      · have g3 := HB.out.frozen (k * 2)
        have g4 := HB.out.frozen (k * 2 + 1)
        obtain ⟨v1, g1⟩ : ∃ v, wr.cell? ⟨g, k * 2, none⟩ = some v := ⟨_, (HB.out.cell _).trans (Array.getElem?_eq_getElem (by omega))⟩
        obtain ⟨v2, g2⟩ : ∃ v, wr.cell? ⟨g, k * 2 + 1, none⟩ = some v := ⟨_, (HB.out.cell _).trans (Array.getElem?_eq_getElem (by omega))⟩
        have HCS := Lib.hid hcs
        clear hcs
        go_wp2
        go_roundw
        case rel =>
          refine ⟨k + 1, by omega, by go_num, by first | go_num | (congr 1; omega), grownBy_store (grownBy_store hG _ _) _ _, _, by have := HCS.out; simpa using this, (HB.out.set_ _ _).set_ _ _, ?_⟩
          show List.take _ _ = _
          rw [take_set2 _ _ _ _ (by have := HCS.out; omega), HL.out, marksP_succ]
        case measure => simp [intOf]; omega
      · have hkn : k = n := by omega
        subst hkn
        have HCS := Lib.hid hcs
        clear hcs
        go_wp2
        go_ret
        refine ⟨rfl, ?_, hG⟩
        unfold OwP
        rw [marksP_len]
        refine ⟨by rw [flat_len, marksP_len], .inr ⟨g, c, cs, rfl, hbase, HB.out, h1, by unfold maxLen; omega, HCS.out, ?_⟩⟩
        rw [Nat.mul_comm]
        exact HL.out
set_option maxHeartbeats 1000000 in
theorem heldP1 (A : Option Addr) (n c B : Nat) (w : World) (h : RdP w B A n (marksP n)) (hn : n ≤ 1000000) :
    Calls Try.prog 42 #[.slice A n c, .int .i64 1] w fun e w' => e = .returned (.int .i64 (1 + 2 * (n : Int))) ∧ w = w' := by
  have H := Lib.hid h
  clear h
  go_enter Try.func42, Try.ntmps42
  go_wp2
  go_loopw [1, 5] (fun x i wr => ∃ k : Nat, k ≤ n ∧ i = .int .i64 k ∧ x = .int .i64 (1 + 2 * (k : Int)) ∧ w = wr) (fun _ i _ => n - (intOf i).toNat)
  case atStart => exact ⟨0, Nat.zero_le _, rfl, rfl, rfl⟩
  case round =>
    obtain ⟨k, hk, rfl, rfl, rfl⟩ := hrel
    by_cases hlt : k < n
    · obtain ⟨ad, f, t, rfl, hbk, hz, hx, hy⟩ := RdP.atP H.out hlt
      rw [marksP_at hlt] at hz
      injection hz with hz
      injection hz with z1 z2
      subst z1 z2
      go_wp2
      go_roundw
      case rel => exact ⟨k + 1, by omega, by go_num, by first | go_num | (congr 1; omega), by trivial⟩
      case measure => simp [intOf]; omega
    · have hkn : k = n := by omega
      subst hkn
      go_wp2
      go_ret
      exact ⟨rfl, rfl⟩
end Go.Proofs.Ytldemcdocpdkfaa
