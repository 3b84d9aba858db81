/-
  Contracts of the functions of chapter 15: codes, what is paid for a day.
-/
import Derived.Test.YtldemcdocpdkfaaE5
set_option linter.unusedSimpArgs false
set_option linter.unusedVariables false
namespace Go.Proofs.Ytldemcdocpdkfaa
open Go.RowKit
/-- a list of numbers that was written out -/
theorem rd_lit (W : World) (cs : Array Value) (zs : List Int) (t : TypeId) (h : cs = (zs.map (Value.int .i64)).toArray) (n : Nat) (hn : zs.length = n) : RdI (W.alloc (.cells cs t)) (W.alloc (.cells cs t)).heap.size (some ⟨W.heap.size, 0, none⟩) n zs := by
  subst h
  refine ⟨hn, fun _ => ⟨_, rfl, by simp, fun i x hx j v hv => ?_⟩⟩
  have hj : j = 0 := by
    have := (List.getElem?_eq_some_iff.1 hv).1
    simpa [enI] using this
  subst hj
  simp only [enI, List.getElem?_cons_zero, Option.some.injEq] at hv
  subst hv
  have := (Blk.new W t (zs.map (Value.int .i64)).toArray).cell i
  rw [show (⟨W.heap.size, 0, none⟩ : Addr).add (i * 1 + 0) = ⟨W.heap.size, i, none⟩ from by unfold Addr.add; split <;> simp_all, this]
  simp [hx]
set_option maxHeartbeats 1000000 in
theorem iCk_any (A : Option Addr) (n c : Nat) (xs : List (Int × Int)) (w : World) (h : RdP w w.heap.size A n xs) (B : Option Addr) (m d : Nat) (zs : List Int) (hz : RdI w w.heap.size B m zs) (hm : n ≤ 1048576) (hmm : m ≤ 100) : Calls Try.prog 55 #[.slice A n c, .slice B m d] w fun ee w' => ee = .returned (.int .i64 (spC xs (zs.all (inR 0 100000)))) ∧ Below w.heap.size w w' := by
  have HA := Lib.hid (fun W hR => iAreS_any A n c xs W hR hm)
  have HI := Lib.hid (fun W hR => allIn_any B m d zs 0 100000 W hR (by unfold maxLen; omega))
  have H := Lib.hid h
  have HZ := Lib.hid hz
  have HQ : Hid (spC xs (zs.all (inR 0 100000)) = _) := rfl
  unfold spC
  clear h hz HQ
  generalize areS xs = b at *
  generalize zs.all (inR 0 100000) = b2 at *
  cases b <;> cases b2
  all_goals go_enter Try.func55, Try.ntmps55
  all_goals go_wp2_with (first | (go_at_call 16; (with_reducible refine Calls.mono (HA.out _ H.out) ?_); rintro ee w1 ⟨rfl, hb1⟩; have hB1 := bel_step (Below.refl _ _) hb1) | (go_at_call 69; (with_reducible refine Calls.mono (HI.out _ (HZ.out.later hB1)) ?_); rintro ee w2 ⟨rfl, hb2⟩; have hB2 := bel_step hB1 hb2))
  all_goals go_ret
  all_goals exact ⟨rfl, by first | exact hB2 | exact hB1⟩
set_option maxHeartbeats 1000000 in
theorem sCk_any (A : Option Addr) (n c : Nat) (xs : List (Int × Int)) (w : World) (h : RdP w w.heap.size A n xs) (t : Bool) (hm : n ≤ 1048576) : Calls Try.prog 53 #[.slice A n c, .bool t] w fun ee w' => ee = .returned (.int .i64 (spC xs t)) ∧ Below w.heap.size w w' := by
  have HA := Lib.hid (fun W hR => sAreS_any A n c xs W hR hm)
  have H := Lib.hid h
  unfold spC
  clear h
  generalize areS xs = b at *
  cases b <;> cases t
  all_goals go_enter Try.func53, Try.ntmps53
  all_goals go_wp2_with (first | (go_at_call 14; (with_reducible refine Calls.mono (HA.out _ H.out) ?_); rintro ee w1 ⟨rfl, hb1⟩; have hB1 := bel_step (Below.refl _ _) hb1))
  all_goals go_ret
  all_goals exact ⟨rfl, by first | exact hB1⟩
theorem payN_cases (r n : Int) : payN r n = if r ≤ 3 then 0 else if r ≤ 185 then n else if r ≤ 367 then n / 2 else 0 := rfl
set_option maxHeartbeats 1000000 in
theorem sPay_any (k r : Int) (w : World) (hk : 0 ≤ k ∧ k ≤ 3000000) (hr : 1 ≤ r ∧ r ≤ 100000) : Calls Try.prog 58 #[.int .i64 k, .int .i64 r] w fun ee w' => ee = .returned (.int .i64 (payN k r)) ∧ w = w' := by
  have HQ := Lib.hid (payN_cases k r)
  go_enter Try.func58, Try.ntmps58
  go_wp2
  all_goals go_ret
  all_goals exact ⟨by rw [HQ.out]; exact ret_int (by repeat' split
                                                     all_goals omega), rfl⟩
set_option maxHeartbeats 1000000 in
theorem iPayOn_any (A : Option Addr) (n c : Nat) (xs : List (Int × Int)) (w : World) (h : RdP w w.heap.size A n xs) (d r : Int) (hn : n ≤ 20) (hd : 0 ≤ d ∧ d ≤ 100000) (ha : areS xs = true) (hr : 1 ≤ r ∧ r ≤ 100000) : Calls Try.prog 60 #[.slice A n c, .int .i64 d, .int .i64 r] w fun ee w' => ee = .returned (.int .i64 (payN (numD xs d) r)) ∧ Below w.heap.size w w' := by
  have HG := Lib.hid (iNum_any A n c xs w h d hn hd ha)
  have HQ := Lib.hid (payN_cases (numD xs d) r)
  have hb := numD_bd ha d
  clear h ha
  generalize numD xs d = k at *
  go_enter Try.func60, Try.ntmps60
  go_wp2_with (first | (go_at_call 56; (with_reducible refine Calls.mono (HG.out) ?_); rintro ee w1 ⟨rfl, hb1⟩; have hB1 := bel_step (Below.refl _ _) hb1))
  all_goals go_ret
  all_goals exact ⟨by rw [HQ.out]; exact ret_int (by repeat' split
                                                     all_goals omega), hB1⟩
set_option maxHeartbeats 400000 in
theorem sRate_any (n : Int) (w : World) : Calls Try.prog 57 #[.int .i64 n] w fun ee w' => ee = .returned (.bool (inR 1 100000 n)) ∧ w = w' := by
  go_enter Try.func57, Try.ntmps57
  go_wp2_with (go_at_call 54; (with_reducible refine (sIn_any _ _ _ _).mono ?_); rintro ee w1 ⟨rfl, rfl⟩)
  go_ret
  exact ⟨rfl, rfl⟩
end Go.Proofs.Ytldemcdocpdkfaa
