/-
  Contracts of the program's LapsesIn, WorstArrears and RevivalCost, which hand functions to impl.balances. Conditions: the slice reads as xs; n at most 1048576.
-/
import Derived.Test.YtnklpdckclgilaaH16
set_option linter.unusedSimpArgs false
set_option linter.unusedVariables false
namespace Go.Proofs.Ytnklpdckclgilaa
open Go.RowKit
/-- block b is a variable that holds v -/
def Var (W : World) (b : Nat) (v : Int) : Prop := W.heap[b]? = some (.cells #[.int .i64 v] 2 (0, 0))
theorem Var.cell {W : World} {b : Nat} {v : Int} (h : Var W b v) : W.cell? ⟨b, 0, none⟩ = some (.int .i64 v) := cell_of_one h
theorem Var.free {W : World} {b : Nat} {v : Int} (h : Var W b v) : W.frozen? ⟨b, 0, none⟩ = false := free_of_one h
theorem Var.lt {W : World} {b : Nat} {v : Int} (h : Var W b v) : b < W.heap.size := (Array.getElem?_eq_some_iff.1 h).1
theorem Var.new (w : World) (v : Int) : Var (w.alloc (.cells #[.int .i64 v] 2)) w.heap.size v := heap_alloc_new w _
theorem Var.alloc {W : World} {b : Nat} {v : Int} (h : Var W b v) (o : Obj) : Var (W.alloc o) b v := (Below.heap_alloc W o b h.lt).trans h
theorem Var.below {W W' : World} {b B : Nat} {v : Int} (h : Var W b v) (hb : Below B W W') (hlt : b < B) : Var W' b v := (hb.block b hlt).trans h
theorem Var.set_ {W : World} {b : Nat} {v : Int} (h : Var W b v) (u : Int) : Var (W.setCell ⟨b, 0, none⟩ (.int .i64 u)) b u := one_setCell h
theorem Var.far {W : World} {b b' : Nat} {v : Int} (h : Var W b v) (hne : b ≠ b') (u : Value) : Var (W.setCell ⟨b', 0, none⟩ u) b v := (Below.heap_setCell W ⟨b', 0, none⟩ u b hne).trans h
theorem Var.later {W W' : World} {b : Nat} {v : Int} (h : Var W b v) (hb : Below W.heap.size W W') : Var W' b v := h.below hb h.lt
theorem egLap : ∀ args w, (callFunc 39 args).run Try.prog w = .ok (.enter 39 args) w := fun _ _ => by kernel_rfl
theorem lap1_t (mo bal cb l : Int) (b1 b2 : Nat) (W : World) (h1 : Var W b1 cb) (h2 : Var W b2 l) (hq : 6 * cb ≤ -bal) (hmo : 0 ≤ mo) (hb : -36000000000 ≤ bal ∧ bal ≤ 10000000000) (hc : 1 ≤ cb ∧ cb ≤ 1000000) :
    Calls Try.prog 39 #[.int .i64 mo, .int .i64 bal, .pointer (some ⟨b1, 0, none⟩), .pointer (some ⟨b2, 0, none⟩)] W fun e W' => e = .returned (.bool true) ∧ W' = W.setCell ⟨b2, 0, none⟩ (.int .i64 mo) := by
  have k1 := h1.cell
  have k2 := h2.cell
  have f2 := h2.free
  have H2 := Lib.hid ((h2.set_ mo).cell)
  have k3 := H2.out
  clear h1 h2
  go_enter Try.func39, Try.ntmps39
  go_wp2
  go_ret
  exact ⟨rfl, rfl⟩
theorem lap1_f (mo bal cb : Int) (b1 b2 : Nat) (W : World) (h1 : Var W b1 cb) (h2 : Var W b2 (-1)) (hq : ¬ 6 * cb ≤ -bal) (hb : -36000000000 ≤ bal ∧ bal ≤ 10000000000) (hc : 1 ≤ cb ∧ cb ≤ 1000000) :
    Calls Try.prog 39 #[.int .i64 mo, .int .i64 bal, .pointer (some ⟨b1, 0, none⟩), .pointer (some ⟨b2, 0, none⟩)] W fun e W' => e = .returned (.bool false) ∧ W = W' := by
  have k1 := h1.cell
  have k2 := h2.cell
  clear h1 h2
  go_enter Try.func39, Try.ntmps39
  go_wp2
  go_ret
  exact ⟨rfl, rfl⟩
def LapI (w : World) (b2 : Nat) (j cb : Int) (stop : Nat → Bool) (k : Nat) (W : World) : Prop := Below w.heap.size w W ∧ Var W w.heap.size cb ∧ ∃ l, Var W b2 l ∧ ((∀ i, i < k → stop i = false) → l = -1) ∧ (0 < k → stop (k - 1) = true → l = j + ((k - 1 : Nat) : Int))
theorem lapI_step {w : World} {b2 : Nat} {j cb m : Int} {xs : List (Int × Int)} (hb2 : w.heap.size < b2) (hj : inR 0 35999 j = true) (hc : inR 1 1000000 cb = true) (hmm : inR j 35999 m = true) (ha : areP j xs = true) {T : Nat} (hT : (T : Int) = m - j + 1) (k : Nat) (W : World) (hk : k < T) (hN : ∀ i, i < k → lapB j cb xs i = false) (hI : LapI w b2 j cb (lapB j cb xs) k W) :
    Calls Try.prog 39 (#[.int .i64 (j + (k : Int)), .int .i64 (balL j cb (j + (k : Int)) xs)] ++ #[.pointer (some ⟨w.heap.size, 0, none⟩), .pointer (some ⟨b2, 0, none⟩)]) W fun e W' => e = .returned (.bool (lapB j cb xs k)) ∧ LapI w b2 j cb (lapB j cb xs) (k + 1) W' := by
  obtain ⟨hB, hV, l, hl, hl1, hl2⟩ := hI
  have hmj := inR_iff.1 hmm
  have hjj := inR_iff.1 hj
  have hcc := inR_iff.1 hc
  have hbb := balL_bd (m := j + (k : Int)) hj hc (inR_iff.2 (by omega)) ha
  obtain rfl := hl1 hN
  have hA : (6 * cb ≤ arrL j cb (j + (k : Int)) xs) ↔ 6 * cb ≤ -(balL j cb (j + (k : Int)) xs) := by unfold arrL; split <;> omega
  by_cases hq : 6 * cb ≤ -(balL j cb (j + (k : Int)) xs)
  · have e : lapB j cb xs k = true := decide_eq_true (hA.2 hq)
    refine (lap1_t (j + (k : Int)) _ cb _ _ _ W hV hl hq (by omega) hbb hcc).mono fun ee W' ⟨h1, h2⟩ => ⟨by rw [e]; exact h1, ?_⟩
    subst h2
    refine ⟨hB.setCell (by simp; omega) _, hV.far (by omega) _, _, hl.set_ _, fun hh => ?_, fun _ _ => by simp⟩
    have := hh k (by omega)
    rw [e] at this
    cases this
  · have e : lapB j cb xs k = false := decide_eq_false (fun h => hq (hA.1 h))
    refine (lap1_f (j + (k : Int)) _ cb _ _ W hV hl hq hbb hcc).mono fun ee W' ⟨h1, h2⟩ => ⟨by rw [e]; exact h1, ?_⟩
    subst h2
    exact ⟨hB, hV, _, hl, fun _ => rfl, fun _ hh => by rw [Nat.add_sub_cancel, e] at hh; cases hh⟩
set_option maxHeartbeats 2000000 in
theorem iLapsesIn_any (j cb : Int) (A : Option Addr) (n c : Nat) (xs : List (Int × Int)) (m : Int) (w : World) (h : RdP w w.heap.size A n xs) (hm : n ≤ 1048576) : Calls Try.prog 11 #[.int .i64 j, .int .i64 cb, .slice A n c, .int .i64 m] w fun ee w' => ee = (.returned (.tuple #[.int .i64 (lapV j cb m xs), .int .i64 (lapC j cb m xs)])) ∧ Below w.heap.size w w' := by
  have H1 := fun W hR => iMem_any j cb A n c xs m W hR hm
  have H0 := Lib.hid (h.cur (.cells #[.int .i64 cb] 2))
  have HV0 := Lib.hid (Var.new w cb)
  have hmf : ∀ (fn : Fn) (first cap : Array Value) (w : World), (Instr.makeFunc fn first cap).run Try.prog w = .ok (.func fn first cap) w := fun _ _ _ _ => rfl
  by_cases h0 : memC j cb m xs = 0
  · rcases memC_cases j cb m xs with ⟨_, hj, hc, hmm, ha⟩ | h9 | h9
    · rw [h0] at H1
      have H1 := Lib.hid H1
      have H := Lib.hid h
      have HL0 := Lib.hid (fun hh => (lap_none h0 hh : Hid (lapV j cb m xs = 0 ∧ lapC j cb m xs = 4)))
      have HL1 := Lib.hid (fun (k : Nat) hk hb hp => (lap_some h0 (k := k) hk hb hp : Hid (lapV j cb m xs = j + (k : Int) ∧ lapC j cb m xs = 0)))
      have hj' := inR_iff.1 hj
      have hmj := inR_iff.1 hmm
      have hT : (monN j m : Int) = m - j + 1 := by unfold monN; omega
      have HBal := Lib.hid (fun b2 (hb2 : w.heap.size < b2) W (hI : LapI w b2 j cb (lapB j cb xs) 0 W) => balances_any (LapI w b2 j cb (lapB j cb xs)) (lapB j cb xs) w.heap.size 39 #[.pointer (some ⟨w.heap.size, 0, none⟩), .pointer (some ⟨b2, 0, none⟩)] egLap j cb m A n c xs W (monN j m) hT hj hc hmm ha hI (fun k W hI => h.below hI.1) (fun k W hk hN hI => lapI_step hb2 hj hc hmm ha hT k W hk hN hI))
      generalize monN j m = T at *
      clear h h0 hj hc hmm ha
      go_enter Try.func11, Try.ntmps11
      go_wp2_with (go_at_call 37; (with_reducible refine Calls.mono (H1.out _ H0.out) ?_); rintro ee w1 ⟨rfl, hb1⟩; have hB1 := bel_step (w := w) (by go_grown) hb1; have hV1 := Lib.hid (HV0.out.later hb1); have hlt1 := hV1.out.lt; have kc := hV1.out.cell)
      have hI0 : LapI w w1.heap.size j cb (lapB j cb xs) 0 (w1.alloc (.cells #[.int .i64 (-1)] 2)) := ⟨hB1.alloc hB1.size _, hV1.out.alloc _, _, Var.new _ _, fun _ => rfl, fun hh => by omega⟩
      refine Calls.mono (HBal.out _ hlt1 _ hI0) ?_
      rintro ee w2 ⟨rfl, k, hk, ⟨hB2, _, l, hl, hl1, hl2⟩, hcase⟩
      have kl := hl.cell
      have HI := Lib.hid (And.intro hl1 hl2)
      clear hl hl1 hl2 hI0 HBal kc
      rcases hcase with ⟨rfl, hN⟩ | ⟨hk0, hs, hN⟩
      · have hl1 := HI.out.1 hN
        have HF := HL0.out hN
        subst hl1
        clear hN
        go_wp2
        go_returns
        exact ⟨by rw [HF.out.1, HF.out.2]; rfl, hB2⟩
      · have hl2 := HI.out.2 hk0 hs
        have HF := HL1.out (k - 1) (by omega) hN hs
        have hpos : 0 ≤ j + ((k - 1 : Nat) : Int) := by omega
        clear hN hs
        generalize j + ((k - 1 : Nat) : Int) = z at *
        subst hl2
        go_wp2
        go_returns
        exact ⟨by rw [HF.out.1, HF.out.2]; rfl, hB2⟩
    · rw [h0] at h9; cases h9
    · rw [h0] at h9; cases h9
  · have HF := lap_code h0
    have h0' : (memC j cb m xs != 0) = true := by simpa using h0
    generalize memC j cb m xs = kc at *
    have H1 := Lib.hid H1
    clear h0 h
    go_enter Try.func11, Try.ntmps11
    go_wp2_with (go_at_call 37; (with_reducible refine Calls.mono (H1.out _ H0.out) ?_); rintro ee w1 ⟨rfl, hb1⟩; have hB1 := bel_step (w := w) (by go_grown) hb1)
    go_returns
    exact ⟨by rw [HF.out.1, HF.out.2]; rfl, hB1⟩
theorem egWor : ∀ args w, (callFunc 41 args).run Try.prog w = .ok (.enter 41 args) w := fun _ _ => by kernel_rfl
def maxN (bal : Int) : Int := if bal ≤ 0 then -bal else 0
theorem maxN_bd {bal : Int} (hb : -36000000000 ≤ bal ∧ bal ≤ 10000000000) : 0 ≤ maxN bal ∧ maxN bal ≤ 36000000000 := by unfold maxN; split <;> omega
theorem wor1_t (mo bal u v : Int) (b1 b2 : Nat) (W : World) (h1 : Var W b1 u) (h2 : Var W b2 v) (hne : b1 ≠ b2) (hq : u < maxN bal) (hb : -36000000000 ≤ bal ∧ bal ≤ 10000000000) (hu : -1 ≤ u ∧ u ≤ 36000000000) :
    Calls Try.prog 41 #[.int .i64 mo, .int .i64 bal, .pointer (some ⟨b1, 0, none⟩), .pointer (some ⟨b2, 0, none⟩)] W fun e W' => e = .returned (.bool false) ∧ W' = (W.setCell ⟨b1, 0, none⟩ (.int .i64 (maxN bal))).setCell ⟨b2, 0, none⟩ (.int .i64 mo) := by
  have k1 := h1.cell
  have k2 := h2.cell
  have f1 := h1.free
  have f2 := h2.free
  have k3 : ∀ x : Value, (W.setCell ⟨b1, 0, none⟩ x).cell? ⟨b2, 0, none⟩ = some (.int .i64 v) := fun x => (h2.far (fun e => hne e.symm) x).cell
  have f3 : ∀ x : Value, (W.setCell ⟨b1, 0, none⟩ x).frozen? ⟨b2, 0, none⟩ = false := fun x => (h2.far (fun e => hne e.symm) x).free
  clear h1 h2
  by_cases h0 : bal ≤ 0
  · have e : maxN bal = -bal := if_pos h0
    rw [e] at hq ⊢
    clear e
    go_enter Try.func41, Try.ntmps41
    go_wp2
    all_goals go_ret
    all_goals first | exact ⟨rfl, rfl⟩ | (exfalso; omega) | (refine ⟨rfl, ?_⟩; rw [show -bal = 0 by omega])
  · have e : maxN bal = 0 := if_neg h0
    rw [e] at hq ⊢
    clear e
    go_enter Try.func41, Try.ntmps41
    go_wp2
    all_goals go_ret
    all_goals first | exact ⟨rfl, rfl⟩ | (exfalso; omega) | (refine ⟨rfl, ?_⟩; rw [show -bal = 0 by omega])
theorem wor1_f (mo bal u v : Int) (b1 b2 : Nat) (W : World) (h1 : Var W b1 u) (h2 : Var W b2 v) (hq : ¬ u < maxN bal) (hb : -36000000000 ≤ bal ∧ bal ≤ 10000000000) (hu : -1 ≤ u ∧ u ≤ 36000000000) :
    Calls Try.prog 41 #[.int .i64 mo, .int .i64 bal, .pointer (some ⟨b1, 0, none⟩), .pointer (some ⟨b2, 0, none⟩)] W fun e W' => e = .returned (.bool false) ∧ W = W' := by
  have k1 := h1.cell
  have k2 := h2.cell
  clear h1 h2
  by_cases h0 : bal ≤ 0
  · have e : maxN bal = -bal := if_pos h0
    rw [e] at hq
    clear e
    go_enter Try.func41, Try.ntmps41
    go_wp2
    all_goals go_ret
    all_goals exact ⟨rfl, rfl⟩
  · have e : maxN bal = 0 := if_neg h0
    rw [e] at hq
    clear e
    go_enter Try.func41, Try.ntmps41
    go_wp2
    all_goals go_ret
    all_goals exact ⟨rfl, rfl⟩
def WorI (w : World) (b1 b2 : Nat) (j cb : Int) (xs : List (Int × Int)) (k : Nat) (W : World) : Prop := Below w.heap.size w W ∧ Var W b1 (worF j cb xs 0 k).1 ∧ Var W b2 (worF j cb xs 0 k).2
theorem worI_step {w : World} {b1 b2 : Nat} {j cb m : Int} {xs : List (Int × Int)} (hb1 : w.heap.size ≤ b1) (hb2 : w.heap.size ≤ b2) (hne : b1 ≠ b2) (hj : inR 0 35999 j = true) (hc : inR 1 1000000 cb = true) (hmm : inR j 35999 m = true) (ha : areP j xs = true) {T : Nat} (hT : (T : Int) = m - j + 1) (k : Nat) (W : World) (hk : k < T) (hI : WorI w b1 b2 j cb xs k W) :
    Calls Try.prog 41 (#[.int .i64 (j + (k : Int)), .int .i64 (balL j cb (j + (k : Int)) xs)] ++ #[.pointer (some ⟨b1, 0, none⟩), .pointer (some ⟨b2, 0, none⟩)]) W fun e W' => e = .returned (.bool false) ∧ WorI w b1 b2 j cb xs (k + 1) W' := by
  obtain ⟨hB, h1, h2⟩ := hI
  have hmj := inR_iff.1 hmm
  have hjj := inR_iff.1 hj
  have hbb := balL_bd (m := j + (k : Int)) hj hc (inR_iff.2 (by omega)) ha
  have hwb := worF_bd (s := 0) hj hc hmm ha k (by omega)
  have hA : maxN (balL j cb (j + (k : Int)) xs) = arrL j cb (j + (k : Int)) xs := rfl
  have hS : worF j cb xs 0 (k + 1) = if (worF j cb xs 0 k).1 < arrL j cb (j + (k : Int)) xs then (arrL j cb (j + (k : Int)) xs, j + (k : Int)) else worF j cb xs 0 k := rfl
  by_cases hq : (worF j cb xs 0 k).1 < maxN (balL j cb (j + (k : Int)) xs)
  · rw [if_pos (show (worF j cb xs 0 k).1 < arrL j cb (j + (k : Int)) xs from by rw [← hA]; exact hq)] at hS
    refine (wor1_t (j + (k : Int)) _ _ _ _ _ W h1 h2 hne hq hbb hwb).mono fun ee W' ⟨e1, e2⟩ => ⟨e1, ?_⟩
    subst e2
    unfold WorI
    rw [hS, hA]
    exact ⟨(hB.setCell hb1 _).setCell hb2 _, (h1.set_ _).far hne _, (h2.far hne.symm _).set_ _⟩
  · rw [if_neg (show ¬ (worF j cb xs 0 k).1 < arrL j cb (j + (k : Int)) xs from by rw [← hA]; exact hq)] at hS
    refine (wor1_f (j + (k : Int)) _ _ _ _ _ W h1 h2 hq hbb hwb).mono fun ee W' ⟨e1, e2⟩ => ⟨e1, ?_⟩
    subst e2
    unfold WorI
    rw [hS]
    exact ⟨hB, h1, h2⟩
set_option maxHeartbeats 2000000 in
theorem iWorstArrears_any (j cb : Int) (A : Option Addr) (n c : Nat) (xs : List (Int × Int)) (m : Int) (w : World) (h : RdP w w.heap.size A n xs) (hm : n ≤ 1048576) : Calls Try.prog 14 #[.int .i64 j, .int .i64 cb, .slice A n c, .int .i64 m] w fun ee w' => ee = (.returned (.tuple #[.int .i64 (worV j cb m xs), .int .i64 (worM j cb m xs), .int .i64 (memC j cb m xs)])) ∧ Below w.heap.size w w' := by
  have H1 := iMem_any j cb A n c xs m w h hm
  have hmf : ∀ (fn : Fn) (first cap : Array Value) (w : World), (Instr.makeFunc fn first cap).run Try.prog w = .ok (.func fn first cap) w := fun _ _ _ _ => rfl
  by_cases h0 : memC j cb m xs = 0
  · rcases memC_cases j cb m xs with ⟨_, hj, hc, hmm, ha⟩ | h9 | h9
    · have hmj := inR_iff.1 hmm
      have hT : (monN j m : Int) = m - j + 1 := by unfold monN; omega
      have HF : Hid (worV j cb m xs = (worF j cb xs 0 (monN j m)).1 ∧ worM j cb m xs = (worF j cb xs 0 (monN j m)).2) := by
        show _ ∧ _
        unfold worV worM
        rw [if_pos h0, if_pos h0, worF_start hj hc hmm ha j 0 (monN j m) (by omega)]
        exact ⟨rfl, rfl⟩
      rw [h0] at H1 ⊢
      have H1 := Lib.hid H1
      have HBal := Lib.hid (fun b1 b2 (h1 : w.heap.size ≤ b1) (h2 : w.heap.size ≤ b2) (hne : b1 ≠ b2) W (hI : WorI w b1 b2 j cb xs 0 W) => balances_any (WorI w b1 b2 j cb xs) (fun _ => false) w.heap.size 41 #[.pointer (some ⟨b1, 0, none⟩), .pointer (some ⟨b2, 0, none⟩)] egWor j cb m A n c xs W (monN j m) hT hj hc hmm ha hI (fun k W hI => h.below hI.1) (fun k W hk _ hI => worI_step h1 h2 hne hj hc hmm ha hT k W hk hI))
      generalize monN j m = T at *
      clear h h0 hj hc hmm ha
      go_enter Try.func14, Try.ntmps14
      go_wp2_with (go_at_call 37; (with_reducible refine Calls.mono H1.out ?_); rintro ee w1 ⟨rfl, hb1⟩; have hz1 := hb1.size)
      have hV1 : Var ((w1.alloc (.cells #[.int .i64 (-1)] 2)).alloc (.cells #[.int .i64 0] 2)) w1.heap.size (-1) := (Var.new _ _).alloc _
      have hV2 : Var ((w1.alloc (.cells #[.int .i64 (-1)] 2)).alloc (.cells #[.int .i64 0] 2)) (w1.heap.size + 1) 0 := by have := Var.new (w1.alloc (.cells #[.int .i64 (-1)] 2)) 0; simpa using this
      have hI0 : WorI w w1.heap.size (w1.heap.size + 1) j cb xs 0 ((w1.alloc (.cells #[.int .i64 (-1)] 2)).alloc (.cells #[.int .i64 0] 2)) := ⟨by go_grown, hV1, hV2⟩
      refine Calls.mono (HBal.out _ _ hz1 (by omega) (by omega) _ hI0) ?_
      rintro ee w2 ⟨rfl, k, hk, ⟨hB2, hl1, hl2⟩, hcase⟩
      have hkT : k = T := by
        rcases hcase with ⟨h9, _⟩ | ⟨_, h9, _⟩
        · exact h9
        · cases h9
      subst hkT
      have kl1 := hl1.cell
      have kl2 := hl2.cell
      generalize (worF j cb xs 0 k).1 = u at *
      generalize (worF j cb xs 0 k).2 = v at *
      clear hl1 hl2 hI0 HBal hcase hV1 hV2
      go_wp2_with fail
      go_quiet (fail)
      go_wp2
      go_returns
      exact ⟨by rw [HF.out.1, HF.out.2]; rfl, by first | exact below_drewN hB2 _ | exact hB2⟩
    · rw [h0] at h9; cases h9
    · rw [h0] at h9; cases h9
  · have HF : Hid (worV j cb m xs = 0 ∧ worM j cb m xs = 0) := by show _ ∧ _; unfold worV worM; rw [if_neg h0, if_neg h0]; exact ⟨rfl, rfl⟩
    have h0' : (memC j cb m xs != 0) = true := by simpa using h0
    rw [HF.out.1, HF.out.2]
    generalize memC j cb m xs = kc at *
    have H1 := Lib.hid H1
    clear h0 h
    go_enter Try.func14, Try.ntmps14
    go_wp2_with (go_at_call 37; (with_reducible refine Calls.mono H1.out ?_); rintro ee w1 ⟨rfl, hb1⟩)
    go_returns
    exact ⟨rfl, hb1⟩
theorem egRev : ∀ args w, (callFunc 45 args).run Try.prog w = .ok (.enter 45 args) w := fun _ _ => by kernel_rfl
def revA (mo m a r : Int) : Int := if mo < m then upD (a * r) 1000 else a
theorem revA_t {mo m a r : Int} (h : mo < m) : revA mo m a r = upD (a * r) 1000 := if_pos h
theorem revA_f {mo m a r : Int} (h : ¬ mo < m) : revA mo m a r = a := if_neg h
set_option maxHeartbeats 1000000 in
theorem rev1_any (mo bal m r u : Int) (b1 b2 b3 : Nat) (W : World) (h1 : Var W b1 m) (h2 : Var W b2 r) (h3 : Var W b3 u) (hb : -36000000000 ≤ bal ∧ bal ≤ 10000000000) (hr : 0 ≤ r ∧ r ≤ 100) (hu : 0 ≤ u ∧ u ≤ 4000000000000000000) :
    Calls Try.prog 45 #[.int .i64 mo, .int .i64 bal, .pointer (some ⟨b1, 0, none⟩), .pointer (some ⟨b2, 0, none⟩), .pointer (some ⟨b3, 0, none⟩)] W fun e W' => e = .returned (.bool false) ∧ W' = W.setCell ⟨b3, 0, none⟩ (.int .i64 (u + revA mo m (maxN bal) r)) := by
  have k1 := h1.cell
  have k2 := h2.cell
  have k3 := h3.cell
  have f3 := h3.free
  clear h1 h2 h3
  have hA := maxN_bd hb
  have hpr := arr_rate hA hr
  have hub := upD_bd hpr.1
  have HU := fun W => iUp_any (maxN bal * r) 1000 W (by omega) (by omega)
  have HR1 := Lib.hid (fun h => revA_t (mo := mo) (m := m) (a := maxN bal) (r := r) h)
  have HR2 := Lib.hid (fun h => revA_f (mo := mo) (m := m) (a := maxN bal) (r := r) h)
  by_cases h0 : bal < 0
  · have e : maxN bal = -bal := if_pos (by omega)
    rw [e] at HU HR1 HR2 hub hpr ⊢
    clear e hA
    generalize upD (-bal * r) 1000 = q at *
    by_cases hq : mo < m
    all_goals
      replace HU := Lib.hid HU
      go_enter Try.func45, Try.ntmps45
      go_wp2_with (go_at_call 46; (with_reducible refine Calls.mono (HU.out _) ?_); rintro ee w5 ⟨rfl, rfl⟩)
      all_goals go_ret
      all_goals refine ⟨rfl, ?_⟩
      all_goals first | (rw [HR1.out hq, Int.add_zero]; done) | (rw [HR2.out hq, Int.add_zero]; done) | rw [HR1.out hq] | rw [HR2.out hq]
  · have e : maxN bal = 0 := by unfold maxN; split <;> omega
    rw [e] at HU HR1 HR2 hub hpr ⊢
    clear e hA
    have ez : upD (0 * r) 1000 = 0 := by rw [Int.zero_mul]; rfl
    rw [ez] at HU HR1
    rw [Int.zero_mul] at HU
    clear ez hub hpr
    by_cases hq : mo < m
    all_goals
      replace HU := Lib.hid HU
      go_enter Try.func45, Try.ntmps45
      go_wp2_with (go_at_call 46; (with_reducible refine Calls.mono (HU.out _) ?_); rintro ee w5 ⟨rfl, rfl⟩)
      all_goals go_ret
      all_goals refine ⟨rfl, ?_⟩
      all_goals first | (rw [HR1.out hq, Int.add_zero]; done) | (rw [HR2.out hq, Int.add_zero]; done) | rw [HR1.out hq] | rw [HR2.out hq]
def revS (j cb m : Int) (xs : List (Int × Int)) (r : Int) (k : Nat) : Int := if j + (k : Int) ≤ m then revF j cb xs r k else revF j cb xs r (m - j).toNat + arrL j cb m xs
theorem revS_step {j cb m r : Int} {xs : List (Int × Int)} {k : Nat} (hk : j + (k : Int) ≤ m) : revS j cb m xs r (k + 1) = revS j cb m xs r k + revA (j + (k : Int)) m (arrL j cb (j + (k : Int)) xs) r := by
  unfold revS
  rw [if_pos hk]
  by_cases h : j + (k : Int) < m
  · rw [if_pos (by omega), revA_t h]
    rfl
  · have e : j + (k : Int) = m := by omega
    rw [if_neg (by omega), revA_f h, e, show (m - j).toNat = k by omega]
theorem revS_bd {j cb m r : Int} {xs : List (Int × Int)} (h1 : inR 0 35999 j = true) (h2 : inR 1 1000000 cb = true) (h3 : inR j 35999 m = true) (h4 : areP j xs = true) (hr : 0 ≤ r ∧ r ≤ 100) (k : Nat) (hk : j + (k : Int) ≤ m + 1) : 0 ≤ revS j cb m xs r k ∧ revS j cb m xs r k ≤ 1000000000000000000 := by
  have hj := inR_iff.1 h1
  have hm := inR_iff.1 h3
  unfold revS
  split
  · have := revF_bd h1 h2 h3 h4 hr k hk
    omega
  · have := revF_bd h1 h2 h3 h4 hr (m - j).toNat (by omega)
    have := arrL_bd h1 h2 h3 h4
    omega
def RevI (w : World) (b3 : Nat) (j cb m r : Int) (xs : List (Int × Int)) (k : Nat) (W : World) : Prop := Below w.heap.size w W ∧ Var W w.heap.size m ∧ Var W (w.heap.size + 1) r ∧ Var W b3 (revS j cb m xs r k)
theorem revI_step {w : World} {b3 : Nat} {j cb m r : Int} {xs : List (Int × Int)} (hb3 : w.heap.size + 1 < b3) (hj : inR 0 35999 j = true) (hc : inR 1 1000000 cb = true) (hmm : inR j 35999 m = true) (ha : areP j xs = true) (hr : 0 ≤ r ∧ r ≤ 100) {T : Nat} (hT : (T : Int) = m - j + 1) (k : Nat) (W : World) (hk : k < T) (hI : RevI w b3 j cb m r xs k W) :
    Calls Try.prog 45 (#[.int .i64 (j + (k : Int)), .int .i64 (balL j cb (j + (k : Int)) xs)] ++ #[.pointer (some ⟨w.heap.size, 0, none⟩), .pointer (some ⟨w.heap.size + 1, 0, none⟩), .pointer (some ⟨b3, 0, none⟩)]) W fun e W' => e = .returned (.bool false) ∧ RevI w b3 j cb m r xs (k + 1) W' := by
  obtain ⟨hB, h1, h2, h3⟩ := hI
  have hmj := inR_iff.1 hmm
  have hjj := inR_iff.1 hj
  have hbb := balL_bd (m := j + (k : Int)) hj hc (inR_iff.2 (by omega)) ha
  have hsb := revS_bd hj hc hmm ha hr k (by omega)
  refine (rev1_any (j + (k : Int)) _ _ _ _ _ _ _ W h1 h2 h3 hbb hr (by omega)).mono fun ee W' ⟨e1, e2⟩ => ⟨e1, ?_⟩
  subst e2
  unfold RevI
  rw [revS_step (by omega)]
  exact ⟨hB.setCell (by simp; omega) _, h1.far (by omega) _, h2.far (by omega) _, h3.set_ _⟩
set_option maxHeartbeats 2000000 in
theorem iRevivalCost_any (j cb : Int) (A : Option Addr) (n c : Nat) (xs : List (Int × Int)) (m : Int) (r : Int) (w : World) (h : RdP w w.heap.size A n xs) (hm : n ≤ 1048576) : Calls Try.prog 16 #[.int .i64 j, .int .i64 cb, .slice A n c, .int .i64 m, .int .i64 r] w fun ee w' => ee = (.returned (.tuple #[.int .i64 (revV j cb m xs r), .int .i64 (revC j cb m xs r)])) ∧ Below w.heap.size w w' := by
  have H1 := fun W hR => iMem_any j cb A n c xs m W hR hm
  have H0 := Lib.hid ((h.cur (.cells #[.int .i64 m] 2)).cur (.cells #[.int .i64 r] 2))
  have HV0 := Lib.hid ((Var.new w m).alloc (.cells #[.int .i64 r] 2))
  have HV1 : Hid (Var ((w.alloc (.cells #[.int .i64 m] 2)).alloc (.cells #[.int .i64 r] 2)) (w.heap.size + 1) r) := Lib.hid (by have := Var.new (w.alloc (.cells #[.int .i64 m] 2)) r; simpa using this)
  have HIn := fun W => inRange_any r 0 100 W
  have hmf : ∀ (fn : Fn) (first cap : Array Value) (w : World), (Instr.makeFunc fn first cap).run Try.prog w = .ok (.func fn first cap) w := fun _ _ _ _ => rfl
  rcases revC_cases j cb m xs r with ⟨hC, h0, hr, hj, hc, hmm, ha⟩ | ⟨hr, hC⟩ | ⟨hr, hC, h0⟩
  · have HF : Hid (revV j cb m xs r = revS j cb m xs r (monN j m)) := by
      show _ = _
      have := inR_iff.1 hmm
      unfold revV revS
      rw [if_pos hC, if_neg (by unfold monN; omega)]
      omega
    rw [h0] at H1
    rw [hr] at HIn
    rw [hC]
    replace H1 := Lib.hid H1
    replace HIn := Lib.hid HIn
    have hr' := inR_iff.1 hr
    have hmj := inR_iff.1 hmm
    have hj' := inR_iff.1 hj
    have hT : (monN j m : Int) = m - j + 1 := by unfold monN; omega
    have HBal := Lib.hid (fun b3 (hb3 : w.heap.size + 1 < b3) W (hI : RevI w b3 j cb m r xs 0 W) => balances_any (RevI w b3 j cb m r xs) (fun _ => false) w.heap.size 45 #[.pointer (some ⟨w.heap.size, 0, none⟩), .pointer (some ⟨w.heap.size + 1, 0, none⟩), .pointer (some ⟨b3, 0, none⟩)] egRev j cb m A n c xs W (monN j m) hT hj hc hmm ha hI (fun k W hI => h.below hI.1) (fun k W hk _ hI => revI_step hb3 hj hc hmm ha hr' hT k W hk hI))
    have e0 : revS j cb m xs r 0 = 0 := by unfold revS; rw [if_pos (by omega)]; rfl
    generalize monN j m = T at *
    clear h h0 hj hc hmm ha hr hC
    go_enter Try.func16, Try.ntmps16
    go_wp2_with (first | (go_at_call 37; (with_reducible refine Calls.mono (H1.out _ H0.out) ?_); rintro ee w1 ⟨rfl, hb1⟩; have hB1 := bel_step (w := w) (by go_grown) hb1; have hV1 := Lib.hid (HV0.out.later hb1); have hV2 := Lib.hid (HV1.out.later hb1); have hlt1 := hV2.out.lt; have hlt0 : w.heap.size < w1.heap.size := (by omega); have kc := hV1.out.cell; have kc2 := hV2.out.cell) | (go_at_call 44; (with_reducible refine Calls.mono (HIn.out _) ?_); rintro ee w2 ⟨rfl, rfl⟩))
    have hI0 : RevI w w1.heap.size j cb m r xs 0 (w1.alloc (.cells #[.int .i64 0] 2)) := ⟨hB1.alloc hB1.size _, hV1.out.alloc _, hV2.out.alloc _, by rw [e0]; exact Var.new _ _⟩
    refine Calls.mono (HBal.out _ hlt1 _ hI0) ?_
    rintro ee w2 ⟨rfl, k, hk, ⟨hB2, _, _, hl⟩, hcase⟩
    have hkT : k = T := by
      rcases hcase with ⟨h9, _⟩ | ⟨_, h9, _⟩
      · exact h9
      · cases h9
    subst hkT
    have kl := hl.cell
    generalize revS j cb m xs r k = u at *
    clear hl hI0 HBal hcase kc kc2 e0
    go_wp2
    go_returns
    exact ⟨by rw [HF.out]; rfl, hB2⟩
  · have HF : Hid (revV j cb m xs r = 0) := by show _ = _; unfold revV; rw [if_neg (by rw [hC]; decide)]
    rw [hC, HF.out]
    rw [hr] at HIn
    clear hC h HF
    by_cases hk2 : memC j cb m xs = 2
    · rw [hk2] at H1
      replace H1 := Lib.hid H1
      replace HIn := Lib.hid HIn
      clear hk2 hr
      go_enter Try.func16, Try.ntmps16
      go_wp2_with (first | (go_at_call 37; (with_reducible refine Calls.mono (H1.out _ H0.out) ?_); rintro ee w1 ⟨rfl, hb1⟩; have hB1 := bel_step (w := w) (by go_grown) hb1; have hV1 := Lib.hid (HV0.out.later hb1); have hV2 := Lib.hid (HV1.out.later hb1); have hlt1 := hV2.out.lt; have hlt0 : w.heap.size < w1.heap.size := (by omega); have kc := hV1.out.cell; have kc2 := hV2.out.cell) | (go_at_call 44; (with_reducible refine Calls.mono (HIn.out _) ?_); rintro ee w2 ⟨rfl, rfl⟩))
      go_returns
      exact ⟨rfl, hB1⟩
    · have hk3 : (memC j cb m xs == 2) = false := by simpa using hk2
      generalize memC j cb m xs = kc at *
      replace H1 := Lib.hid H1
      replace HIn := Lib.hid HIn
      clear hk2 hr
      go_enter Try.func16, Try.ntmps16
      go_wp2_with (first | (go_at_call 37; (with_reducible refine Calls.mono (H1.out _ H0.out) ?_); rintro ee w1 ⟨rfl, hb1⟩; have hB1 := bel_step (w := w) (by go_grown) hb1; have hV1 := Lib.hid (HV0.out.later hb1); have hV2 := Lib.hid (HV1.out.later hb1); have hlt1 := hV2.out.lt; have hlt0 : w.heap.size < w1.heap.size := (by omega); have kc := hV1.out.cell; have kc2 := hV2.out.cell) | (go_at_call 44; (with_reducible refine Calls.mono (HIn.out _) ?_); rintro ee w2 ⟨rfl, rfl⟩))
      go_returns
      exact ⟨rfl, hB1⟩
  · have HF : Hid (revV j cb m xs r = 0) := by show _ = _; unfold revV; rw [if_neg (by rw [hC]; exact h0)]
    rw [hC, HF.out]
    rw [hr] at HIn
    clear hC HF h
    rcases memC_cases j cb m xs with ⟨h9, _⟩ | h9 | h9
    · exact absurd h9 h0
    · rw [h9] at H1 ⊢
      replace H1 := Lib.hid H1
      replace HIn := Lib.hid HIn
      clear h9 hr h0
      go_enter Try.func16, Try.ntmps16
      go_wp2_with (first | (go_at_call 37; (with_reducible refine Calls.mono (H1.out _ H0.out) ?_); rintro ee w1 ⟨rfl, hb1⟩; have hB1 := bel_step (w := w) (by go_grown) hb1; have hV1 := Lib.hid (HV0.out.later hb1); have hV2 := Lib.hid (HV1.out.later hb1); have hlt1 := hV2.out.lt; have hlt0 : w.heap.size < w1.heap.size := (by omega); have kc := hV1.out.cell; have kc2 := hV2.out.cell) | (go_at_call 44; (with_reducible refine Calls.mono (HIn.out _) ?_); rintro ee w2 ⟨rfl, rfl⟩))
      go_returns
      exact ⟨rfl, hB1⟩
    · rw [h9] at H1 ⊢
      replace H1 := Lib.hid H1
      replace HIn := Lib.hid HIn
      clear h9 hr h0
      go_enter Try.func16, Try.ntmps16
      go_wp2_with (first | (go_at_call 37; (with_reducible refine Calls.mono (H1.out _ H0.out) ?_); rintro ee w1 ⟨rfl, hb1⟩; have hB1 := bel_step (w := w) (by go_grown) hb1; have hV1 := Lib.hid (HV0.out.later hb1); have hV2 := Lib.hid (HV1.out.later hb1); have hlt1 := hV2.out.lt; have hlt0 : w.heap.size < w1.heap.size := (by omega); have kc := hV1.out.cell; have kc2 := hV2.out.cell) | (go_at_call 44; (with_reducible refine Calls.mono (HIn.out _) ?_); rintro ee w2 ⟨rfl, rfl⟩))
      go_returns
      exact ⟨rfl, hB1⟩
end Go.Proofs.Ytnklpdckclgilaa
