/-
  Contracts of the reference's LapsesIn, WorstArrears and RevivalCost; what they come to in plain words. Conditions: the slice reads as xs; n at most 1048576.
-/
import Derived.Test.YtnklpdckclgilaaG16
import Derived.Test.YtnklpdckclgilaaU
set_option linter.unusedSimpArgs false
set_option linter.unusedVariables false
namespace Go.Proofs.Ytnklpdckclgilaa
open Go.RowKit
/-- is it a month of lapsing, k months from joining -/
def lapB (j cb : Int) (xs : List (Int × Int)) (k : Nat) : Bool := decide (6 * cb ≤ arrL j cb (j + (k : Int)) xs)
def monN (j m : Int) : Nat := (m - j + 1).toNat
def lapI (j cb m : Int) (xs : List (Int × Int)) : Int := firstI (lapB j cb xs) (List.range (monN j m))
def lapV (j cb m : Int) (xs : List (Int × Int)) : Int := if memC j cb m xs = 0 then (if lapI j cb m xs < 0 then 0 else j + lapI j cb m xs) else 0
def lapC (j cb m : Int) (xs : List (Int × Int)) : Int := if memC j cb m xs = 0 then (if lapI j cb m xs < 0 then 4 else 0) else memC j cb m xs
theorem firstR_none {p : Nat → Bool} {T : Nat} (h : ∀ i, i < T → p i = false) : firstI p (List.range T) = -1 := firstI_none fun i hi y hy => by
  simp only [List.length_range] at hi
  rw [List.getElem?_range hi] at hy
  cases hy
  exact h i hi
theorem firstR_some {p : Nat → Bool} {T k : Nat} (hk : k < T) (h : ∀ i, i < k → p i = false) (hp : p k = true) : firstI p (List.range T) = (k : Int) := firstI_some (z := k) (fun i hi y hy => by
  rw [List.getElem?_range (by omega)] at hy
  cases hy
  exact h i hi) (List.getElem?_range hk) hp
theorem lap_none {j cb m : Int} {xs : List (Int × Int)} (h0 : memC j cb m xs = 0) (h : ∀ i, i < monN j m → lapB j cb xs i = false) : Hid (lapV j cb m xs = 0 ∧ lapC j cb m xs = 4) := by
  have e : lapI j cb m xs = -1 := firstR_none h
  show _ ∧ _
  unfold lapV lapC
  rw [if_pos h0, if_pos h0, e]
  exact ⟨rfl, rfl⟩
theorem lap_some {j cb m : Int} {xs : List (Int × Int)} (h0 : memC j cb m xs = 0) {k : Nat} (hk : k < monN j m) (h : ∀ i, i < k → lapB j cb xs i = false) (hp : lapB j cb xs k = true) : Hid (lapV j cb m xs = j + (k : Int) ∧ lapC j cb m xs = 0) := by
  have e : lapI j cb m xs = (k : Int) := firstR_some hk h hp
  show _ ∧ _
  unfold lapV lapC
  rw [if_pos h0, if_pos h0, e, if_neg (by omega), if_neg (by omega)]
  exact ⟨rfl, rfl⟩
theorem lap_code {j cb m : Int} {xs : List (Int × Int)} (h0 : memC j cb m xs ≠ 0) : Hid (lapV j cb m xs = 0 ∧ lapC j cb m xs = memC j cb m xs) := by
  show _ ∧ _
  unfold lapV lapC
  rw [if_neg h0, if_neg h0]
  exact ⟨rfl, rfl⟩
/-- the worst arrears of the first k months, and their month -/
def worF (j cb : Int) (xs : List (Int × Int)) (s : Int) : Nat → Int × Int
  | 0 => (-1, s)
  | k + 1 => if (worF j cb xs s k).1 < arrL j cb (j + (k : Int)) xs then (arrL j cb (j + (k : Int)) xs, j + (k : Int)) else worF j cb xs s k
def worV (j cb m : Int) (xs : List (Int × Int)) : Int := if memC j cb m xs = 0 then (worF j cb xs j (monN j m)).1 else 0
def worM (j cb m : Int) (xs : List (Int × Int)) : Int := if memC j cb m xs = 0 then (worF j cb xs j (monN j m)).2 else 0
/-- what the months before cost at the rate r -/
def revF (j cb : Int) (xs : List (Int × Int)) (r : Int) : Nat → Int
  | 0 => 0
  | k + 1 => revF j cb xs r k + upD (arrL j cb (j + (k : Int)) xs * r) 1000
def revC (j cb m : Int) (xs : List (Int × Int)) (r : Int) : Int := if inR 0 100 r = true then memC j cb m xs else 2
def revV (j cb m : Int) (xs : List (Int × Int)) (r : Int) : Int := if revC j cb m xs r = 0 then arrL j cb m xs + revF j cb xs r (m - j).toNat else 0
theorem arrL_bd {j cb m : Int} {xs : List (Int × Int)} (h1 : inR 0 35999 j = true) (h2 : inR 1 1000000 cb = true) (h3 : inR j 35999 m = true) (h4 : areP j xs = true) : 0 ≤ arrL j cb m xs ∧ arrL j cb m xs ≤ 36000000000 := by
  have := balL_bd h1 h2 h3 h4
  unfold arrL
  split <;> omega
theorem upD_bd {a : Int} (h : 0 ≤ a) : 0 ≤ upD a 1000 ∧ upD a 1000 ≤ a := by unfold upD; omega
theorem arr_rate {a r : Int} (ha : 0 ≤ a ∧ a ≤ 36000000000) (hr : 0 ≤ r ∧ r ≤ 100) : 0 ≤ a * r ∧ a * r ≤ 3600000000000 := ⟨Int.mul_nonneg ha.1 hr.1, Int.le_trans (Int.mul_le_mul ha.2 hr.2 hr.1 (by omega)) (by omega)⟩
theorem revF_bd {j cb m r : Int} {xs : List (Int × Int)} (h1 : inR 0 35999 j = true) (h2 : inR 1 1000000 cb = true) (h3 : inR j 35999 m = true) (h4 : areP j xs = true) (hr : 0 ≤ r ∧ r ≤ 100) : ∀ k : Nat, j + (k : Int) ≤ m + 1 → 0 ≤ revF j cb xs r k ∧ revF j cb xs r k ≤ 3600000000000 * (k : Int) := by
  intro k
  rw [inR_iff] at h3
  induction k with
  | zero => intro _; show (0 : Int) ≤ 0 ∧ (0 : Int) ≤ _; omega
  | succ k ih =>
    intro hk
    have h5 := ih (by omega)
    have h6 := arrL_bd (m := j + (k : Int)) h1 h2 (inR_iff.2 (by omega)) h4
    have h7 := arr_rate h6 hr
    have h8 := upD_bd h7.1
    show 0 ≤ revF j cb xs r k + upD (arrL j cb (j + (k : Int)) xs * r) 1000 ∧ _ + upD _ 1000 ≤ _
    omega
theorem worF_bd {j cb m s : Int} {xs : List (Int × Int)} (h1 : inR 0 35999 j = true) (h2 : inR 1 1000000 cb = true) (h3 : inR j 35999 m = true) (h4 : areP j xs = true) : ∀ k : Nat, j + (k : Int) ≤ m + 1 → -1 ≤ (worF j cb xs s k).1 ∧ (worF j cb xs s k).1 ≤ 36000000000 := by
  intro k
  rw [inR_iff] at h3
  induction k with
  | zero => intro _; show (-1 : Int) ≤ -1 ∧ (-1 : Int) ≤ _; omega
  | succ k ih =>
    intro hk
    have h5 := ih (by omega)
    have h6 := arrL_bd (m := j + (k : Int)) h1 h2 (inR_iff.2 (by omega)) h4
    rw [worF]
    split
    · show -1 ≤ arrL j cb (j + (k : Int)) xs ∧ _; omega
    · exact h5
/-- where it begins does not matter once a month was seen -/
theorem worF_start {j cb m : Int} {xs : List (Int × Int)} (h1 : inR 0 35999 j = true) (h2 : inR 1 1000000 cb = true) (h3 : inR j 35999 m = true) (h4 : areP j xs = true) (s s' : Int) : ∀ k : Nat, 0 < k → worF j cb xs s k = worF j cb xs s' k := by
  intro k hk
  induction k with
  | zero => omega
  | succ k ih =>
    by_cases h0 : k = 0
    · subst h0
      rw [inR_iff] at h3
      have h6 := arrL_bd (m := j + ((0 : Nat) : Int)) h1 h2 (inR_iff.2 (by omega)) h4
      show (if (-1 : Int) < arrL j cb (j + ((0 : Nat) : Int)) xs then _ else _) = (if (-1 : Int) < arrL j cb (j + ((0 : Nat) : Int)) xs then _ else _)
      rw [if_pos (by omega), if_pos (by omega)]
    · rw [worF, worF, ih (by omega)]
set_option maxHeartbeats 2000000 in
theorem sLapsesIn_any (j cb : Int) (A : Option Addr) (n c : Nat) (xs : List (Int × Int)) (m : Int) (w : World) (h : RdP w w.heap.size A n xs) (hm : n ≤ 1048576) : Calls Try.prog 9 #[.int .i64 j, .int .i64 cb, .slice A n c, .int .i64 m] w fun ee w' => ee = (.returned (.tuple #[.int .i64 (lapV j cb m xs), .int .i64 (lapC j cb m xs)])) ∧ Below w.heap.size w w' := by
  have H1 := sMem_any j cb A n c xs m w h hm
  by_cases h0 : memC j cb m xs = 0
  · rcases memC_cases j cb m xs with ⟨_, hj, hc, hmm, ha⟩ | h9 | h9
    · rw [h0] at H1
      have H1 := Lib.hid H1
      have H := Lib.hid h
      have HL0 := Lib.hid (fun hh => (lap_none h0 hh : Hid (lapV j cb m xs = 0 ∧ lapC j cb m xs = 4)))
      have HL1 := Lib.hid (fun (k : Nat) hk hb hp => (lap_some h0 (k := k) hk hb hp : Hid (lapV j cb m xs = j + (k : Int) ∧ lapC j cb m xs = 0)))
      have hmj := inR_iff.1 hmm
      have HAr := Lib.hid (fun (k : Nat) W (hk : j + (k : Int) ≤ m) hR => sArr_any j cb (j + (k : Int)) A n c xs W hR hj hc (inR_iff.2 (by omega)) ha)
      have HAb := Lib.hid (fun (k : Nat) (hk : j + (k : Int) ≤ m) => arrL_bd (m := j + (k : Int)) hj hc (inR_iff.2 (by omega)) ha)
      have hj' := inR_iff.1 hj
      have hc' := inR_iff.1 hc
      have hT : (monN j m : Int) = m - j + 1 := by unfold monN; omega
      generalize monN j m = T at *
      clear h h0 hj hc hmm ha
      go_enter Try.func9, Try.ntmps9
      go_wp2_with (go_at_call 34; (with_reducible refine Calls.mono H1.out ?_); rintro ee w1 ⟨rfl, hb1⟩; have hB1 := hb1)
      go_loopw [11] (fun mo wr => ∃ k : Nat, k ≤ T ∧ mo = .int .i64 (j + (k : Int)) ∧ Hid (∀ i, i < k → lapB j cb xs i = false) ∧ w1 = wr) (fun mo _ => (m + 1 - intOf mo).toNat)
      case atStart => exact ⟨0, Nat.zero_le _, by simp, fun i hi => by omega, rfl⟩
      case round =>
        obtain ⟨k, hk, rfl, HN, rfl⟩ := hrel
        by_cases hlt : k < T
        · have hlt' : j + (k : Int) ≤ m := by omega
          have HX := HAr.out k w1 hlt' (H.out.later hb1)
          have hab := HAb.out k hlt'
          have HD : Hid (lapB j cb xs k = decide (6 * cb ≤ arrL j cb (j + (k : Int)) xs)) := rfl
          generalize arrL j cb (j + (k : Int)) xs = a at *
          have HX := Lib.hid HX
          by_cases hq : 6 * cb ≤ a
          · have HF := HL1.out k hlt HN.out (by rw [HD.out]; exact decide_eq_true hq)
            go_wp2_with (go_at_call 35; (with_reducible refine Calls.mono HX.out ?_); rintro ee w2 ⟨rfl, rfl⟩)
            go_returns
            exact ⟨by rw [HF.out.1, HF.out.2]; rfl, hb1⟩
          · have HF : Hid (lapB j cb xs k = false) := Lib.hid (by rw [HD.out]; exact decide_eq_false hq)
            go_wp2_with (go_at_call 35; (with_reducible refine Calls.mono HX.out ?_); rintro ee w2 ⟨rfl, rfl⟩)
            go_roundw
            case rel => exact ⟨k + 1, by omega, by go_num, fun i hi => by (rcases Nat.lt_or_ge i k with h5 | h5); (exact HN.out i h5); (obtain rfl : i = k := by omega); exact HF.out, by trivial⟩
            case measure => simp [intOf]; omega
        · have hlt' : ¬ j + (k : Int) ≤ m := by omega
          have HF := HL0.out (fun i hi => HN.out i (by omega))
          go_wp2
          go_returns
          exact ⟨by rw [HF.out.1, HF.out.2]; rfl, hb1⟩
    · rw [h0] at h9; cases h9
    · rw [h0] at h9; cases h9
  · have HF := lap_code h0
    have h0' : (memC j cb m xs != 0) = true := by simpa using h0
    generalize memC j cb m xs = kc at *
    have H1 := Lib.hid H1
    clear h0 h
    go_enter Try.func9, Try.ntmps9
    go_wp2_with (go_at_call 34; (with_reducible refine Calls.mono H1.out ?_); rintro ee w1 ⟨rfl, hb1⟩)
    go_returns
    exact ⟨by rw [HF.out.1, HF.out.2]; rfl, hb1⟩
set_option maxHeartbeats 2000000 in
theorem sWorstArrears_any (j cb : Int) (A : Option Addr) (n c : Nat) (xs : List (Int × Int)) (m : Int) (w : World) (h : RdP w w.heap.size A n xs) (hm : n ≤ 1048576) : Calls Try.prog 13 #[.int .i64 j, .int .i64 cb, .slice A n c, .int .i64 m] w fun ee w' => ee = (.returned (.tuple #[.int .i64 (worV j cb m xs), .int .i64 (worM j cb m xs), .int .i64 (memC j cb m xs)])) ∧ Below w.heap.size w w' := by
  have H1 := sMem_any j cb A n c xs m w h hm
  by_cases h0 : memC j cb m xs = 0
  · rcases memC_cases j cb m xs with ⟨_, hj, hc, hmm, ha⟩ | h9 | h9
    · have HF : Hid (worV j cb m xs = (worF j cb xs j (monN j m)).1 ∧ worM j cb m xs = (worF j cb xs j (monN j m)).2) := by show _ ∧ _; unfold worV worM; rw [if_pos h0, if_pos h0]; exact ⟨rfl, rfl⟩
      rw [h0] at H1 ⊢
      have H1 := Lib.hid H1
      have H := Lib.hid h
      have hmj := inR_iff.1 hmm
      have HAr := Lib.hid (fun (k : Nat) W (hk : j + (k : Int) ≤ m) hR => sArr_any j cb (j + (k : Int)) A n c xs W hR hj hc (inR_iff.2 (by omega)) ha)
      have HAb := Lib.hid (fun (k : Nat) (hk : j + (k : Int) ≤ m) => arrL_bd (m := j + (k : Int)) hj hc (inR_iff.2 (by omega)) ha)
      have HWb := Lib.hid (fun (k : Nat) (hk : j + (k : Int) ≤ m + 1) => worF_bd (s := j) hj hc hmm ha k hk)
      have hj' := inR_iff.1 hj
      have hT : (monN j m : Int) = m - j + 1 := by unfold monN; omega
      generalize monN j m = T at *
      clear h h0 hj hc hmm ha
      go_enter Try.func13, Try.ntmps13
      go_wp2_with (go_at_call 34; (with_reducible refine Calls.mono H1.out ?_); rintro ee w1 ⟨rfl, hb1⟩; have hB1 := hb1)
      go_loopw [12, 13, 14] (fun mst at' mo wr => ∃ (k : Nat) (u v : Int), k ≤ T ∧ mo = .int .i64 (j + (k : Int)) ∧ mst = .int .i64 u ∧ at' = .int .i64 v ∧ Hid (worF j cb xs j k = (u, v)) ∧ w1 = wr) (fun _ _ mo _ => (m + 1 - intOf mo).toNat)
      case atStart => exact ⟨0, -1, j, Nat.zero_le _, by simp, rfl, rfl, rfl, rfl⟩
      case round =>
        obtain ⟨k, u, v, hk, rfl, rfl, rfl, HW, rfl⟩ := hrel
        by_cases hlt : k < T
        · have hlt' : j + (k : Int) ≤ m := by omega
          have HX := HAr.out k w1 hlt' (H.out.later hb1)
          have hab := HAb.out k hlt'
          have hwb := HWb.out k (by omega)
          rw [HW.out] at hwb
          have HD : Hid (worF j cb xs j (k + 1) = if (worF j cb xs j k).1 < arrL j cb (j + (k : Int)) xs then (arrL j cb (j + (k : Int)) xs, j + (k : Int)) else worF j cb xs j k) := rfl
          generalize arrL j cb (j + (k : Int)) xs = a at *
          have HX := Lib.hid HX
          by_cases hq : u < a
          · have HD2 : Hid (worF j cb xs j (k + 1) = (a, j + (k : Int))) := Lib.hid (by rw [HD.out, HW.out, if_pos hq])
            go_wp2_with (go_at_call 35; (with_reducible refine Calls.mono HX.out ?_); rintro ee w2 ⟨rfl, rfl⟩)
            go_roundw
            case rel => exact ⟨k + 1, a, j + (k : Int), by omega, by go_num, rfl, rfl, HD2.out, by trivial⟩
            case measure => simp [intOf]; omega
          · have HD2 : Hid (worF j cb xs j (k + 1) = (u, v)) := Lib.hid (by rw [HD.out, HW.out, if_neg hq])
            go_wp2_with (go_at_call 35; (with_reducible refine Calls.mono HX.out ?_); rintro ee w2 ⟨rfl, rfl⟩)
            go_roundw
            case rel => exact ⟨k + 1, u, v, by omega, by go_num, rfl, rfl, HD2.out, by trivial⟩
            case measure => simp [intOf]; omega
        · have hlt' : ¬ j + (k : Int) ≤ m := by omega
          have hkT : k = T := by omega
          have HF2 : Hid (worV j cb m xs = u ∧ worM j cb m xs = v) := Lib.hid (by rw [HF.out.1, HF.out.2, ← hkT, HW.out]; exact ⟨rfl, rfl⟩)
          clear hkT HF HW
          go_wp2
          go_returns
          exact ⟨by rw [HF2.out.1, HF2.out.2]; rfl, hb1⟩
    · rw [h0] at h9; cases h9
    · rw [h0] at h9; cases h9
  · have HF : Hid (worV j cb m xs = 0 ∧ worM j cb m xs = 0) := by show _ ∧ _; unfold worV worM; rw [if_neg h0, if_neg h0]; exact ⟨rfl, rfl⟩
    have h0' : (memC j cb m xs != 0) = true := by simpa using h0
    rw [HF.out.1, HF.out.2]
    generalize memC j cb m xs = kc at *
    have H1 := Lib.hid H1
    clear h0 h
    go_enter Try.func13, Try.ntmps13
    go_wp2_with (go_at_call 34; (with_reducible refine Calls.mono H1.out ?_); rintro ee w1 ⟨rfl, hb1⟩)
    go_returns
    exact ⟨rfl, hb1⟩
theorem revC_cases (j cb m : Int) (xs : List (Int × Int)) (r : Int) : (revC j cb m xs r = 0 ∧ memC j cb m xs = 0 ∧ inR 0 100 r = true ∧ inR 0 35999 j = true ∧ inR 1 1000000 cb = true ∧ inR j 35999 m = true ∧ areP j xs = true) ∨ (inR 0 100 r = false ∧ revC j cb m xs r = 2) ∨ (inR 0 100 r = true ∧ revC j cb m xs r = memC j cb m xs ∧ memC j cb m xs ≠ 0) := by
  unfold revC
  cases hr : inR 0 100 r with
  | false => exact .inr (.inl ⟨rfl, rfl⟩)
  | true =>
    rw [if_pos rfl]
    rcases memC_cases j cb m xs with ⟨h0, h⟩ | h0 | h0
    · exact .inl ⟨h0, h0, rfl, h⟩
    · exact .inr (.inr ⟨rfl, rfl, by rw [h0]; decide⟩)
    · exact .inr (.inr ⟨rfl, rfl, by rw [h0]; decide⟩)
set_option maxHeartbeats 2000000 in
theorem sRevivalCost_any (j cb : Int) (A : Option Addr) (n c : Nat) (xs : List (Int × Int)) (m : Int) (r : Int) (w : World) (h : RdP w w.heap.size A n xs) (hm : n ≤ 1048576) : Calls Try.prog 15 #[.int .i64 j, .int .i64 cb, .slice A n c, .int .i64 m, .int .i64 r] w fun ee w' => ee = (.returned (.tuple #[.int .i64 (revV j cb m xs r), .int .i64 (revC j cb m xs r)])) ∧ Below w.heap.size w w' := by
  have H1 := sMem_any j cb A n c xs m w h hm
  have HIn := fun W => sIn_any r 0 100 W
  rcases revC_cases j cb m xs r with ⟨hC, h0, hr, hj, hc, hmm, ha⟩ | ⟨hr, hC⟩ | ⟨hr, hC, h0⟩
  · have HF : Hid (revV j cb m xs r = arrL j cb m xs + revF j cb xs r (m - j).toNat) := by show _ = _; unfold revV; rw [if_pos hC]
    rw [h0] at H1
    rw [hr] at HIn
    rw [hC, HF.out]
    have H1 := Lib.hid H1
    have HIn := Lib.hid HIn
    have H := Lib.hid h
    have hmj := inR_iff.1 hmm
    have hr' := inR_iff.1 hr
    have HAr := Lib.hid (fun (k : Nat) W (hk : j + (k : Int) ≤ m) hR => sArr_any j cb (j + (k : Int)) A n c xs W hR hj hc (inR_iff.2 (by omega)) ha)
    have HA0 := Lib.hid (fun W hR => sArr_any j cb m A n c xs W hR hj hc hmm ha)
    have hA0 := arrL_bd hj hc hmm ha
    have HAb := Lib.hid (fun (k : Nat) (hk : j + (k : Int) ≤ m) => arrL_bd (m := j + (k : Int)) hj hc (inR_iff.2 (by omega)) ha)
    have HWb := Lib.hid (fun (k : Nat) (hk : j + (k : Int) ≤ m + 1) => revF_bd hj hc hmm ha hr' k hk)
    have hj' := inR_iff.1 hj
    have hT : ((m - j).toNat : Int) = m - j := by omega
    generalize (m - j).toNat = T at *
    have HA0 := HA0.out
    generalize arrL j cb m xs = a0 at *
    have HA0 := Lib.hid HA0
    clear h h0 hj hc hmm ha hr hC HF
    go_enter Try.func15, Try.ntmps15
    go_wp2_with (first | (go_at_call 34; (with_reducible refine Calls.mono H1.out ?_); rintro ee w1 ⟨rfl, hb1⟩; have hB1 := hb1) | (go_at_call 42; (with_reducible refine Calls.mono (HIn.out _) ?_); rintro ee w2 ⟨rfl, rfl⟩) | (go_at_call 35; (with_reducible refine Calls.mono (HA0.out _ (H.out.later hb1)) ?_); rintro ee w3 ⟨rfl, rfl⟩))
    go_loopw [13, 14] (fun su mo wr => ∃ (k : Nat) (u : Int), k ≤ T ∧ mo = .int .i64 (j + (k : Int)) ∧ su = .int .i64 (a0 + u) ∧ Hid (revF j cb xs r k = u) ∧ w1 = wr) (fun _ mo _ => (m + 1 - intOf mo).toNat)
    case atStart => exact ⟨0, 0, Nat.zero_le _, by simp, by simp, rfl, rfl⟩
    case round =>
      obtain ⟨k, u, hk, rfl, rfl, HW, rfl⟩ := hrel
      have hwb := HWb.out k (by omega)
      rw [HW.out] at hwb
      have hk36 : (k : Int) ≤ 36000 := by omega
      by_cases hlt : k < T
      · have hlt' : j + (k : Int) < m := by omega
        have HX := HAr.out k w1 (by omega) (H.out.later hb1)
        have hab := HAb.out k (by omega)
        have HD : Hid (revF j cb xs r (k + 1) = revF j cb xs r k + upD (arrL j cb (j + (k : Int)) xs * r) 1000) := rfl
        generalize arrL j cb (j + (k : Int)) xs = a at *
        have hpr := arr_rate hab hr'
        have hub := upD_bd hpr.1
        have HU := fun W => sUp_any (a * r) 1000 W (by omega) (by omega)
        have HX := Lib.hid HX
        have HD2 : Hid (revF j cb xs r (k + 1) = u + upD (a * r) 1000) := Lib.hid (by rw [HD.out, HW.out])
        generalize upD (a * r) 1000 = q at *
        have HU := Lib.hid HU
        clear HD
        go_wp2_with (first | (go_at_call 35; (with_reducible refine Calls.mono HX.out ?_); rintro ee w4 ⟨rfl, rfl⟩) | (go_at_call 43; (with_reducible refine Calls.mono (HU.out _) ?_); rintro ee w5 ⟨rfl, rfl⟩))
        go_roundw
        case rel => exact ⟨k + 1, u + q, by omega, by go_num, by first | rfl | (congr 1; omega), HD2.out, by trivial⟩
        case measure => simp [intOf]; omega
      · have hlt' : ¬ j + (k : Int) < m := by omega
        have hkT : k = T := by omega
        have HF2 : Hid (revF j cb xs r T = u) := Lib.hid (by rw [← hkT, HW.out])
        clear hkT HW
        go_wp2
        go_returns
        exact ⟨by rw [HF2.out]; rfl, hb1⟩
  · have HF : Hid (revV j cb m xs r = 0) := by show _ = _; unfold revV; rw [if_neg (by rw [hC]; decide)]
    rw [hC, HF.out]
    rw [hr] at HIn
    generalize memC j cb m xs = kc at *
    have H1 := Lib.hid H1
    have HIn := Lib.hid HIn
    clear hC h hr HF
    go_enter Try.func15, Try.ntmps15
    go_wp2_with (first | (go_at_call 34; (with_reducible refine Calls.mono H1.out ?_); rintro ee w1 ⟨rfl, hb1⟩; have hB1 := hb1) | (go_at_call 42; (with_reducible refine Calls.mono (HIn.out _) ?_); rintro ee w2 ⟨rfl, rfl⟩))
    go_returns
    exact ⟨rfl, hb1⟩
  · have HF : Hid (revV j cb m xs r = 0) := by show _ = _; unfold revV; rw [if_neg (by rw [hC]; exact h0)]
    rw [hC, HF.out]
    rw [hr] at HIn
    have h0' : (memC j cb m xs != 0) = true := by simpa using h0
    clear hC HF
    generalize memC j cb m xs = kc at *
    have H1 := Lib.hid H1
    have HIn := Lib.hid HIn
    clear h hr h0
    go_enter Try.func15, Try.ntmps15
    go_wp2_with (first | (go_at_call 34; (with_reducible refine Calls.mono H1.out ?_); rintro ee w1 ⟨rfl, hb1⟩; have hB1 := hb1) | (go_at_call 42; (with_reducible refine Calls.mono (HIn.out _) ?_); rintro ee w2 ⟨rfl, rfl⟩))
    go_returns
    exact ⟨rfl, hb1⟩
end Go.Proofs.Ytnklpdckclgilaa
