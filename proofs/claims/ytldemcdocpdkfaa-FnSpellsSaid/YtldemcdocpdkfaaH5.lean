/-
  Contracts of the functions of chapter 15: PayBetween.
-/
import Derived.Test.YtldemcdocpdkfaaG5
set_option linter.unusedSimpArgs false
set_option linter.unusedVariables false
namespace Go.Proofs.Ytldemcdocpdkfaa
open Go.RowKit
def pbB (f t r : Int) : Bool := inR 0 100000 f && inR f 100000 t && inR 1 100000 r
def pbV (xs : List (Int × Int)) (f t r : Int) : Int := if spC xs (pbB f t r) = 0 then payT xs r f (t - f).toNat else 0
theorem pbB_iff {f t r : Int} : pbB f t r = true ↔ (0 ≤ f ∧ f ≤ 100000) ∧ (f ≤ t ∧ t ≤ 100000) ∧ (1 ≤ r ∧ r ≤ 100000) := by
  unfold pbB
  simp only [Bool.and_eq_true, inR_iff, and_assoc]
theorem payT_bd (xs : List (Int × Int)) {r : Int} (hr : 1 ≤ r ∧ r ≤ 100000) (f : Int) (k : Nat) : 0 ≤ payT xs r f k ∧ payT xs r f k ≤ 100000 * (k : Int) :=
  sumR_bd (fun x => payN_bd (by omega)) f k
theorem onR_bd {g : Int → Int} {M : Int} (h : ∀ x, 0 ≤ g x ∧ g x ≤ M) (a b x : Int) : 0 ≤ onR a b g x ∧ onR a b g x ≤ M := by
  unfold onR
  have := h x
  split <;> omega
theorem payS_bd (xs : List (Int × Int)) {r : Int} (hr : 1 ≤ r ∧ r ≤ 100000) (k : Nat) (x : Int) : 0 ≤ payS xs r k x ∧ payS xs r k x ≤ 100000 := payN_bd (by omega)
theorem inner_bd (xs : List (Int × Int)) {r : Int} (hr : 1 ≤ r ∧ r ≤ 100000) (k : Nat) (a b f : Int) (j : Nat) : 0 ≤ sumR (onR a b (payS xs r k)) f j ∧ sumR (onR a b (payS xs r k)) f j ≤ 100000 * (j : Int) :=
  sumR_bd (fun x => onR_bd (payS_bd xs hr k) a b x) f j
theorem payK_bd {xs : List (Int × Int)} (h : areS xs = true) {r : Int} (hr : 1 ≤ r ∧ r ≤ 100000) (a : Int) (N : Nat) : ∀ k, k ≤ xs.length → 0 ≤ payK xs r a N k ∧ payK xs r a N k ≤ 10000000000 * (k : Int) := by
  intro k
  induction k with
  | zero => intro _; simp [payK]
  | succ k ih =>
    intro hk
    have h1 := ih (by omega)
    have hx : xs[k]? = some ((xs[k]'(by omega)).1, (xs[k]'(by omega)).2) := List.getElem?_eq_getElem (by omega)
    have h2 := areS_at h hx
    have h3 : 0 ≤ spellP xs r a N k ∧ spellP xs r a N k ≤ 10000000000 := by
      unfold spellP
      rw [getD_at hx]
      have := inner_bd xs hr k a (a + N - 1) (xs[k]'(by omega)).1 ((xs[k]'(by omega)).2 - (xs[k]'(by omega)).1).toNat
      simp only at this ⊢
      omega
    show 0 ≤ payK xs r a N k + _ ∧ payK xs r a N k + _ ≤ _
    omega
theorem spC_and {xs : List (Int × Int)} {b c : Bool} (h : areS xs = true) (hc : c = false) : spC xs (b && c) = 2 := by subst hc; rw [Bool.and_false]; unfold spC; rw [if_pos h]; rfl
theorem payT_succ (xs : List (Int × Int)) (r f : Int) (k : Nat) : payT xs r f (k + 1) = payT xs r f k + payN (numD xs (f + k)) r := rfl
set_option maxHeartbeats 2000000 in
theorem iPbt_in (A : Option Addr) (n c : Nat) (xs : List (Int × Int)) (w : World) (h : RdP w w.heap.size A n xs) (f t r : Int) (hm : n ≤ 1048576) (ha : areS xs = true) (hp : pbB f t r = true) : Calls Try.prog 33 #[.slice A n c, .int .i64 f, .int .i64 t, .int .i64 r] w fun ee w' => ee = .returned (.tuple #[.int .i64 (payT xs r f (t - f).toNat), .int .i64 (0)]) ∧ Below w.heap.size w w' := by
  have HC := fun W hR B hz => iCk_any A n c xs W hR B 2 2 [f, t] hz hm (by omega)
  have hb := pbB_iff.1 hp
  rw [all_two, inR_iff.2 hb.1, inR_iff.2 (show 0 ≤ t ∧ t ≤ 100000 by omega)] at HC
  rw [show spC xs (true && true) = 0 by unfold spC; rw [if_pos ha]; rfl] at HC
  have HI := fun W => inRange_any r 1 100000 W
  rw [inR_iff.2 hb.2.2] at HI
  have HC := Lib.hid HC
  have hn := (areS_split ha).1
  rw [h.len] at hn
  have HG := Lib.hid (fun W hR d hd => iPayOn_any A n c xs W hR d r hn hd ha hb.2.2)
  have H := Lib.hid h
  have HT := Lib.hid (payT_bd xs hb.2.2 f)
  have HN := Lib.hid (fun d => payN_bd (n := numD xs d) (rate := r) ⟨by omega, hb.2.2.2⟩)
  have HS := Lib.hid (payT_succ xs r f)
  have g1 : decide (t < f) = false := decide_eq_false (by omega)
  clear h ha hp
  go_enter Try.func33, Try.ntmps33
  go_wp2_with (first | (go_at_call 59; (with_reducible refine (HI _).mono ?_); rintro ee w9 ⟨rfl, rfl⟩) | (go_at_call 55; (with_reducible refine Calls.mono (HC.out _ (H.out.cur _) _ (rd_lit _ _ [f, t] _ rfl 2 rfl)) ?_); rintro ee w1 ⟨rfl, hb1⟩; have hB1 := bel_step (cur_of H.out _) hb1))
  go_loopw [11, 12] (fun s d wr => ∃ k : Nat, k ≤ (t - f).toNat ∧ d = .int .i64 (f + k) ∧ s = .int .i64 (payT xs r f k) ∧ Below w.heap.size w wr) (fun _ d _ => (t - intOf d).toNat)
  case atStart => exact ⟨0, Nat.zero_le _, by go_num, rfl, hB1⟩
  case round =>
    obtain ⟨k, hk, rfl, rfl, hR⟩ := hrel
    have hs := HT.out k
    have hv := HN.out (f + k)
    by_cases hlt : k < (t - f).toNat
    · have HGk := fun W hR => HG.out W hR (f + k) (by omega)
      have HS := Lib.hid (HS.out k)
      generalize payN (numD xs (f + k)) r = v at *
      generalize payT xs r f k = s0 at *
      have HGk := Lib.hid HGk
      have h1 : f + (k : Int) < t := by omega
      go_wp2_with (first | (go_at_call 60; (with_reducible refine Calls.mono (HGk.out _ (H.out.later hR)) ?_); rintro ee w2 ⟨rfl, hb2⟩; have hB2 := bel_step hR hb2))
      go_roundw
      case rel => exact ⟨k + 1, by omega, by first | go_num | (congr 1; omega), by rw [HS.out], hB2⟩
      case measure => simp [intOf]; omega
    · have HE : Hid (k = (t - f).toNat) := by show _ = _; omega
      have h1 : ¬ f + (k : Int) < t := by omega
      go_wp2
      go_returns
      exact ⟨by rw [← HE.out]; rfl, hR⟩
set_option maxHeartbeats 1000000 in
theorem iPbt_no (A : Option Addr) (n c : Nat) (xs : List (Int × Int)) (w : World) (h : RdP w w.heap.size A n xs) (f t r : Int) (k : Int) (hm : n ≤ 1048576) (ha : spC xs (pbB f t r) = k) (hk : k ≠ 0) : Calls Try.prog 33 #[.slice A n c, .int .i64 f, .int .i64 t, .int .i64 r] w fun ee w' => ee = .returned (.tuple #[.int .i64 (0), .int .i64 (k)]) ∧ Below w.heap.size w w' := by
  have HC := fun W hR B hz => iCk_any A n c xs W hR B 2 2 [f, t] hz hm (by omega)
  rw [all_two] at HC
  have HI := fun W => inRange_any r 1 100000 W
  have H := Lib.hid h
  by_cases hft : f ≤ t
  · have hb : pbB f t r = (inR 0 100000 f && inR 0 100000 t && inR 1 100000 r) := by
      unfold pbB
      by_cases hf : 0 ≤ f
      · have e : inR f 100000 t = inR 0 100000 t := by unfold inR; simp [hft]; omega
        rw [e]
      · have e : inR 0 100000 f = false := by rw [inR_ff]; omega
        rw [e]; rfl
    rw [hb] at ha
    unfold spC at ha HC
    have hft2 : decide (t < f) = false := decide_eq_false (by omega)
    clear h hb
    generalize areS xs = a at *
    generalize inR 0 100000 f = b1 at *
    generalize inR 0 100000 t = b2 at *
    generalize inR 1 100000 r = b3 at *
    cases a <;> cases b1 <;> cases b2 <;> cases b3
    all_goals simp at ha
    all_goals subst ha
    all_goals try exact absurd rfl hk
    all_goals
      clear hk
      simp at HC
      go_enter Try.func33, Try.ntmps33
      go_wp2_with (first | (go_at_call 59; (with_reducible refine (HI _).mono ?_); rintro ee w9 ⟨rfl, rfl⟩) | (go_at_call 55; (with_reducible refine Calls.mono (HC _ (H.out.cur _) _ (rd_lit _ _ [f, t] _ rfl 2 rfl)) ?_); rintro ee w1 ⟨rfl, hb1⟩; have hB1 := bel_step (cur_of H.out _) hb1))
      go_returns
      exact ⟨rfl, hB1⟩
  · have hb : pbB f t r = false := by
      unfold pbB
      have e : inR f 100000 t = false := by rw [inR_ff]; omega
      rw [e]; simp
    rw [hb] at ha
    have hft2 : decide (t < f) = true := decide_eq_true (by omega)
    clear h hb
    unfold spC at ha HC
    generalize inR 0 100000 f = b1 at *
    generalize inR 0 100000 t = b2 at *
    generalize areS xs = a at *
    cases a <;> cases b1 <;> cases b2
    all_goals simp at ha
    all_goals subst ha
    all_goals
      clear hk
      simp at HC
      go_enter Try.func33, Try.ntmps33
      go_wp2_with (first | (go_at_call 55; (with_reducible refine Calls.mono (HC _ (H.out.cur _) _ (rd_lit _ _ [f, t] _ rfl 2 rfl)) ?_); rintro ee w1 ⟨rfl, hb1⟩; have hB1 := bel_step (cur_of H.out _) hb1))
      go_returns
      exact ⟨rfl, hB1⟩
theorem iPbt_any (A : Option Addr) (n c : Nat) (xs : List (Int × Int)) (w : World) (h : RdP w w.heap.size A n xs) (f t r : Int) (hm : n ≤ 1048576) : Calls Try.prog 33 #[.slice A n c, .int .i64 f, .int .i64 t, .int .i64 r] w fun ee w' => ee = .returned (.tuple #[.int .i64 (pbV xs f t r), .int .i64 (spC xs (pbB f t r))]) ∧ Below w.heap.size w w' := by
  rcases spC_cases xs (pbB f t r) with ⟨h0, ha, hd⟩ | ⟨h0, ha, hd⟩ | ⟨h0, ha⟩
  · have e : pbV xs f t r = payT xs r f (t - f).toNat := if_pos h0
    rw [e, h0]
    exact iPbt_in A n c xs w h f t r hm ha hd
  all_goals
    have e : pbV xs f t r = 0 := if_neg (by rw [h0]; decide)
    rw [e]
    exact iPbt_no A n c xs w h f t r _ hm rfl (by rw [h0]; decide)
theorem payK_succ {xs : List (Int × Int)} {r a : Int} {N k : Nat} {f t : Int} (h : xs[k]? = some (f, t)) : payK xs r a N (k + 1) = payK xs r a N k + sumR (onR a (a + N - 1) (payS xs r k)) f (t - f).toNat := by
  show _ + spellP xs r a N k = _
  unfold spellP
  rw [getD_at h]
theorem payS_at {xs : List (Int × Int)} {r : Int} {k j : Nat} {f t : Int} (h : xs[k]? = some (f, t)) : payS xs r k (f + j) = payN (befB xs k + (j : Int) + 1) r := by
  unfold payS
  rw [getD_at h, show befB xs k + (f + (j : Int)) - f + 1 = befB xs k + (j : Int) + 1 by omega]
set_option maxHeartbeats 4000000 in
theorem sPbt_in (A : Option Addr) (n c : Nat) (xs : List (Int × Int)) (w : World) (h : RdP w w.heap.size A n xs) (a b r : Int) (hm : n ≤ 1048576) (ha : areS xs = true) (hp : pbB a b r = true) : Calls Try.prog 32 #[.slice A n c, .int .i64 a, .int .i64 b, .int .i64 r] w fun ee w' => ee = .returned (.tuple #[.int .i64 (payT xs r a (b - a).toNat), .int .i64 (0)]) ∧ Below w.heap.size w w' := by
  have HC := fun W hR => sCk_any A n c xs W hR true hm
  have hb := pbB_iff.1 hp
  rw [show spC xs true = 0 by unfold spC; rw [if_pos ha]; rfl] at HC
  have HI := fun W => sIn_any a 0 100000 W
  have HJ := fun W => sIn_any b a 100000 W
  have HR := fun W => sRate_any r W
  have HD := Lib.hid (fun d W => sIn_any d a (b - 1) W)
  have HV := Lib.hid (fun v W hv => sPay_any v r W hv hb.2.2)
  rw [inR_iff.2 hb.1] at HI
  rw [inR_iff.2 hb.2.1] at HJ
  rw [inR_iff.2 hb.2.2] at HR
  have hn := (areS_split ha).1
  have HE := Lib.hid (payT_eq ha r a (b - a).toNat hb.1.1)
  have HKb := Lib.hid (payK_bd ha hb.2.2 a (b - a).toNat)
  have HIb := Lib.hid (inner_bd xs hb.2.2)
  have HBb := Lib.hid (befN_bd ha)
  have hl := h.len
  rw [hl] at hn
  have HX := Lib.hid (fun (i : Nat) (f t : Int) (hi : xs[i]? = some (f, t)) => areS_at ha hi)
  have HG := Lib.hid (fun W hR k hk => sBeg_any A n c xs W hR k hk hn ha)
  have HK := Lib.hid (fun (k : Nat) (f t : Int) (hi : xs[k]? = some (f, t)) => payK_succ (r := r) (a := a) (N := (b - a).toNat) hi)
  have HL := Lib.hid (fun (k j : Nat) (f t : Int) (hi : xs[k]? = some (f, t)) => payS_at (r := r) (j := j) hi)
  have H := Lib.hid h
  have hl := Lib.hid hl
  clear h ha hp
  go_enter Try.func32, Try.ntmps32
  go_wp2_with (first | (go_at_call 54; (with_reducible refine (HI _).mono ?_); rintro ee w9 ⟨rfl, rfl⟩) | (go_at_call 54; (with_reducible refine (HJ _).mono ?_); rintro ee w9 ⟨rfl, rfl⟩) | (go_at_call 57; (with_reducible refine (HR _).mono ?_); rintro ee w8 ⟨rfl, rfl⟩) | (go_at_call 53; (with_reducible refine Calls.mono (HC _ H.out) ?_); rintro ee w1 ⟨rfl, hb1⟩; have hB1 := bel_step (Below.refl _ _) hb1))
  clear HI HJ HR HC
  go_loopw [11, 12, 13] (fun s p i wr => ∃ k : Nat, k ≤ n ∧ i = .int .i64 k ∧ p = .int .i64 (befN xs k) ∧ s = .int .i64 (payK xs r a (b - a).toNat k) ∧ Below w.heap.size w wr) (fun _ _ i _ => n - (intOf i).toNat)
  case atStart => exact ⟨0, Nat.zero_le _, rfl, rfl, rfl, hB1⟩
  case round =>
    obtain ⟨k, hk, rfl, rfl, rfl, hR⟩ := hrel
    have hb0 := HBb.out k (by rw [hl.out]; exact hk)
    have hk0 := HKb.out k (by rw [hl.out]; exact hk)
    by_cases hlt : k < n
    · obtain ⟨ad, f, t, rfl, hbl, hz, hx, hy⟩ := RdP.atP (H.out.below hR) hlt
      have hft := HX.out _ _ _ hz
      have HN := Lib.hid (befN_succ hz)
      have HK1 := Lib.hid (HK.out k f t hz)
      have HL1 := Lib.hid (fun j => HL.out k j f t hz)
      have HGk := fun W hR => HG.out W hR k hlt
      have hlt' : (k : Int) < (n : Int) := by omega
      have HIk := Lib.hid (fun j => HIb.out k a (a + (b - a).toNat - 1) f j)
      have hab : a + ((b - a).toNat : Int) - 1 = b - 1 := by omega
      rw [hab] at HIk HK1
      clear hz hab
      cases hq : begB xs k
      case' true => have HBB : Hid (befB xs k = 0) := befB_t hq
      case' false => have HBB : Hid (befB xs k = befN xs k) := befB_f hq
      all_goals
        rw [hq] at HGk
        have HGk := Lib.hid HGk
        clear hq
        go_wp2_with ((go_at_call 52; (with_reducible refine Calls.mono (HGk.out _ (H.out.later hR)) ?_); rintro ee w2 ⟨rfl, hb2⟩; have hB2 := bel_step hR hb2); have kx := keepC hb2 hx; have ky := keepC hb2 hy)
        have hbB : 0 ≤ befB xs k ∧ befB xs k ≤ 2000000 := by rw [HBB.out]; omega
        go_loopw [11, 12, 14] (fun s p d wq => ∃ j : Nat, j ≤ (t - f).toNat ∧ d = .int .i64 (f + j) ∧ p = .int .i64 (befB xs k + j) ∧ s = .int .i64 (payK xs r a (b - a).toNat k + sumR (onR a (b - 1) (payS xs r k)) f j) ∧ Below w2.heap.size w2 wq) (fun _ _ d _ => (t - intOf d).toNat)
        case atStart => exact ⟨0, Nat.zero_le _, by go_num, by rw [HBB.out]; go_num, by show _ = Value.int .i64 (_ + 0); rw [Int.add_zero], Below.refl _ _⟩
        case round =>
          obtain ⟨j, hj, rfl, rfl, rfl, hQ⟩ := hrel
          have kx2 := keepC hQ kx
          have ky2 := keepC hQ ky
          have hi0 := HIk.out j
          have hL := HL1.out j
          by_cases hjl : j < (t - f).toNat
          · have hd1 : f + (j : Int) < t := by omega
            have HDj := fun W => HD.out (f + j) W
            have HVj := Lib.hid (fun W => HV.out (befB xs k + (j : Int) + 1) W (by omega))
            have hv := payN_bd (n := befB xs k + (j : Int) + 1) (rate := r) ⟨by omega, hb.2.2.2⟩
            have HS : sumR (onR a (b - 1) (payS xs r k)) f (j + 1) = sumR (onR a (b - 1) (payS xs r k)) f j + onR a (b - 1) (payS xs r k) (f + j) := rfl
            cases hin : inR a (b - 1) (f + j) with
            | true =>
              rw [onR_hit hin, hL] at HS
              rw [hin] at HDj
              have HS := Lib.hid HS
              clear hin hL
              generalize payN (befB xs k + (j : Int) + 1) r = v at *
              generalize payK xs r a (b - a).toNat k = s0 at *
              generalize sumR (onR a (b - 1) (payS xs r k)) f j = s1 at *
              generalize befB xs k = b0 at *
              go_wp2_with (first | (go_at_call 54; (with_reducible refine (HDj _).mono ?_); rintro ee w9 ⟨rfl, rfl⟩) | (go_at_call 58; (with_reducible refine (HVj.out _).mono ?_); rintro ee w8 ⟨rfl, rfl⟩))
              go_roundw
              case rel => exact ⟨j + 1, by omega, by first | go_num | (congr 1; omega), by first | go_num | (congr 1; omega), by rw [HS.out, Int.add_assoc], hQ⟩
              case measure => simp [intOf]; omega
            | false =>
              rw [onR_miss hin, Int.add_zero] at HS
              rw [hin] at HDj
              have HS := Lib.hid HS
              clear hin hL
              generalize payN (befB xs k + (j : Int) + 1) r = v at *
              generalize payK xs r a (b - a).toNat k = s0 at *
              generalize sumR (onR a (b - 1) (payS xs r k)) f j = s1 at *
              generalize befB xs k = b0 at *
              go_wp2_with (first | (go_at_call 54; (with_reducible refine (HDj _).mono ?_); rintro ee w9 ⟨rfl, rfl⟩))
              go_roundw
              case rel => exact ⟨j + 1, by omega, by first | go_num | (congr 1; omega), by first | go_num | (congr 1; omega), by rw [HS.out], hQ⟩
              case measure => simp [intOf]; omega
          · have hd1 : ¬ f + (j : Int) < t := by omega
            have HJ : Hid (j = (t - f).toNat) := by show _ = _; omega
            have hB3 := bel_step hB2 hQ
            clear hL
            go_wp2
            go_roundw
            case rel => exact ⟨k + 1, by omega, by go_num, by rw [HN.out]; congr 1; omega, by rw [HK1.out, ← HJ.out], hB3⟩
            case measure => simp [intOf]; omega
    · have HK2 : Hid (payK xs r a (b - a).toNat k = payT xs r a (b - a).toNat) := by
        show _ = _
        rw [← HE.out, hl.out, show k = n by omega]
      go_wp2
      go_returns
      exact ⟨by rw [← HK2.out]; rfl, hR⟩
set_option maxHeartbeats 1000000 in
theorem sPbt_no (A : Option Addr) (n c : Nat) (xs : List (Int × Int)) (w : World) (h : RdP w w.heap.size A n xs) (f t r : Int) (k : Int) (hm : n ≤ 1048576) (ha : spC xs (pbB f t r) = k) (hk : k ≠ 0) : Calls Try.prog 32 #[.slice A n c, .int .i64 f, .int .i64 t, .int .i64 r] w fun ee w' => ee = .returned (.tuple #[.int .i64 (0), .int .i64 (k)]) ∧ Below w.heap.size w w' := by
  have HC := Lib.hid (fun W hR t => sCk_any A n c xs W hR t hm)
  have HI := Lib.hid (fun W => sIn_any f 0 100000 W)
  have HJ := Lib.hid (fun W => sIn_any t f 100000 W)
  have HR := Lib.hid (fun W => sRate_any r W)
  have H := Lib.hid h
  unfold pbB at ha
  clear h
  generalize inR 0 100000 f = b1 at *
  generalize inR f 100000 t = b2 at *
  generalize inR 1 100000 r = b3 at *
  cases b1 <;> cases b2 <;> cases b3
  all_goals simp only [Bool.and_true, Bool.and_false, Bool.true_and, Bool.false_and] at ha
  all_goals
    have HC := fun W hR t' => HC.out W hR t'
    first | (have HC := fun W hR => HC W hR false; rw [ha] at HC; have HC := Lib.hid HC; clear ha) | (have HC := fun W hR => HC W hR true; rw [ha] at HC; have HC := Lib.hid HC; clear ha)
    go_enter Try.func32, Try.ntmps32
    go_wp2_with (first | (go_at_call 54; (with_reducible refine (HI.out _).mono ?_); rintro ee w9 ⟨rfl, rfl⟩) | (go_at_call 54; (with_reducible refine (HJ.out _).mono ?_); rintro ee w9 ⟨rfl, rfl⟩) | (go_at_call 57; (with_reducible refine (HR.out _).mono ?_); rintro ee w8 ⟨rfl, rfl⟩) | (go_at_call 53; (with_reducible refine Calls.mono (HC.out _ H.out) ?_); rintro ee w1 ⟨rfl, hb1⟩; have hB1 := bel_step (Below.refl _ _) hb1))
    go_returns
    exact ⟨rfl, hB1⟩
theorem sPbt_any (A : Option Addr) (n c : Nat) (xs : List (Int × Int)) (w : World) (h : RdP w w.heap.size A n xs) (f t r : Int) (hm : n ≤ 1048576) : Calls Try.prog 32 #[.slice A n c, .int .i64 f, .int .i64 t, .int .i64 r] w fun ee w' => ee = .returned (.tuple #[.int .i64 (pbV xs f t r), .int .i64 (spC xs (pbB f t r))]) ∧ Below w.heap.size w w' := by
  rcases spC_cases xs (pbB f t r) with ⟨h0, ha, hd⟩ | ⟨h0, ha, hd⟩ | ⟨h0, ha⟩
  · have e : pbV xs f t r = payT xs r f (t - f).toNat := if_pos h0
    rw [e, h0]
    exact sPbt_in A n c xs w h f t r hm ha hd
  all_goals
    have e : pbV xs f t r = 0 := if_neg (by rw [h0]; decide)
    rw [e]
    exact sPbt_no A n c xs w h f t r _ hm rfl (by rw [h0]; decide)
end Go.Proofs.Ytldemcdocpdkfaa
