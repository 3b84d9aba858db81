/-
  Contracts: ExpectedYears.
-/
import Derived.Test.YtggfonpjmplmfaaK3
import Derived.Test.YtggfonpjmplmfaaN3
set_option linter.unusedSimpArgs false
set_option linter.unusedVariables false
namespace Go.Proofs.Ytggfonpjmplmfaa
open Go.RowKit
/-- the sum of what stands from place m on -/
def restS (xs : List Int) (m : Nat) : Int := (xs.drop m).sum
theorem rest_end {xs : List Int} {m : Nat} (h : xs.length ≤ m) : restS xs m = 0 := by unfold restS; rw [List.drop_of_length_le h]; rfl
theorem rest_step {xs : List Int} {m : Nat} (h : m < xs.length) : restS xs m = gv xs m + restS xs (m + 1) := by
  unfold restS
  rw [List.drop_eq_getElem_cons h, List.sum_cons, gv_at (List.getElem?_eq_getElem h)]
theorem rest_bd {xs : List Int} (h : ∀ i, i < xs.length → 0 ≤ gv xs i ∧ gv xs i ≤ 1000000) (hn : xs.length ≤ 120) : ∀ m, 0 ≤ restS xs m ∧ restS xs m ≤ 120000000 := by
  have H : ∀ k m, xs.length - m = k → 0 ≤ restS xs m ∧ restS xs m ≤ 1000000 * (k : Int) := by
    intro k
    induction k with
    | zero => intro m hm; rw [rest_end (by omega)]; omega
    | succ k ih =>
      intro m hm
      have h1 := ih (m + 1) (by omega)
      have h2 := h m (by omega)
      rw [rest_step (by omega)]
      omega
  intro m
  have := H _ m rfl
  omega
set_option maxHeartbeats 1000000 in
theorem total_any (A : Option Addr) (n c : Nat) (ys : List Int) (w : World) (h : RdI w w.heap.size A n ys) (hn : n ≤ 120) (hb : ∀ m, 0 ≤ restS ys m ∧ restS ys m ≤ 120000000) : Calls Try.prog 64 #[.slice A n c] w fun e w' => e = .returned (.int .i64 (restS ys 0)) ∧ w = w' := by
  have hl := h.len
  have HB := Lib.hid hb
  have H := Lib.hid h
  have b0 := hb 0
  have HS := Lib.hid (fun k (hk : k < n) => rest_step (xs := ys) (m := k) (by omega))
  have HE := Lib.hid (rest_end (xs := ys) (m := n) (by omega))
  clear h hb
  generalize hS : restS ys 0 = S at *
  go_enter Try.func64, Try.ntmps64
  go_wp2
  go_loop [3, 5, 8] (fun s u i => ∃ (k : Nat) (a : Int), k ≤ n ∧ i = .int .i64 k ∧ s = .int .i64 a ∧ Hid (a + restS ys k = S)) (fun _ _ i => n - (intOf i).toNat)
  case atStart => exact ⟨0, 0, Nat.zero_le _, rfl, rfl, by show _ = _; rw [hS]; omega⟩
  case round =>
    obtain ⟨k, a, hk, rfl, rfl, HK⟩ := hrel
    have b1 := HB.out k
    have e1 := HK.out
    by_cases hlt : k < n
    · obtain ⟨ad, rfl, hb, kk⟩ := RdI.atG H.out hlt
      have b2 := HB.out (k + 1)
      have e2 := HS.out k hlt
      have HN : Hid (a + gv ys k + restS ys (k + 1) = S) := by show _ = _; omega
      have q : IntKind.i64.wrap (a + gv ys k) = a + gv ys k := IntWalk.i64_in _ (by omega)
      generalize gv ys k = Z at *
      clear e1 e2 b1 b2
      go_wp2
      go_round
      case rel => exact ⟨k + 1, a + Z, by omega, by go_num, rfl, HN.out⟩
      case measure => simp [intOf]; omega
    · obtain rfl : k = n := by omega
      have HX : Hid (a = S) := by show _ = _; have := HE.out; omega
      go_wp2
      go_ret
      exact ⟨by rw [← HX.out]; rfl, rfl⟩
noncomputable def exV (f : Int) (n : Nat) (xs : List Int) (age : Int) : Value := if alC f n xs age = 0 then .tuple #[.int .i64 (fr (restS xs (age - f + 1).toNat) (lv f n xs age) (restS xs (age - f + 1).toNat)), .int .i64 (fr (restS xs (age - f + 1).toNat) (lv f n xs age) (lv f n xs age)), .int .i64 0] else .tuple #[.int .i64 0, .int .i64 0, .int .i64 (alC f n xs age)]
set_option maxHeartbeats 2000000 in
theorem iExp_any (f : Int) (A : Option Addr) (n c : Nat) (xs : List Int) (age : Int) (w : World) (h : RdI w w.heap.size A n xs) (hc : n ≤ c) (hcm : c ≤ maxLen) (hn : n ≤ 1048576) : Calls Try.prog 30 #[.agg #[.int .i64 f, .slice A n c], .int .i64 age] w fun e w' => e = .returned (exV f n xs age) ∧ Below w.heap.size w w' := by
  have HC := fun W (hB : Below w.heap.size w W) => alive_any f A n c xs age W ((h.below hB).more hB.size) hc hcm hn
  by_cases e : alC f n xs age = 0
  · obtain ⟨e1, e3⟩ := alC_split e
    obtain ⟨hT, ha⟩ := ageC_split e1
    have hf0 := hT.1
    have hn0 := hT.2.1.2
    have hlt : age < f + n := by
      by_cases hx : age < f + n
      · exact hx
      · exact absurd (lv_out hx).out e3
    have HQ : Hid (exV f n xs age = .tuple #[.int .i64 (fr (restS xs (age - f + 1).toNat) (lv f n xs age) (restS xs (age - f + 1).toNat)), .int .i64 (fr (restS xs (age - f + 1).toNat) (lv f n xs age) (lv f n xs age)), .int .i64 0]) := if_pos e
    have HL := Lib.hid (fun W (hB : Below w.heap.size w W) => iLives_any f A n c xs age W ((h.below hB).more hB.size) hT.1 hT.2.1.2 ⟨by omega, by omega⟩)
    have hl := h.len
    have hbd := rest_bd (xs := xs) (by rw [hl]; exact okT_mono hT) (by omega)
    have hk : age - f + 1 = (((age - f + 1).toNat : Nat) : Int) := by omega
    have hkn : (age - f + 1).toNat ≤ n := by omega
    have hn2 := hT.2.1.1
    obtain ⟨ad, rfl, _, _⟩ := RdI.atG h (k := 0) (by omega)
    generalize (age - f + 1).toNat = k at *
    have HT := (fun W cc (hB : Below w.heap.size w W) => total_any _ (n - k) cc (xs.drop k) W (((h.below hB).more hB.size).cut (k := k) (cap := c) hkn hc) (by omega) (by intro m; unfold restS; rw [List.drop_drop]; exact hbd (k + m)))
    have hbk := hbd k
    have hr0 : restS (xs.drop k) 0 = restS xs k := rfl
    rw [hr0] at HT
    rw [e] at HC
    have HC := Lib.hid HC
    have b1 := lv_bd hT ha.1
    clear h e e1 hT hbd hr0
    generalize lv f n xs age = L at *
    generalize restS xs k = R at *
    have HX := Lib.hid (fun W => iFr_any R L W (by omega) (by omega))
    go_enter Try.func30, Try.ntmps30
    go_wp2_with (go_at_call 55; (with_reducible refine (HC.out _ (by go_grown)).mono ?_); rintro ee w1 ⟨rfl, hb1⟩; obtain ⟨hc1, hf1⟩ := bcell hb1; have hB1 := bel_step (w := w) (by go_grown) hb1; have hz1 := hb1.size; (try simp at hz1); have hy1 : w.heap.size < w1.heap.size := by omega)
    have c0 : w1.cell? ⟨w.heap.size, 0, none⟩ = some (.int .i64 f) := by rw [hc1 _ _ (by simp)]; simp [go_sem]
    have c1 : w1.cell? ⟨w.heap.size, 1, none⟩ = some (.slice (some ad) n c) := by rw [hc1 _ _ (by simp)]; simp [go_sem]
    clear hc1 hf1
    rw [Option.map_some, Nat.mul_one] at HT
    have q1 := IntWalk.i64_in (age - f) (by omega)
    have q2 : IntKind.i64.wrap (age - f + 1) = (k : Int) := (IntWalk.i64_in (age - f + 1) (by omega)).trans hk
    have p1 : (0 : Int) ≤ (k : Int) := by omega
    have p2 : (k : Int) ≤ (n : Int) := by omega
    have p3 : (n : Int) ≤ (c : Int) := by omega
    have p4 : (k : Int) ≤ (c : Int) := by omega
    unfold maxLen at hcm
    clear hk hl
    by_cases hck : c = k
    · rw [if_pos hck] at HT
      have e1 : k = n := by omega
      subst e1
      subst hck
      rw [Nat.sub_self] at HT
      have HT := Lib.hid HT
      go_region_held3 (fun W' => Below w1.heap.size w1 W' ∧ ∀ b o, b < w1.heap.size → W'.cell? ⟨b, o, none⟩ = w1.cell? ⟨b, o, none⟩) (first | exact bS (Below.refl _ _).drew | exact bS hb5 | exact bS hb3) (first | (go_at_call 52; (with_reducible refine Calls.mono (HL.out _ ?_) ?_); (exact hB1.drew); rintro ee w3 ⟨rfl, hb3⟩; have hb3 := bel_step (w := w1) (Below.refl _ _).drew hb3; have hB3 := bel_step hB1 hb3) | (go_at_call 64; (with_reducible refine Calls.mono (HT.out _ _ ?_) ?_); (first | exact hB1.drew | exact hB3); rintro ee w4 ⟨rfl, rfl⟩) | (go_at_call 59; (with_reducible refine Calls.mono (HX.out _) ?_); rintro ee w5 ⟨rfl, hb5⟩; have hb5 := bel_step (w := w1) hb3 hb5; have hB5 := bel_step hB1 hb5))
      go_wp2
      go_returns
      exact ⟨by rw [HQ.out]; rfl, hB5⟩
    · rw [if_neg hck] at HT
      have HT := Lib.hid HT
      go_region_held3 (fun W' => Below w1.heap.size w1 W' ∧ ∀ b o, b < w1.heap.size → W'.cell? ⟨b, o, none⟩ = w1.cell? ⟨b, o, none⟩) (first | exact bS (Below.refl _ _).drew | exact bS hb5 | exact bS hb3) (first | (go_at_call 52; (with_reducible refine Calls.mono (HL.out _ ?_) ?_); (exact hB1.drew); rintro ee w3 ⟨rfl, hb3⟩; have hb3 := bel_step (w := w1) (Below.refl _ _).drew hb3; have hB3 := bel_step hB1 hb3) | (go_at_call 64; (with_reducible refine Calls.mono (HT.out _ _ ?_) ?_); (first | exact hB1.drew | exact hB3); rintro ee w4 ⟨rfl, rfl⟩) | (go_at_call 59; (with_reducible refine Calls.mono (HX.out _) ?_); rintro ee w5 ⟨rfl, hb5⟩; have hb5 := bel_step (w := w1) hb3 hb5; have hB5 := bel_step hB1 hb5))
      go_wp2
      go_returns
      exact ⟨by rw [HQ.out]; rfl, hB5⟩
  · have HQ : Hid (exV f n xs age = .tuple #[.int .i64 0, .int .i64 0, .int .i64 (alC f n xs age)]) := if_neg e
    clear h
    generalize alC f n xs age = k at *
    have HC := Lib.hid HC
    go_enter Try.func30, Try.ntmps30
    go_wp2_with (go_at_call 55; (with_reducible refine (HC.out _ (by go_grown)).mono ?_); rintro ee w1 ⟨rfl, hb1⟩; obtain ⟨hc1, hf1⟩ := bcell hb1; have hB1 := bel_step (w := w) (by go_grown) hb1; have hz1 := hb1.size; (try simp at hz1); have hy1 : w.heap.size < w1.heap.size := by omega)
    (go_returns; exact ⟨by rw [HQ.out]; rfl, by go_grown⟩)
set_option maxHeartbeats 1000000 in
theorem sEnd_any (f : Int) (A : Option Addr) (n c : Nat) (w : World) (hf : 0 ≤ f ∧ f ≤ 100) (hn : n ≤ 1048576) : Calls Try.prog 63 #[.agg #[.int .i64 f, .slice A n c]] w fun e w' => e = .returned (.int .i64 (f + n - 1)) ∧ Below w.heap.size w w' := by
  go_enter Try.func63, Try.ntmps63
  go_wp2
  go_returns
  exact ⟨rfl, by go_grown⟩
theorem exV_shape (f : Int) (n : Nat) (xs : List Int) (age : Int) : ∃ a b k, exV f n xs age = .tuple #[.int .i64 a, .int .i64 b, .int .i64 k] := by
  unfold exV
  split
  · exact ⟨_, _, _, rfl⟩
  · exact ⟨_, _, _, rfl⟩
theorem rest_last {xs : List Int} {m n : Nat} (hl : xs.length = n) (h : n - 1 ≤ m) (hn : 1 ≤ n) (h0 : gv xs (n - 1) = 0) : restS xs m = 0 := by
  rcases Nat.lt_or_ge m n with h1 | h1
  · obtain rfl : m = n - 1 := by omega
    rw [rest_step (by omega), h0, rest_end (by omega)]
    rfl
  · exact rest_end (by omega)
set_option maxHeartbeats 2000000 in
theorem sExp_any (f : Int) (A : Option Addr) (n c : Nat) (xs : List Int) (age : Int) (w : World) (h : RdI w w.heap.size A n xs) (hc : n ≤ c) (hcm : c ≤ maxLen) (hn : n ≤ 1048576) : Calls Try.prog 29 #[.agg #[.int .i64 f, .slice A n c], .int .i64 age] w fun e w' => e = .returned (exV f n xs age) ∧ Below w.heap.size w w' := by
  have HC := fun W (hB : Below w.heap.size w W) => sIsT_any_age f A n c xs age W ((h.below hB).more hB.size) hc hcm hn
  by_cases e : alC f n xs age = 0
  · obtain ⟨e1, e3⟩ := alC_split e
    obtain ⟨hT, ha⟩ := ageC_split e1
    have hf0 := hT.1
    have hn0 := hT.2.1.2
    have hlt : age < f + n := by
      by_cases hx : age < f + n
      · exact hx
      · exact absurd (lv_out hx).out e3
    have HQ : Hid (exV f n xs age = .tuple #[.int .i64 (fr (restS xs (age - f + 1).toNat) (lv f n xs age) (restS xs (age - f + 1).toNat)), .int .i64 (fr (restS xs (age - f + 1).toNat) (lv f n xs age) (lv f n xs age)), .int .i64 0]) := if_pos e
    have HL := Lib.hid (fun W x (hx : age ≤ x ∧ x ≤ 1000) (hB : Below w.heap.size w W) => sLives_any f A n c xs x W ((h.below hB).more hB.size) hT.1 hT.2.1.2 ⟨by omega, by omega⟩)
    have HLa := fun W hB => HL.out W age ⟨by omega, by omega⟩ hB
    have HEn := Lib.hid (fun W => sEnd_any f A n c W hf0 hn)
    have hl := h.len
    have hbd := rest_bd (xs := xs) (by rw [hl]; exact okT_mono hT) (by omega)
    have hk : age - f + 1 = (((age - f + 1).toNat : Nat) : Int) := by omega
    have hkn : (age - f + 1).toNat ≤ n := by omega
    generalize (age - f + 1).toNat = k at *
    have HB := Lib.hid hbd
    have HLast := Lib.hid (fun m (hm : n - 1 ≤ m) => rest_last (m := m) hl hm (by omega) hT.2.2.2.1)
    have HS := Lib.hid (fun m (hm : m < n) => rest_step (xs := xs) (m := m) (by omega))
    have HV := Lib.hid (fun m (hm : m < n) => (lv_in (f := f) (n := n) (xs := xs) (age := f + m) (by omega)).out)
    have hbk := hbd k
    have b1 := lv_bd hT ha.1
    rw [e1] at HC
    have HC := Lib.hid HC
    clear h e e1 hT hbd
    generalize lv f n xs age = L at *
    generalize hR0 : restS xs k = R at *
    have HX := Lib.hid (fun W => sFr_any R L W (by omega) (by omega))
    have HLa := Lib.hid HLa
    have hage : age + 1 = f + k := by omega
    have qa : IntKind.i64.wrap (age + 1) = f + k := (IntWalk.i64_in (age + 1) (by omega)).trans hage
    go_enter Try.func29, Try.ntmps29
    go_wp2_with (first | (go_at_call 48; (with_reducible refine (HC.out _ (by go_grown)).mono ?_); rintro ee w1 ⟨rfl, hb1⟩; obtain ⟨hc1, hf1⟩ := bcell hb1; have hB1 := bel_step (w := w) (by go_grown) hb1; have hz1 := hb1.size; (try simp at hz1); have hy1 : w.heap.size < w1.heap.size := by omega) | (go_at_call 49; (with_reducible refine (HLa.out _ (by go_grown)).mono ?_); rintro ee w2 ⟨rfl, hb2⟩; obtain ⟨hc2, hf2⟩ := bcell hb2; have hB2 := bel_step (w := w) (by go_grown) hb2; have hz2 := hb2.size; (try simp at hz2); have hy2 : w.heap.size < w2.heap.size := by omega))
    have c0 : w2.cell? ⟨w.heap.size, 0, none⟩ = some (.int .i64 f) := by rw [hc2 _ _ hy1, hc1 _ _ (by simp)]; simp [go_sem]
    have c1 : w2.cell? ⟨w.heap.size, 1, none⟩ = some (.slice A n c) := by rw [hc2 _ _ hy1, hc1 _ _ (by simp)]; simp [go_sem]
    clear hc1 hf1 hc2 hf2
    have hL0 : (L == (0 : Int)) = false := by simpa using e3
    simp only [hL0]
    go_loopw [8, 9] (fun s t wr => ∃ (m : Nat) (a : Int), k ≤ m ∧ m ≤ n ∧ s = .int .i64 a ∧ t = .int .i64 (f + m) ∧ Hid (a + restS xs m = R) ∧ Below w2.heap.size w2 wr) (fun _ t _ => (f + n - intOf t).toNat)
    case atStart => exact ⟨k, 0, by omega, by omega, rfl, by first | rfl | rw [hage], by show _ = _; rw [hR0]; omega, Below.refl _ _⟩
    case round =>
      obtain ⟨m, a, hm1, hm2, rfl, rfl, HK, hRw⟩ := hrel
      have hR := bel_step hB2 hRw
      have d0 := (hRw.cell (p := ⟨w.heap.size, 0, none⟩) hy2).trans c0
      have d1 := (hRw.cell (p := ⟨w.heap.size, 1, none⟩) hy2).trans c1
      have hyr : w.heap.size < wr.heap.size := Nat.lt_of_lt_of_le hy2 hRw.size
      have bm := HB.out m
      have ek := HK.out
      by_cases hmn : m < n - 1
      · have bm2 := HB.out (m + 1)
        have es := HS.out m (by omega)
        have ev := HV.out m (by omega)
        rw [show (f + (m : Int) - f).toNat = m from by omega] at ev
        have H1 := fun W hB => HL.out W (f + m) ⟨by omega, by omega⟩ hB
        rw [ev] at H1
        have H1 := Lib.hid H1
        have HN : Hid (a + gv xs m + restS xs (m + 1) = R) := by show _ = _; omega
        have q : IntKind.i64.wrap (a + gv xs m) = a + gv xs m := IntWalk.i64_in _ (by omega)
        have q5 : IntKind.i64.wrap (f + (m : Int) + 1) = f + ((m + 1 : Nat) : Int) := (IntWalk.i64_in _ (by omega)).trans (by omega)
        generalize gv xs m = Z at *
        clear ek bm bm2 es ev
        go_wp2_with (first | (go_at_call 63; (with_reducible refine (HEn.out _).mono ?_); rintro ee w3 ⟨rfl, hb3⟩; obtain ⟨hc3, hf3⟩ := bcell hb3; have hB3 := bel_step (w := w) (by go_grown) hb3; have hz3 := hb3.size; (try simp at hz3); have hy3 : w.heap.size < w3.heap.size := by omega) | (go_at_call 49; (with_reducible refine (H1.out _ (by go_grown)).mono ?_); rintro ee w4 ⟨rfl, hb4⟩; obtain ⟨hc4, hf4⟩ := bcell hb4; have hB4 := bel_step (w := w) (by go_grown) hb4; have hz4 := hb4.size; (try simp at hz4); have hy4 : w.heap.size < w4.heap.size := by omega))
        go_roundw
        case rel => exact ⟨m + 1, a + Z, by omega, by omega, rfl, by first | rfl | rw [q5], HN.out, bel_step (bel_step hRw hb3) hb4⟩
        case measure => simp [intOf]; omega
      · have er := HLast.out m (by omega)
        have HA : Hid (a = R) := by show _ = _; omega
        obtain rfl := HA.out
        clear ek er
        go_wp2_with (first | (go_at_call 63; (with_reducible refine (HEn.out _).mono ?_); rintro ee w3 ⟨rfl, hb3⟩; obtain ⟨hc3, hf3⟩ := bcell hb3; have hB3 := bel_step (w := w) (by go_grown) hb3; have hz3 := hb3.size; (try simp at hz3); have hy3 : w.heap.size < w3.heap.size := by omega) | (go_at_call 49; (with_reducible refine (HLa.out _ (by go_grown)).mono ?_); rintro ee w4 ⟨rfl, hb4⟩; obtain ⟨hc4, hf4⟩ := bcell hb4; have hB4 := bel_step (w := w) (by go_grown) hb4; have hz4 := hb4.size; (try simp at hz4); have hy4 : w.heap.size < w4.heap.size := by omega) | (go_at_call 57; (with_reducible refine (HX.out _).mono ?_); rintro ee w5 ⟨rfl, hb5⟩; obtain ⟨hc5, hf5⟩ := bcell hb5; have hB5 := bel_step (w := w) (by go_grown) hb5; have hz5 := hb5.size; (try simp at hz5); have hy5 : w.heap.size < w5.heap.size := by omega))
        go_returns
        exact ⟨by rw [HQ.out]; rfl, by go_grown⟩
  · have HQ0 : Hid (exV f n xs age = .tuple #[.int .i64 0, .int .i64 0, .int .i64 (alC f n xs age)]) := if_neg e
    by_cases e1 : ageC f n xs age = 0
    · obtain ⟨hT, ha⟩ := ageC_split e1
      have e3 : lv f n xs age = 0 := by
        by_cases h3 : lv f n xs age = 0
        · exact h3
        · exact absurd (alC_0 e1 h3).out e
      have HL := fun W (hB : Below w.heap.size w W) => sLives_any f A n c xs age W ((h.below hB).more hB.size) hT.1 hT.2.1.2 ⟨ha.1, by omega⟩
      have HQ : Hid (exV f n xs age = .tuple #[.int .i64 0, .int .i64 0, .int .i64 5]) := by
        show _ = _
        rw [HQ0.out, (alC_5 e1 e3).out]
      rw [e3] at HL
      have HL := Lib.hid HL
      rw [e1] at HC
      have HC := Lib.hid HC
      clear h e e1 e3 hT HQ0
      go_enter Try.func29, Try.ntmps29
      go_wp2_with (first | (go_at_call 48; (with_reducible refine (HC.out _ (by go_grown)).mono ?_); rintro ee w1 ⟨rfl, hb1⟩; obtain ⟨hc1, hf1⟩ := bcell hb1; have hB1 := bel_step (w := w) (by go_grown) hb1; have hz1 := hb1.size; (try simp at hz1); have hy1 : w.heap.size < w1.heap.size := by omega) | (go_at_call 49; (with_reducible refine (HL.out _ (by go_grown)).mono ?_); rintro ee w2 ⟨rfl, hb2⟩; obtain ⟨hc2, hf2⟩ := bcell hb2; have hB2 := bel_step (w := w) (by go_grown) hb2; have hz2 := hb2.size; (try simp at hz2); have hy2 : w.heap.size < w2.heap.size := by omega))
      (go_returns; exact ⟨by rw [HQ.out]; rfl, by go_grown⟩)
    · have HQ : Hid (exV f n xs age = .tuple #[.int .i64 0, .int .i64 0, .int .i64 (ageC f n xs age)]) := by
        show _ = _
        rw [HQ0.out, (alC_k e1).out]
      clear h HQ0
      generalize ageC f n xs age = k at *
      have HC := Lib.hid HC
      go_enter Try.func29, Try.ntmps29
      go_wp2_with (go_at_call 48; (with_reducible refine (HC.out _ (by go_grown)).mono ?_); rintro ee w1 ⟨rfl, hb1⟩; obtain ⟨hc1, hf1⟩ := bcell hb1; have hB1 := bel_step (w := w) (by go_grown) hb1; have hz1 := hb1.size; (try simp at hz1); have hy1 : w.heap.size < w1.heap.size := by omega)
      (go_returns; exact ⟨by rw [HQ.out]; rfl, by go_grown⟩)
end Go.Proofs.Ytggfonpjmplmfaa
