/-
  Contract of the columns: the list of the columns for the ages from the first to the last.
-/
import Derived.Test.Ytmefjjamkebinaa31
import Derived.Test.YtmefjjamkebinaaV3
import Derived.Test.YtmefjjamkebinaaRT
set_option linter.unusedSimpArgs false
set_option linter.unusedVariables false
namespace Go.Proofs.Ytmefjjamkebinaa
open Go.RowKit
/-- the sum of c values from k on -/
def sumF (g : Nat → Int) : Nat → Nat → Int
  | 0, _ => 0
  | c + 1, k => g k + sumF g c (k + 1)
theorem sumF_bd {g : Nat → Int} {b : Int} (h : ∀ j, 0 ≤ g j ∧ g j ≤ b) : ∀ c k, 0 ≤ sumF g c k ∧ sumF g c k ≤ c * b
  | 0, k => by unfold sumF; simp
  | c + 1, k => by
    have h1 := h k
    have h2 := sumF_bd h c (k + 1)
    have h3 : ((c + 1 : Nat) : Int) * b = c * b + b := by rw [Int.natCast_add, Int.add_mul]; simp
    unfold sumF
    rw [h3]
    omega
theorem sumF_zero {g : Nat → Int} : ∀ c k, (∀ j, k ≤ j → j < k + c → g j = 0) → sumF g c k = 0
  | 0, k, _ => rfl
  | c + 1, k, h => by
    unfold sumF
    rw [h k (Nat.le_refl _) (by omega), sumF_zero c (k + 1) (fun j h1 h2 => h j (by omega) (by omega))]
    rfl
/-- the columns D and C at the k-th age -/
def cD (f : Int) (n : Nat) (xs : List Int) (r : Int) (k : Nat) : Int := if k ≤ 120 then lv f n xs (f + k) * dsc r k else 0
def cC (f : Int) (n : Nat) (xs : List Int) (r : Int) (k : Nat) : Int := if k + 1 ≤ 120 then (lv f n xs (f + k) - lv f n xs (f + k + 1)) * dsc r (k + 1) else 0
theorem mul_bd15 {a d : Int} (ha : 0 ≤ a ∧ a ≤ 1000000) (hd : 0 ≤ d ∧ d ≤ 1000000000) : 0 ≤ a * d ∧ a * d ≤ 1000000000000000 := by
  have h1 := Int.mul_nonneg ha.1 hd.1
  have h2 : a * d ≤ 1000000 * 1000000000 := Int.mul_le_mul ha.2 hd.2 hd.1 (by omega)
  omega
theorem lv_dn {f : Int} {n : Nat} {xs : List Int} (h : okTP f n xs) {x : Int} (hx : f ≤ x) : lv f n xs (x + 1) ≤ lv f n xs x := by
  obtain ⟨h1, h2, h3, h4, h5, h6⟩ := h
  by_cases hl : x + 1 < f + n
  · have e1 : lv f n xs (x + 1) = gv xs (x + 1 - f).toNat := if_pos hl
    have e2 : lv f n xs x = gv xs (x - f).toNat := if_pos (by omega)
    rw [e1, e2]
    obtain ⟨k, hk⟩ : ∃ k : Nat, x - f = k := ⟨(x - f).toNat, by omega⟩
    have e3 : (x - f).toNat = k := by omega
    have e4 : (x + 1 - f).toNat = k + 1 := by omega
    rw [e3, e4]
    by_cases h7 : k + 1 < n - 1
    · have h9 := (h6 (k + 1) h7).2 (by omega)
      rw [Nat.add_sub_cancel] at h9
      exact h9
    · have h8 : k + 1 = n - 1 := by omega
      rw [h8, h4]
      have := okT_mono ⟨h1, h2, h3, h4, h5, h6⟩ k (by omega)
      exact this.1
  · have e1 : lv f n xs (x + 1) = 0 := if_neg hl
    rw [e1]
    exact (lv_bd ⟨h1, h2, h3, h4, h5, h6⟩ hx).1
theorem cD_bd {f : Int} {n : Nat} {xs : List Int} {r : Int} (h : okTP f n xs) (hr : 0 ≤ r ∧ r ≤ 200) (k : Nat) : 0 ≤ cD f n xs r k ∧ cD f n xs r k ≤ 1000000000000000 := by
  unfold cD
  split
  · exact mul_bd15 (lv_bd h (by omega)) (dsc_bd hr k)
  · omega
theorem cC_bd {f : Int} {n : Nat} {xs : List Int} {r : Int} (h : okTP f n xs) (hr : 0 ≤ r ∧ r ≤ 200) (k : Nat) : 0 ≤ cC f n xs r k ∧ cC f n xs r k ≤ 1000000000000000 := by
  unfold cC
  split
  · have h1 := lv_bd h (age := f + k) (by omega)
    have h2 := lv_bd h (age := f + k + 1) (by omega)
    have h3 := lv_dn h (x := f + k) (by omega)
    exact mul_bd15 (by omega) (dsc_bd hr (k + 1))
  · omega
/-- the cells of a list of columns, from place k on -/
def colsOK (D N C E : Nat → Int) (cs : Array Value) (k M : Nat) : Prop := ∀ j, k ≤ j → j < M → cs[j * 4]? = some (.int .i64 (D j)) ∧ cs[j * 4 + 1]? = some (.int .i64 (N j)) ∧ cs[j * 4 + 2]? = some (.int .i64 (C j)) ∧ cs[j * 4 + 3]? = some (.int .i64 (E j))
theorem colsOK_step {D N C E : Nat → Int} {cs : Array Value} {k M : Nat} (h : colsOK D N C E cs (k + 1) M) (hs : k * 4 + 4 ≤ cs.size) : colsOK D N C E ((((cs.setIfInBounds (k * 4) (.int .i64 (D k))).setIfInBounds (k * 4 + 1) (.int .i64 (N k))).setIfInBounds (k * 4 + 2) (.int .i64 (C k))).setIfInBounds (k * 4 + 3) (.int .i64 (E k))) k M := by
  intro j h1 h2
  rcases Nat.lt_or_ge k j with h3 | h3
  · have h4 := h j (by omega) h2
    simp only [Array.getElem?_setIfInBounds, Array.size_setIfInBounds]
    refine ⟨?_, ?_, ?_, ?_⟩
    · rw [if_neg (by omega), if_neg (by omega), if_neg (by omega), if_neg (by omega)]; exact h4.1
    · rw [if_neg (by omega), if_neg (by omega), if_neg (by omega), if_neg (by omega)]; exact h4.2.1
    · rw [if_neg (by omega), if_neg (by omega), if_neg (by omega), if_neg (by omega)]; exact h4.2.2.1
    · rw [if_neg (by omega), if_neg (by omega), if_neg (by omega), if_neg (by omega)]; exact h4.2.2.2
  · obtain rfl : j = k := by omega
    simp only [Array.getElem?_setIfInBounds, Array.size_setIfInBounds]
    refine ⟨?_, ?_, ?_, ?_⟩
    · rw [if_neg (by omega), if_neg (by omega), if_neg (by omega), if_pos trivial, if_pos (by omega)]
    · rw [if_neg (by omega), if_neg (by omega), if_pos trivial, if_pos (by omega)]
    · rw [if_neg (by omega), if_pos trivial, if_pos (by omega)]
    · rw [if_pos trivial, if_pos (by omega)]
set_option maxHeartbeats 400000 in
theorem lengthC_any (A : Option Addr) (n c : Nat) (w : World) (hn : n ≤ 1048576) : Calls Try.prog 68 #[.slice A n c] w fun e w' => e = .returned (.int .i64 (n : Int)) ∧ w = w' := by
  go_enter Try.func68, Try.ntmps68
  go_wp2
  go_ret
  exact ⟨rfl, rfl⟩
theorem Blk.drew1 {w : World} {g : Nat} {t : TypeId} {cs : Array Value} (h : Blk w g t cs) : Blk w.drew g t cs := h
theorem cO4 {W : World} {t : TypeId} {g : Nat} {cs : Array Value} (h : Blk W g t cs) {k : Nat} (hk : k * 4 + 4 ≤ cs.size) : ((∃ v, W.cell? ⟨g, k * 4, none⟩ = some v) ∧ (∃ v, W.cell? ⟨g, k * 4 + 1, none⟩ = some v) ∧ (∃ v, W.cell? ⟨g, k * 4 + 2, none⟩ = some v) ∧ (∃ v, W.cell? ⟨g, k * 4 + 3, none⟩ = some v)) ∧ W.frozen? ⟨g, k * 4, none⟩ = false ∧ W.frozen? ⟨g, k * 4 + 1, none⟩ = false ∧ W.frozen? ⟨g, k * 4 + 2, none⟩ = false ∧ W.frozen? ⟨g, k * 4 + 3, none⟩ = false :=
  ⟨⟨⟨_, (h.cell _).trans (Array.getElem?_eq_getElem (by omega))⟩, ⟨_, (h.cell _).trans (Array.getElem?_eq_getElem (by omega))⟩, ⟨_, (h.cell _).trans (Array.getElem?_eq_getElem (by omega))⟩, ⟨_, (h.cell _).trans (Array.getElem?_eq_getElem (by omega))⟩⟩, h.frozen _, h.frozen _, h.frozen _, h.frozen _⟩
theorem cT2 {W : World} {t : TypeId} {g : Nat} {f : Int} {A : Option Addr} {n c : Nat} (h : Blk W g t #[.int .i64 f, .slice A n c]) : W.cell? ⟨g, 0, none⟩ = some (.int .i64 f) ∧ W.cell? ⟨g, 1, none⟩ = some (.slice A n c) ∧ W.frozen? ⟨g, 0, none⟩ = false ∧ W.frozen? ⟨g, 1, none⟩ = false := ⟨h.cell 0, h.cell 1, h.frozen 0, h.frozen 1⟩
theorem Blk.set4_0 {w : World} {g : Nat} {t : TypeId} {a b c d u : Value} (h : Blk w g t #[a, b, c, d]) : Blk (w.setCell ⟨g, 0, none⟩ u) g t #[u, b, c, d] := h.set_ 0 u
theorem Blk.set4_1 {w : World} {g : Nat} {t : TypeId} {a b c d u : Value} (h : Blk w g t #[a, b, c, d]) : Blk (w.setCell ⟨g, 1, none⟩ u) g t #[a, u, c, d] := h.set_ 1 u
theorem Blk.set4_2 {w : World} {g : Nat} {t : TypeId} {a b c d u : Value} (h : Blk w g t #[a, b, c, d]) : Blk (w.setCell ⟨g, 2, none⟩ u) g t #[a, b, u, d] := h.set_ 2 u
theorem Blk.set4_3 {w : World} {g : Nat} {t : TypeId} {a b c d u : Value} (h : Blk w g t #[a, b, c, d]) : Blk (w.setCell ⟨g, 3, none⟩ u) g t #[a, b, c, u] := h.set_ 3 u
theorem c4_cells {W : World} {t : TypeId} {g : Nat} {a b c d : Value} (h : Blk W g t #[a, b, c, d]) : (W.cell? ⟨g, 0, none⟩ = some a ∧ W.cell? ⟨g, 1, none⟩ = some b ∧ W.cell? ⟨g, 2, none⟩ = some c ∧ W.cell? ⟨g, 3, none⟩ = some d) ∧ W.frozen? ⟨g, 0, none⟩ = false ∧ W.frozen? ⟨g, 1, none⟩ = false ∧ W.frozen? ⟨g, 2, none⟩ = false ∧ W.frozen? ⟨g, 3, none⟩ = false := ⟨⟨h.cell 0, h.cell 1, h.cell 2, h.cell 3⟩, h.frozen 0, h.frozen 1, h.frozen 2, h.frozen 3⟩
set_option maxHeartbeats 4000000 in
set_option maxRecDepth 100000 in
theorem iCols_any (f : Int) (A : Option Addr) (n c : Nat) (xs : List Int) (r : Int) (M : Nat) (w : World) (h : RdI w w.heap.size A n xs) (hT : okTP f n xs) (hr : 0 ≤ r ∧ r ≤ 200) (hM : f = 151 - (M : Int)) : Calls Try.prog 54 #[.agg #[.int .i64 f, .slice A n c], .int .i64 r] w fun e w' => ∃ g cs, e = .returned (.slice (some ⟨g, 0, none⟩) M M) ∧ Blk w' g 43 cs ∧ cs.size = M * 4 ∧ colsOK (cD f n xs r) (fun k => sumF (cD f n xs r) (M - k) k) (cC f n xs r) (fun k => sumF (cC f n xs r) (M - k) k) cs 0 M ∧ w.heap.size ≤ g ∧ Below w.heap.size w w' := by
  have hf := hT.1
  have hM1 : 51 ≤ M ∧ M ≤ 151 := by omega
  have HD := Lib.hid (fun W => iDisc_any r W hr)
  have HN : (Try.prog.info? 43).map (fun i => (i.zero, i.size, i.bytes)) = some (some (.agg #[.int .i64 0, .int .i64 0, .int .i64 0, .int .i64 0]), 4, 32) := by kernel_rfl
  obtain ⟨i0, hi, hz0, hz1, hz2⟩ := info_parts HN
  have hmk := fun W => run_make_rowN (P := Try.prog) 68 43 i0 _ Try.underlying68 hi hz0 .i64 .i64 M M (Nat.le_refl _) (by rw [hz2]; omega) (by omega) W
  rw [hz1] at hmk
  have hms : (madeCells (Value.agg #[.int .i64 0, .int .i64 0, .int .i64 0, .int .i64 0]).cells (M * 4)).size = M * 4 := size_madeCells _ _
  generalize madeCells (Value.agg #[.int .i64 0, .int .i64 0, .int .i64 0, .int .i64 0]).cells (M * 4) = cs0 at *
  have hlen : 150 - f + 1 = (M : Int) := by omega
  replace hM := Lib.hid hM
  have HS0 := Lib.hid hms
  have HL := Lib.hid (fun A c W => lengthC_any A M c W (by omega))
  clear HN hi hz0 hz1 hz2 hms
  go_enter Try.func54, Try.ntmps54
  go_wp2_with (first | (go_at_call 67; (with_reducible refine Calls.mono (HD.out _) ?_); rintro ee w1 ⟨dA, dc, rfl, ho, hb1⟩; have RD := Lib.hid ho.rd.2; clear ho; have BB := Lib.hid (blk_later (Blk.new w 26 #[.int .i64 f, .slice A n c]) hb1); obtain ⟨c0, c1⟩ : w1.cell? ⟨w.heap.size, 0, none⟩ = some (.int .i64 f) ∧ w1.cell? ⟨w.heap.size, 1, none⟩ = some (.slice A n c) := ⟨BB.out.cell 0, BB.out.cell 1⟩; have hs1 := BB.out.lt; have hB1 := bel_step (w := w) (by go_grown) hb1) | (go_at_call 68; (with_reducible refine Calls.mono (HL.out _ _ _) ?_); rintro ee wz ⟨rfl, rfl⟩))
  obtain ⟨G, hG⟩ : ∃ G, w1.heap.size = G := ⟨_, rfl⟩
  rw [hG] at RD hs1 ⊢
  go_loopw [8] (fun i wr => ∃ (k : Nat) (z : Int), i = .int .i64 z ∧ z = (k : Int) - 1 ∧ k ≤ M ∧ Below w.heap.size w wr ∧ Hid (RdI wr G dA 121 (dscL r 121)) ∧ Hid (Blk wr w.heap.size 26 #[.int .i64 f, .slice A n c]) ∧ Hid (Blk wr (G + 1) 43 #[.int .i64 0, .int .i64 (sumF (cD f n xs r) (M - k) k), .int .i64 0, .int .i64 (sumF (cC f n xs r) (M - k) k)]) ∧ ∃ cs, Hid (Blk wr G 43 cs) ∧ Hid (cs.size = M * 4) ∧ Hid (colsOK (cD f n xs r) (fun k => sumF (cD f n xs r) (M - k) k) (cC f n xs r) (fun k => sumF (cC f n xs r) (M - k) k) cs k M)) (fun i _ => (intOf i + 1).toNat)
  case atStart =>
    refine ⟨M, M - 1, rfl, rfl, Nat.le_refl _, by go_grown, (RD.out.alloc (by omega) _).alloc (by first | (simp; done) | (simp; omega) | omega) _, (BB.out.alloc _).alloc _, ?_, cs0, ?_, HS0.out, fun j h1 h2 => by omega⟩
    · have h1 := Blk.new (w1.alloc (.cells cs0 43)) 43 #[.int .i64 0, .int .i64 0, .int .i64 0, .int .i64 0]
      rw [World.size_alloc, hG] at h1
      rw [Nat.sub_self]
      exact h1
    · have h1 := (Blk.new w1 43 cs0).alloc (.cells #[.int .i64 0, .int .i64 0, .int .i64 0, .int .i64 0] 43)
      rw [hG] at h1
      exact h1
  case round =>
    obtain ⟨k, z, rfl, hz, hk, hB, RD, BB, BS, cs, BO, HC, HK⟩ := hrel
    rcases Nat.eq_zero_or_pos k with h0 | h0
    · subst h0
      go_wp2
      go_returns
      exact ⟨G, cs, rfl, BO.out, HC.out, HK.out, Nat.le_of_lt hs1, hB⟩
    · obtain ⟨j, rfl⟩ : ∃ j, k = j + 1 := ⟨k - 1, by omega⟩
      obtain rfl : z = (j : Int) := by omega
      have hMo := hM.out
      have HSD : Hid (sumF (cD f n xs r) (M - j) j = sumF (cD f n xs r) (M - (j + 1)) (j + 1) + cD f n xs r j) := by show _ = _; rw [show M - j = (M - (j + 1)) + 1 by omega, Int.add_comm]; rfl
      have HSC : Hid (sumF (cC f n xs r) (M - j) j = sumF (cC f n xs r) (M - (j + 1)) (j + 1) + cC f n xs r j) := by show _ = _; rw [show M - j = (M - (j + 1)) + 1 by omega, Int.add_comm]; rfl
      have HK2 := Lib.hid (colsOK_step HK.out (k := j) (by have := HC.out; omega))
      have b1 := cD_bd hT hr j
      have b2 := cC_bd hT hr j
      have b3 := sumF_bd (fun i => cD_bd hT hr i) (M - (j + 1)) (j + 1)
      have b4 := sumF_bd (fun i => cC_bd hT hr i) (M - (j + 1)) (j + 1)
      have L1 := Lib.hid (fun W (hB : Below w.heap.size w W) => iLives_any f A n c xs (f + j) W ((h.below hB).more hB.size) hT.1 hT.2.1.2 ⟨by omega, by omega⟩)
      have L2 := Lib.hid (fun W (hB : Below w.heap.size w W) => iDeaths_any f A n c xs (f + j) W ((h.below hB).more hB.size) hT ⟨by omega, by omega⟩)
      have v1 := lv_bd hT (age := f + j) (by omega)
      have v2 := lv_bd hT (age := f + j + 1) (by omega)
      have v3 := lv_dn hT (x := f + j) (by omega)
      have q1 := IntWalk.i64_in (f + j) (by omega)
      have hcase : (120 < j ∧ Hid (cD f n xs r j = 0) ∧ Hid (cC f n xs r j = 0)) ∨ ((j ≤ 120 ∧ 120 < j + 1) ∧ Hid (lv f n xs (f + j) * dsc r j = cD f n xs r j) ∧ Hid (cC f n xs r j = 0)) ∨ (j < 120 ∧ Hid (lv f n xs (f + j) * dsc r j = cD f n xs r j) ∧ Hid ((lv f n xs (f + j) - lv f n xs (f + j + 1)) * dsc r (j + 1) = cC f n xs r j)) := by
        unfold cD cC
        rcases Nat.lt_trichotomy j 120 with h1 | h1 | h1
        · exact .inr (.inr ⟨h1, (by show _ = _; rw [if_pos (by omega)]), (by show _ = _; rw [if_pos (by omega)])⟩)
        · exact .inr (.inl ⟨(by omega), (by show _ = _; rw [if_pos (by omega)]), (by show _ = _; rw [if_neg (by omega)])⟩)
        · exact .inl ⟨h1, (by show _ = _; rw [if_neg (by omega)]), (by show _ = _; rw [if_neg (by omega)])⟩
      have hlB := BB.out.lt
      have hlS := BS.out.lt
      have hlO := BO.out.lt
      obtain ⟨X, hX⟩ : ∃ X, wr.heap.size = X := ⟨_, rfl⟩
      obtain ⟨W1, hW1⟩ : ∃ W1 : World, W1 = wr.alloc (.cells #[.int .i64 0, .int .i64 0, .int .i64 0, .int .i64 0] 43) := ⟨_, rfl⟩
      have hz1 : W1.heap.size = X + 1 := by rw [hW1, ← hX]; simp
      have BX := Lib.hid (Blk.new wr 43 #[.int .i64 0, .int .i64 0, .int .i64 0, .int .i64 0])
      have hb : Below wr.heap.size wr W1 := by rw [hW1]; exact al_ _ _
      rw [← hW1, hX] at BX
      replace RD := Lib.hid (RD.out.below (hb.mono (by omega)))
      replace BB := Lib.hid (blk_later BB.out hb)
      replace BS := Lib.hid (blk_later BS.out hb)
      replace BO := Lib.hid (blk_later BO.out hb)
      replace hB := bel_step hB hb
      rw [hX] at hlB hlS hlO
      generalize cD f n xs r j = D at *
      generalize cC f n xs r j = C at *
      generalize sumF (cD f n xs r) (M - (j + 1)) (j + 1) = SD at *
      generalize sumF (cC f n xs r) (M - (j + 1)) (j + 1) = SC at *
      generalize lv f n xs (f + j) = L at *
      generalize lv f n xs (f + j + 1) = L' at *
      clear hMo hlen hmk h hT hz hb1 HD HS0 HK
      have hMB : ((M - (j + 1) : Nat) : Int) * 1000000000000000 ≤ 151 * 1000000000000000 := by omega
      obtain ⟨⟨x0, x1, x2, x3⟩, y0, y1, y2, y3⟩ := c4_cells BX.out
      obtain ⟨⟨s0, s1, s2, s3⟩, t0, t1, t2, t3⟩ := c4_cells BS.out
      clear c0 c1
      obtain ⟨c0, c1, -⟩ := cT2 BB.out
      replace b3 : 0 ≤ SD ∧ SD ≤ 151000000000000000 := by omega
      replace b4 : 0 ≤ SC ∧ SC ≤ 151000000000000000 := by omega
      clear hMB
      rcases hcase with ⟨hj, e1, e2⟩ | ⟨hj, e1, e2⟩ | ⟨hj, e1, e2⟩
      · go_upto_region 8 with fail
        rw [← hW1]
        clear hW1
        have d0 := e1.out
        have d1 := e2.out
        subst d0 d1
        (try simp only [Exit.then])
        go_wp2_with fail
        go_region
        obtain ⟨⟨⟨_, o0⟩, ⟨_, o1⟩, ⟨_, o2⟩, ⟨_, o3⟩⟩, p0, p1, p2, p3⟩ := cO4 BO.out (k := j) (by have := HC.out; omega)
        go_wp2
        have HK3 := HK2.out
        rw [HSD.out, HSC.out] at HK3
        (simp only [Int.add_zero] at HK3)
        go_roundw
        case rel =>
          refine ⟨j, j - 1, rfl, rfl, by omega, ?_, ?_, ?_, ?_, _, ?_, ?_, HK3⟩
          · (repeat (first | with_reducible exact hB | with_reducible refine Below.setCell ?_ (by first | (simp; done) | (simp; omega) | omega) _ | with_reducible refine Below.drew ?_))
          · refine Lib.hid ?_; (repeat (first | with_reducible exact RD.out | with_reducible refine RdS.setCell ?_ (by first | (simp; done) | (simp; omega) | omega) _ | with_reducible refine RdS.drew ?_))
          · refine Lib.hid ?_; (repeat (first | with_reducible exact BB.out | with_reducible refine Blk.drew1 ?_ | with_reducible refine Blk.far ?_ (by first | (simp; done) | (simp; omega) | omega) _))
          · (try rw [HSD.out]); (try rw [HSC.out]); (simp only [Int.add_zero]); refine Lib.hid ?_; (repeat (first | with_reducible exact BS.out | with_reducible refine Blk.drew1 ?_ | with_reducible apply Blk.set4_0 | with_reducible apply Blk.set4_1 | with_reducible apply Blk.set4_2 | with_reducible apply Blk.set4_3 | with_reducible refine Blk.set_ ?_ _ _ | with_reducible refine Blk.far ?_ (by first | (simp; done) | (simp; omega) | omega) _))
          · refine Lib.hid ?_; (repeat (first | with_reducible exact BO.out | with_reducible refine Blk.drew1 ?_ | with_reducible apply Blk.set4_0 | with_reducible apply Blk.set4_1 | with_reducible apply Blk.set4_2 | with_reducible apply Blk.set4_3 | with_reducible refine Blk.set_ ?_ _ _ | with_reducible refine Blk.far ?_ (by first | (simp; done) | (simp; omega) | omega) _))
          · refine Lib.hid ?_; simpa using HC.out
        case measure => simp [intOf]
      · have hj3 : (j : Int) < 121 := by omega
        obtain ⟨ad, d, rfl, hda, hdz, k0⟩ := RdI.atI RD.out (k := j) (by omega)
        have hd : Hid (d = dsc r j) := Lib.hid (by rw [dscL_at r (show j < 121 by omega)] at hdz; injection hdz with hdz; exact hdz.symm)
        clear hdz
        have e1' := e1.out
        rw [← hd.out] at e1'
        have q2 := IntWalk.i64_in D (by omega)
        go_upto_region 9 with fail
        rw [← hW1]
        clear hW1
        refine wp_region_D 12 (fun W' : World => W'.cell? ⟨w.heap.size, 0, none⟩ = some (.int .i64 f) ∧ W'.cell? ⟨w.heap.size, 1, none⟩ = some (.slice A n c) ∧ W'.cell? (ad.add j) = some (.int .i64 d) ∧ W'.cell? ⟨X, 0, none⟩ = some (.int .i64 0) ∧ W'.frozen? ⟨X, 0, none⟩ = false) (by kernel_rfl) ?_
        have hS0 : (fun W' : World => W'.cell? ⟨w.heap.size, 0, none⟩ = some (.int .i64 f) ∧ W'.cell? ⟨w.heap.size, 1, none⟩ = some (.slice A n c) ∧ W'.cell? (ad.add j) = some (.int .i64 d) ∧ W'.cell? ⟨X, 0, none⟩ = some (.int .i64 0) ∧ W'.frozen? ⟨X, 0, none⟩ = false) W1.drew := ⟨c0, c1, k0, x0, y0⟩
        refine wpAnyD_take (i := 0) (v := ?_) rfl (by kernel_rfl) (fun _ _ _ h => h) (Or.inl ⟨by rfl, ?_⟩) (by assumption) ?_; rotate_left; (intro w' hSw; (try dsimp only at hSw); go_simp; with_reducible rfl); (try simp only [Act.put, List.setIfInBounds_toArray, List.set_cons_zero, List.set_cons_succ])
        refine wpAnyD_take (i := 1) (v := ?_) rfl (by kernel_rfl) (fun _ _ _ h => h) (Or.inl ⟨by rfl, ?_⟩) (by assumption) ?_; rotate_left; (intro w' hSw; (try dsimp only at hSw); go_simp; with_reducible rfl); (try simp only [Act.put, List.setIfInBounds_toArray, List.set_cons_zero, List.set_cons_succ])
        refine wpAnyD_take (i := 2) (v := ?_) rfl (by kernel_rfl) (fun _ _ _ h => h) (Or.inl ⟨by rfl, ?_⟩) (by assumption) ?_; rotate_left; (intro w' hSw; (try dsimp only at hSw); go_simp; with_reducible rfl); (try simp only [Act.put, List.setIfInBounds_toArray, List.set_cons_zero, List.set_cons_succ])
        refine wpAnyD_take (i := 3) (v := ?_) rfl (by kernel_rfl) (fun _ _ _ h => h) (Or.inl ⟨by rfl, ?_⟩) (by assumption) ?_; rotate_left; (intro w' hSw; (try dsimp only at hSw); go_simp; with_reducible rfl); (try simp only [Act.put, List.setIfInBounds_toArray, List.set_cons_zero, List.set_cons_succ])
        refine wpAnyD_take (i := 4) (v := ?_) rfl (by kernel_rfl) (fun _ _ _ h => h) (Or.inl ⟨by rfl, ?_⟩) (by assumption) ?_; rotate_left; (intro w' hSw; (try dsimp only at hSw); go_simp; with_reducible rfl); (try simp only [Act.put, List.setIfInBounds_toArray, List.set_cons_zero, List.set_cons_succ])
        refine wpAnyD_take (i := 6) (v := ?_) rfl (by kernel_rfl) (fun _ _ _ h => h) (Or.inl ⟨by rfl, ?_⟩) (by assumption) ?_; rotate_left; (intro w' hSw; (try dsimp only at hSw); go_simp; with_reducible rfl); (try simp only [Act.put, List.setIfInBounds_toArray, List.set_cons_zero, List.set_cons_succ])
        refine wpAnyD_take (i := 7) (v := ?_) rfl (by kernel_rfl) (fun _ _ _ h => h) (Or.inl ⟨by rfl, ?_⟩) (by assumption) ?_; rotate_left; (intro w' hSw; (try dsimp only at hSw); go_simp; with_reducible rfl); (try simp only [Act.put, List.setIfInBounds_toArray, List.set_cons_zero, List.set_cons_succ])
        refine wpAnyD_take (i := 8) (v := ?_) rfl (by kernel_rfl) (fun _ _ _ h => h) (Or.inl ⟨by rfl, ?_⟩) (by assumption) ?_; rotate_left; (intro w' hSw; (try dsimp only at hSw); go_simp; with_reducible rfl); (try simp only [Act.put, List.setIfInBounds_toArray, List.set_cons_zero, List.set_cons_succ])
        refine wpAnyD_take (i := 9) (v := ?_) rfl (by kernel_rfl) (fun _ _ _ h => h) (Or.inl ⟨by rfl, ?_⟩) (by assumption) ?_; rotate_left; (intro w' hSw; (try dsimp only at hSw); go_simp; with_reducible rfl); (try simp only [Act.put, List.setIfInBounds_toArray, List.set_cons_zero, List.set_cons_succ])
        refine wpAnyD_one (i := 5) rfl (by kernel_rfl) (fun K hK => ?_)
        go_simp
        (with_reducible refine Calls.mono (L1.out _ hB.drew) ?_)
        rintro ee w6 ⟨rfl, hb⟩
        replace hb := bel_step (w := W1) (Below.refl _ _).drew hb
        dsimp only
        have hS6 : (fun W' : World => W'.cell? ⟨w.heap.size, 0, none⟩ = some (.int .i64 f) ∧ W'.cell? ⟨w.heap.size, 1, none⟩ = some (.slice A n c) ∧ W'.cell? (ad.add j) = some (.int .i64 d) ∧ W'.cell? ⟨X, 0, none⟩ = some (.int .i64 0) ∧ W'.frozen? ⟨X, 0, none⟩ = false) w6 := ⟨keepC hb c0, keepC hb c1, keepC hb k0, keepC hb x0, (hb.frozen (p := ⟨X, 0, none⟩) (by show X < _; omega)).trans y0⟩
        refine hK _ _ (fun _ => hS6) ?_; clear hK K; (try simp only [Act.put, List.setIfInBounds_toArray, List.set_cons_zero, List.set_cons_succ])
        refine wpAnyD_take (i := 10) (v := ?_) rfl (by kernel_rfl) (fun _ _ _ h => h) (Or.inl ⟨by rfl, ?_⟩) (by assumption) ?_; rotate_left; (intro w' hSw; (try dsimp only at hSw); go_simp; with_reducible rfl); (try simp only [Act.put, List.setIfInBounds_toArray, List.set_cons_zero, List.set_cons_succ])
        refine wpAnyD_take (i := 11) (v := ?_) rfl (by kernel_rfl) (fun _ _ _ h => h) (Or.inl ⟨by rfl, ?_⟩) (by assumption) ?_; rotate_left; (intro w' hSw; (try dsimp only at hSw); go_simp; with_reducible rfl); (try simp only [Act.put, List.setIfInBounds_toArray, List.set_cons_zero, List.set_cons_succ])
        refine wpAnyD_one (i := 12) rfl (by kernel_rfl) (fun K hK => ?_)
        go_simp
        refine hK _ _ (fun h => absurd rfl h) ?_; clear hK K
        refine wpAnyD_done (by kernel_rfl) ?_ _
        (try simp only [Exit.then])
        clear hS0 hS6 c0 c1 x0 x1 x2 x3 y0 y1 y2 y3 s0 s1 s2 s3 t0 t1 t2 t3
        (try clear k0)
        replace hB := bel_step hB hb
        replace BX := Lib.hid (Blk.set4_0 (u := .int .i64 D) (blk_later BX.out hb))
        replace BS := Lib.hid ((blk_later BS.out hb).far (p := ⟨X, 0, none⟩) (by simp; omega) (.int .i64 D))
        replace BO := Lib.hid ((blk_later BO.out hb).far (p := ⟨X, 0, none⟩) (by simp; omega) (.int .i64 D))
        replace BB := Lib.hid ((blk_later BB.out hb).far (p := ⟨X, 0, none⟩) (by simp; omega) (.int .i64 D))
        replace RD := Lib.hid ((RD.out.below (hb.mono (by omega))).setCell (p := ⟨X, 0, none⟩) (by simp; omega) (.int .i64 D))
        replace hB := hB.setCell (p := ⟨X, 0, none⟩) (by simp; omega) (.int .i64 D)
        replace hz1 : X < (w6.setCell ⟨X, 0, none⟩ (.int .i64 D)).heap.size := by (have h1 := BX.out.lt; exact h1)
        clear hb
        generalize w6.setCell ⟨X, 0, none⟩ (.int .i64 D) = W1 at *
        obtain ⟨c0, c1, -⟩ := cT2 BB.out
        obtain ⟨⟨x0, x1, x2, x3⟩, y0, y1, y2, y3⟩ := c4_cells BX.out
        obtain ⟨⟨s0, s1, s2, s3⟩, t0, t1, t2, t3⟩ := c4_cells BS.out
        have d1 := e2.out
        subst d1
        (try simp only [Exit.then])
        go_wp2_with fail
        go_region
        obtain ⟨⟨⟨_, o0⟩, ⟨_, o1⟩, ⟨_, o2⟩, ⟨_, o3⟩⟩, p0, p1, p2, p3⟩ := cO4 BO.out (k := j) (by have := HC.out; omega)
        go_wp2
        have HK3 := HK2.out
        rw [HSD.out, HSC.out] at HK3
        (simp only [Int.add_zero] at HK3)
        go_roundw
        case rel =>
          refine ⟨j, j - 1, rfl, rfl, by omega, ?_, ?_, ?_, ?_, _, ?_, ?_, HK3⟩
          · (repeat (first | with_reducible exact hB | with_reducible refine Below.setCell ?_ (by first | (simp; done) | (simp; omega) | omega) _ | with_reducible refine Below.drew ?_))
          · refine Lib.hid ?_; (repeat (first | with_reducible exact RD.out | with_reducible refine RdS.setCell ?_ (by first | (simp; done) | (simp; omega) | omega) _ | with_reducible refine RdS.drew ?_))
          · refine Lib.hid ?_; (repeat (first | with_reducible exact BB.out | with_reducible refine Blk.drew1 ?_ | with_reducible refine Blk.far ?_ (by first | (simp; done) | (simp; omega) | omega) _))
          · (try rw [HSD.out]); (try rw [HSC.out]); (simp only [Int.add_zero]); refine Lib.hid ?_; (repeat (first | with_reducible exact BS.out | with_reducible refine Blk.drew1 ?_ | with_reducible apply Blk.set4_0 | with_reducible apply Blk.set4_1 | with_reducible apply Blk.set4_2 | with_reducible apply Blk.set4_3 | with_reducible refine Blk.set_ ?_ _ _ | with_reducible refine Blk.far ?_ (by first | (simp; done) | (simp; omega) | omega) _))
          · refine Lib.hid ?_; (repeat (first | with_reducible exact BO.out | with_reducible refine Blk.drew1 ?_ | with_reducible apply Blk.set4_0 | with_reducible apply Blk.set4_1 | with_reducible apply Blk.set4_2 | with_reducible apply Blk.set4_3 | with_reducible refine Blk.set_ ?_ _ _ | with_reducible refine Blk.far ?_ (by first | (simp; done) | (simp; omega) | omega) _))
          · refine Lib.hid ?_; simpa using HC.out
        case measure => simp [intOf]
      · have hj3 : (j : Int) < 121 := by omega
        have hj4 : (j : Int) + 1 < 121 := by omega
        have hj5 : (0 : Int) ≤ (j : Int) + 1 := by omega
        have hj6 : ((j : Int) + 1).toNat = j + 1 := by omega
        have q5 := IntWalk.i64_in ((j : Int) + 1) (by omega)
        obtain ⟨ad, d, rfl, hda, hdz, k0⟩ := RdI.atI RD.out (k := j) (by omega)
        have hd : Hid (d = dsc r j) := Lib.hid (by rw [dscL_at r (show j < 121 by omega)] at hdz; injection hdz with hdz; exact hdz.symm)
        clear hdz
        have e1' := e1.out
        rw [← hd.out] at e1'
        have e2' := e2.out
        have q2 := IntWalk.i64_in D (by omega)
        have q3 := IntWalk.i64_in (L - L') (by omega)
        have q4 := IntWalk.i64_in C (by omega)
        go_upto_region 9 with fail
        rw [← hW1]
        clear hW1
        refine wp_region_D 12 (fun W' : World => W'.cell? ⟨w.heap.size, 0, none⟩ = some (.int .i64 f) ∧ W'.cell? ⟨w.heap.size, 1, none⟩ = some (.slice A n c) ∧ W'.cell? (ad.add j) = some (.int .i64 d) ∧ W'.cell? ⟨X, 0, none⟩ = some (.int .i64 0) ∧ W'.frozen? ⟨X, 0, none⟩ = false) (by kernel_rfl) ?_
        have hS0 : (fun W' : World => W'.cell? ⟨w.heap.size, 0, none⟩ = some (.int .i64 f) ∧ W'.cell? ⟨w.heap.size, 1, none⟩ = some (.slice A n c) ∧ W'.cell? (ad.add j) = some (.int .i64 d) ∧ W'.cell? ⟨X, 0, none⟩ = some (.int .i64 0) ∧ W'.frozen? ⟨X, 0, none⟩ = false) W1.drew := ⟨c0, c1, k0, x0, y0⟩
        refine wpAnyD_take (i := 0) (v := ?_) rfl (by kernel_rfl) (fun _ _ _ h => h) (Or.inl ⟨by rfl, ?_⟩) (by assumption) ?_; rotate_left; (intro w' hSw; (try dsimp only at hSw); go_simp; with_reducible rfl); (try simp only [Act.put, List.setIfInBounds_toArray, List.set_cons_zero, List.set_cons_succ])
        refine wpAnyD_take (i := 1) (v := ?_) rfl (by kernel_rfl) (fun _ _ _ h => h) (Or.inl ⟨by rfl, ?_⟩) (by assumption) ?_; rotate_left; (intro w' hSw; (try dsimp only at hSw); go_simp; with_reducible rfl); (try simp only [Act.put, List.setIfInBounds_toArray, List.set_cons_zero, List.set_cons_succ])
        refine wpAnyD_take (i := 2) (v := ?_) rfl (by kernel_rfl) (fun _ _ _ h => h) (Or.inl ⟨by rfl, ?_⟩) (by assumption) ?_; rotate_left; (intro w' hSw; (try dsimp only at hSw); go_simp; with_reducible rfl); (try simp only [Act.put, List.setIfInBounds_toArray, List.set_cons_zero, List.set_cons_succ])
        refine wpAnyD_take (i := 3) (v := ?_) rfl (by kernel_rfl) (fun _ _ _ h => h) (Or.inl ⟨by rfl, ?_⟩) (by assumption) ?_; rotate_left; (intro w' hSw; (try dsimp only at hSw); go_simp; with_reducible rfl); (try simp only [Act.put, List.setIfInBounds_toArray, List.set_cons_zero, List.set_cons_succ])
        refine wpAnyD_take (i := 4) (v := ?_) rfl (by kernel_rfl) (fun _ _ _ h => h) (Or.inl ⟨by rfl, ?_⟩) (by assumption) ?_; rotate_left; (intro w' hSw; (try dsimp only at hSw); go_simp; with_reducible rfl); (try simp only [Act.put, List.setIfInBounds_toArray, List.set_cons_zero, List.set_cons_succ])
        refine wpAnyD_take (i := 6) (v := ?_) rfl (by kernel_rfl) (fun _ _ _ h => h) (Or.inl ⟨by rfl, ?_⟩) (by assumption) ?_; rotate_left; (intro w' hSw; (try dsimp only at hSw); go_simp; with_reducible rfl); (try simp only [Act.put, List.setIfInBounds_toArray, List.set_cons_zero, List.set_cons_succ])
        refine wpAnyD_take (i := 7) (v := ?_) rfl (by kernel_rfl) (fun _ _ _ h => h) (Or.inl ⟨by rfl, ?_⟩) (by assumption) ?_; rotate_left; (intro w' hSw; (try dsimp only at hSw); go_simp; with_reducible rfl); (try simp only [Act.put, List.setIfInBounds_toArray, List.set_cons_zero, List.set_cons_succ])
        refine wpAnyD_take (i := 8) (v := ?_) rfl (by kernel_rfl) (fun _ _ _ h => h) (Or.inl ⟨by rfl, ?_⟩) (by assumption) ?_; rotate_left; (intro w' hSw; (try dsimp only at hSw); go_simp; with_reducible rfl); (try simp only [Act.put, List.setIfInBounds_toArray, List.set_cons_zero, List.set_cons_succ])
        refine wpAnyD_take (i := 9) (v := ?_) rfl (by kernel_rfl) (fun _ _ _ h => h) (Or.inl ⟨by rfl, ?_⟩) (by assumption) ?_; rotate_left; (intro w' hSw; (try dsimp only at hSw); go_simp; with_reducible rfl); (try simp only [Act.put, List.setIfInBounds_toArray, List.set_cons_zero, List.set_cons_succ])
        refine wpAnyD_one (i := 5) rfl (by kernel_rfl) (fun K hK => ?_)
        go_simp
        (with_reducible refine Calls.mono (L1.out _ hB.drew) ?_)
        rintro ee w6 ⟨rfl, hb⟩
        replace hb := bel_step (w := W1) (Below.refl _ _).drew hb
        dsimp only
        have hS6 : (fun W' : World => W'.cell? ⟨w.heap.size, 0, none⟩ = some (.int .i64 f) ∧ W'.cell? ⟨w.heap.size, 1, none⟩ = some (.slice A n c) ∧ W'.cell? (ad.add j) = some (.int .i64 d) ∧ W'.cell? ⟨X, 0, none⟩ = some (.int .i64 0) ∧ W'.frozen? ⟨X, 0, none⟩ = false) w6 := ⟨keepC hb c0, keepC hb c1, keepC hb k0, keepC hb x0, (hb.frozen (p := ⟨X, 0, none⟩) (by show X < _; omega)).trans y0⟩
        refine hK _ _ (fun _ => hS6) ?_; clear hK K; (try simp only [Act.put, List.setIfInBounds_toArray, List.set_cons_zero, List.set_cons_succ])
        refine wpAnyD_take (i := 10) (v := ?_) rfl (by kernel_rfl) (fun _ _ _ h => h) (Or.inl ⟨by rfl, ?_⟩) (by assumption) ?_; rotate_left; (intro w' hSw; (try dsimp only at hSw); go_simp; with_reducible rfl); (try simp only [Act.put, List.setIfInBounds_toArray, List.set_cons_zero, List.set_cons_succ])
        refine wpAnyD_take (i := 11) (v := ?_) rfl (by kernel_rfl) (fun _ _ _ h => h) (Or.inl ⟨by rfl, ?_⟩) (by assumption) ?_; rotate_left; (intro w' hSw; (try dsimp only at hSw); go_simp; with_reducible rfl); (try simp only [Act.put, List.setIfInBounds_toArray, List.set_cons_zero, List.set_cons_succ])
        refine wpAnyD_one (i := 12) rfl (by kernel_rfl) (fun K hK => ?_)
        go_simp
        refine hK _ _ (fun h => absurd rfl h) ?_; clear hK K
        refine wpAnyD_done (by kernel_rfl) ?_ _
        (try simp only [Exit.then])
        clear hS0 hS6 c0 c1 x0 x1 x2 x3 y0 y1 y2 y3 s0 s1 s2 s3 t0 t1 t2 t3
        (try clear k0)
        replace hB := bel_step hB hb
        replace BX := Lib.hid (Blk.set4_0 (u := .int .i64 D) (blk_later BX.out hb))
        replace BS := Lib.hid ((blk_later BS.out hb).far (p := ⟨X, 0, none⟩) (by simp; omega) (.int .i64 D))
        replace BO := Lib.hid ((blk_later BO.out hb).far (p := ⟨X, 0, none⟩) (by simp; omega) (.int .i64 D))
        replace BB := Lib.hid ((blk_later BB.out hb).far (p := ⟨X, 0, none⟩) (by simp; omega) (.int .i64 D))
        replace RD := Lib.hid ((RD.out.below (hb.mono (by omega))).setCell (p := ⟨X, 0, none⟩) (by simp; omega) (.int .i64 D))
        replace hB := hB.setCell (p := ⟨X, 0, none⟩) (by simp; omega) (.int .i64 D)
        replace hz1 : X < (w6.setCell ⟨X, 0, none⟩ (.int .i64 D)).heap.size := by (have h1 := BX.out.lt; exact h1)
        clear hb
        generalize w6.setCell ⟨X, 0, none⟩ (.int .i64 D) = W1 at *
        obtain ⟨c0, c1, -⟩ := cT2 BB.out
        obtain ⟨⟨x0, x1, x2, x3⟩, y0, y1, y2, y3⟩ := c4_cells BX.out
        obtain ⟨⟨s0, s1, s2, s3⟩, t0, t1, t2, t3⟩ := c4_cells BS.out
        obtain ⟨_, d2, e0, _, hdz2, k1⟩ := RdI.atI RD.out (k := j + 1) (by omega)
        cases e0
        obtain rfl : d2 = dsc r (j + 1) := (by rw [dscL_at r (show j + 1 < 121 by omega)] at hdz2; injection hdz2 with hdz2; exact hdz2.symm)
        clear hdz2
        generalize dsc r (j + 1) = d2 at *
        rw [show ad.add (j + 1) = ⟨ad.block, ad.off + (j + 1), none⟩ by unfold Addr.add; simp] at k1
        go_wp2_with fail
        refine wp_region_D 13 (fun W' : World => W'.cell? ⟨w.heap.size, 0, none⟩ = some (.int .i64 f) ∧ W'.cell? ⟨w.heap.size, 1, none⟩ = some (.slice A n c) ∧ W'.cell? ⟨ad.block, ad.off + (j + 1), none⟩ = some (.int .i64 d2) ∧ W'.cell? ⟨X, 2, none⟩ = some (.int .i64 0) ∧ W'.frozen? ⟨X, 2, none⟩ = false) (by kernel_rfl) ?_
        have hS0 : (fun W' : World => W'.cell? ⟨w.heap.size, 0, none⟩ = some (.int .i64 f) ∧ W'.cell? ⟨w.heap.size, 1, none⟩ = some (.slice A n c) ∧ W'.cell? ⟨ad.block, ad.off + (j + 1), none⟩ = some (.int .i64 d2) ∧ W'.cell? ⟨X, 2, none⟩ = some (.int .i64 0) ∧ W'.frozen? ⟨X, 2, none⟩ = false) W1.drew := ⟨c0, c1, k1, x2, y2⟩
        refine wpAnyD_take (i := 0) (v := ?_) rfl (by kernel_rfl) (fun _ _ _ h => h) (Or.inl ⟨by rfl, ?_⟩) (by assumption) ?_; rotate_left; (intro w' hSw; (try dsimp only at hSw); go_simp; with_reducible rfl); (try simp only [Act.put, List.setIfInBounds_toArray, List.set_cons_zero, List.set_cons_succ])
        refine wpAnyD_take (i := 1) (v := ?_) rfl (by kernel_rfl) (fun _ _ _ h => h) (Or.inl ⟨by rfl, ?_⟩) (by assumption) ?_; rotate_left; (intro w' hSw; (try dsimp only at hSw); go_simp; with_reducible rfl); (try simp only [Act.put, List.setIfInBounds_toArray, List.set_cons_zero, List.set_cons_succ])
        refine wpAnyD_take (i := 2) (v := ?_) rfl (by kernel_rfl) (fun _ _ _ h => h) (Or.inl ⟨by rfl, ?_⟩) (by assumption) ?_; rotate_left; (intro w' hSw; (try dsimp only at hSw); go_simp; with_reducible rfl); (try simp only [Act.put, List.setIfInBounds_toArray, List.set_cons_zero, List.set_cons_succ])
        refine wpAnyD_take (i := 3) (v := ?_) rfl (by kernel_rfl) (fun _ _ _ h => h) (Or.inl ⟨by rfl, ?_⟩) (by assumption) ?_; rotate_left; (intro w' hSw; (try dsimp only at hSw); go_simp; with_reducible rfl); (try simp only [Act.put, List.setIfInBounds_toArray, List.set_cons_zero, List.set_cons_succ])
        refine wpAnyD_take (i := 4) (v := ?_) rfl (by kernel_rfl) (fun _ _ _ h => h) (Or.inl ⟨by rfl, ?_⟩) (by assumption) ?_; rotate_left; (intro w' hSw; (try dsimp only at hSw); go_simp; with_reducible rfl); (try simp only [Act.put, List.setIfInBounds_toArray, List.set_cons_zero, List.set_cons_succ])
        refine wpAnyD_take (i := 6) (v := ?_) rfl (by kernel_rfl) (fun _ _ _ h => h) (Or.inl ⟨by rfl, ?_⟩) (by assumption) ?_; rotate_left; (intro w' hSw; (try dsimp only at hSw); go_simp; with_reducible rfl); (try simp only [Act.put, List.setIfInBounds_toArray, List.set_cons_zero, List.set_cons_succ])
        refine wpAnyD_take (i := 7) (v := ?_) rfl (by kernel_rfl) (fun _ _ _ h => h) (Or.inl ⟨by rfl, ?_⟩) (by assumption) ?_; rotate_left; (intro w' hSw; (try dsimp only at hSw); go_simp; with_reducible rfl); (try simp only [Act.put, List.setIfInBounds_toArray, List.set_cons_zero, List.set_cons_succ])
        refine wpAnyD_take (i := 8) (v := ?_) rfl (by kernel_rfl) (fun _ _ _ h => h) (Or.inl ⟨by rfl, ?_⟩) (by assumption) ?_; rotate_left; (intro w' hSw; (try dsimp only at hSw); go_simp; with_reducible rfl); (try simp only [Act.put, List.setIfInBounds_toArray, List.set_cons_zero, List.set_cons_succ])
        refine wpAnyD_take (i := 9) (v := ?_) rfl (by kernel_rfl) (fun _ _ _ h => h) (Or.inl ⟨by rfl, ?_⟩) (by assumption) ?_; rotate_left; (intro w' hSw; (try dsimp only at hSw); go_simp; with_reducible rfl); (try simp only [Act.put, List.setIfInBounds_toArray, List.set_cons_zero, List.set_cons_succ])
        refine wpAnyD_take (i := 10) (v := ?_) rfl (by kernel_rfl) (fun _ _ _ h => h) (Or.inl ⟨by rfl, ?_⟩) (by assumption) ?_; rotate_left; (intro w' hSw; (try dsimp only at hSw); go_simp; with_reducible rfl); (try simp only [Act.put, List.setIfInBounds_toArray, List.set_cons_zero, List.set_cons_succ])
        refine wpAnyD_one (i := 5) rfl (by kernel_rfl) (fun K hK => ?_)
        go_simp
        (with_reducible refine Calls.mono (L2.out _ hB.drew) ?_)
        rintro ee w6 ⟨rfl, hb⟩
        replace hb := bel_step (w := W1) (Below.refl _ _).drew hb
        dsimp only
        have hS6 : (fun W' : World => W'.cell? ⟨w.heap.size, 0, none⟩ = some (.int .i64 f) ∧ W'.cell? ⟨w.heap.size, 1, none⟩ = some (.slice A n c) ∧ W'.cell? ⟨ad.block, ad.off + (j + 1), none⟩ = some (.int .i64 d2) ∧ W'.cell? ⟨X, 2, none⟩ = some (.int .i64 0) ∧ W'.frozen? ⟨X, 2, none⟩ = false) w6 := ⟨keepC hb c0, keepC hb c1, keepC hb k1, keepC hb x2, (hb.frozen (p := ⟨X, 2, none⟩) (by show X < _; omega)).trans y2⟩
        refine hK _ _ (fun _ => hS6) ?_; clear hK K; (try simp only [Act.put, List.setIfInBounds_toArray, List.set_cons_zero, List.set_cons_succ])
        refine wpAnyD_take (i := 11) (v := ?_) rfl (by kernel_rfl) (fun _ _ _ h => h) (Or.inl ⟨by rfl, ?_⟩) (by assumption) ?_; rotate_left; (intro w' hSw; (try dsimp only at hSw); go_simp; with_reducible rfl); (try simp only [Act.put, List.setIfInBounds_toArray, List.set_cons_zero, List.set_cons_succ])
        refine wpAnyD_take (i := 12) (v := ?_) rfl (by kernel_rfl) (fun _ _ _ h => h) (Or.inl ⟨by rfl, ?_⟩) (by assumption) ?_; rotate_left; (intro w' hSw; (try dsimp only at hSw); go_simp; with_reducible rfl); (try simp only [Act.put, List.setIfInBounds_toArray, List.set_cons_zero, List.set_cons_succ])
        refine wpAnyD_one (i := 13) rfl (by kernel_rfl) (fun K hK => ?_)
        go_simp
        refine hK _ _ (fun h => absurd rfl h) ?_; clear hK K
        refine wpAnyD_done (by kernel_rfl) ?_ _
        (try simp only [Exit.then])
        clear hS0 hS6 c0 c1 x0 x1 x2 x3 y0 y1 y2 y3 s0 s1 s2 s3 t0 t1 t2 t3
        (try clear k0)
        replace hB := bel_step hB hb
        replace BX := Lib.hid (Blk.set4_2 (u := .int .i64 C) (blk_later BX.out hb))
        replace BS := Lib.hid ((blk_later BS.out hb).far (p := ⟨X, 2, none⟩) (by simp; omega) (.int .i64 C))
        replace BO := Lib.hid ((blk_later BO.out hb).far (p := ⟨X, 2, none⟩) (by simp; omega) (.int .i64 C))
        replace BB := Lib.hid ((blk_later BB.out hb).far (p := ⟨X, 2, none⟩) (by simp; omega) (.int .i64 C))
        replace RD := Lib.hid ((RD.out.below (hb.mono (by omega))).setCell (p := ⟨X, 2, none⟩) (by simp; omega) (.int .i64 C))
        replace hB := hB.setCell (p := ⟨X, 2, none⟩) (by simp; omega) (.int .i64 C)
        replace hz1 : X < (w6.setCell ⟨X, 2, none⟩ (.int .i64 C)).heap.size := by (have h1 := BX.out.lt; exact h1)
        clear hb
        generalize w6.setCell ⟨X, 2, none⟩ (.int .i64 C) = W1 at *
        obtain ⟨c0, c1, -⟩ := cT2 BB.out
        obtain ⟨⟨x0, x1, x2, x3⟩, y0, y1, y2, y3⟩ := c4_cells BX.out
        obtain ⟨⟨s0, s1, s2, s3⟩, t0, t1, t2, t3⟩ := c4_cells BS.out
        (try simp only [Exit.then])
        go_wp2_with fail
        go_region
        obtain ⟨⟨⟨_, o0⟩, ⟨_, o1⟩, ⟨_, o2⟩, ⟨_, o3⟩⟩, p0, p1, p2, p3⟩ := cO4 BO.out (k := j) (by have := HC.out; omega)
        go_wp2
        have HK3 := HK2.out
        rw [HSD.out, HSC.out] at HK3
        skip
        go_roundw
        case rel =>
          refine ⟨j, j - 1, rfl, rfl, by omega, ?_, ?_, ?_, ?_, _, ?_, ?_, HK3⟩
          · (repeat (first | with_reducible exact hB | with_reducible refine Below.setCell ?_ (by first | (simp; done) | (simp; omega) | omega) _ | with_reducible refine Below.drew ?_))
          · refine Lib.hid ?_; (repeat (first | with_reducible exact RD.out | with_reducible refine RdS.setCell ?_ (by first | (simp; done) | (simp; omega) | omega) _ | with_reducible refine RdS.drew ?_))
          · refine Lib.hid ?_; (repeat (first | with_reducible exact BB.out | with_reducible refine Blk.drew1 ?_ | with_reducible refine Blk.far ?_ (by first | (simp; done) | (simp; omega) | omega) _))
          · (try rw [HSD.out]); (try rw [HSC.out]); skip; refine Lib.hid ?_; (repeat (first | with_reducible exact BS.out | with_reducible refine Blk.drew1 ?_ | with_reducible apply Blk.set4_0 | with_reducible apply Blk.set4_1 | with_reducible apply Blk.set4_2 | with_reducible apply Blk.set4_3 | with_reducible refine Blk.set_ ?_ _ _ | with_reducible refine Blk.far ?_ (by first | (simp; done) | (simp; omega) | omega) _))
          · refine Lib.hid ?_; (repeat (first | with_reducible exact BO.out | with_reducible refine Blk.drew1 ?_ | with_reducible apply Blk.set4_0 | with_reducible apply Blk.set4_1 | with_reducible apply Blk.set4_2 | with_reducible apply Blk.set4_3 | with_reducible refine Blk.set_ ?_ _ _ | with_reducible refine Blk.far ?_ (by first | (simp; done) | (simp; omega) | omega) _))
          · refine Lib.hid ?_; simpa using HC.out
        case measure => simp [intOf]
end Go.Proofs.Ytmefjjamkebinaa
