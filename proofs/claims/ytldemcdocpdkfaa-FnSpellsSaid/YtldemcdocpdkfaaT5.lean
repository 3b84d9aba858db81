/-
  The walk of a law of chapter 15, FnSickPay: the law returns true and turns nothing that was there. No condition.
-/
import Derived.Test.YtldemcdocpdkfaaQ5
import Derived.Test.YtldemcdocpdkfaaH5
import Derived.Test.YtldemcdocpdkfaaF
set_option linter.unusedSimpArgs false
set_option linter.unusedVariables false
namespace Go.Proofs.Ytldemcdocpdkfaa
open Go.ChangeShapes Go.WideShapes Go.ChangeAt Go.RowKit Go.Deep
set_option maxRecDepth 100000 in
/-- bytes that came in -/
theorem open_bytes {H : Type} {enc : TypeId × Value → H} {w : World} {r : Reach} {b0 : Nat} {v : Value} {d : DataW H} {p : List MemPlace} (hv : Value.okWide Try.prog w r b0 43 v) (h : DataW.Trod enc Try.prog w 0 (fun _ => true) true 43 v d p) :
    ∃ A n c bs, v = .slice A n c ∧ RdB w w.heap.size A n bs ∧ (∀ b ∈ bs, 0 ≤ b ∧ b ≤ 255) ∧ n ≤ maxLen := by
  obtain ⟨a, len, cap, rfl⟩ := okWide_slice Try.underlying43 hv
  obtain ⟨fuel, hf⟩ := h
  obtain ⟨A, n, c, xs, hcs, hn, hc, hR, hg⟩ := open_rd (en := enB) (sz := 1) (good := fun b => 0 ≤ b ∧ b ≤ 255) Try.underlying43 (by kernel_rfl) (by omega) (fun fuel cs x hl ht => by
    obtain ⟨n, rfl, _, hw⟩ := DataW.trod_int Try.underlying5 ht
    exact ⟨n, rfl, by simpa [Lit.wf, IntKind.min, IntKind.max, IntKind.signed, IntKind.bits] using hw⟩) hf
  simp only [Value.cells, Array.toList] at hcs
  injection hcs with hcs _
  injection hcs with h1 h2 h3
  subst h1 h2 h3
  exact ⟨_, _, _, xs, rfl, hR, hg, Nat.le_trans hn hc⟩
theorem payT_split (xs : List (Int × Int)) (r f : Int) (a b : Nat) : payT xs r f (a + b) = payT xs r f a + payT xs r (f + a) b := sumR_add _ _ _ _
theorem payN_le {n r : Int} (hr : 1 ≤ r) : 0 ≤ payN n r ∧ payN n r ≤ r := by
  unfold payN
  split
  · omega
  · split
    · omega
    · split <;> omega
theorem payT_le (xs : List (Int × Int)) {r : Int} (hr : 1 ≤ r) (f : Int) (k : Nat) : 0 ≤ payT xs r f k ∧ payT xs r f k ≤ r * (k : Int) := sumR_bd (fun x => payN_le hr) f k
set_option maxHeartbeats 4000000 in
set_option maxRecDepth 100000 in
theorem fnSickPay_walk (A : Option Addr) (n c : Nat) (bs : List Int) (w : World) (h : RdB w w.heap.size A n bs) (hby : ∀ b ∈ bs, 0 ≤ b ∧ b ≤ 255) (hmx : n ≤ maxLen) : Calls Try.prog 10 #[.slice A n c] w fun e' w' => e' = .returned (.bool true) ∧ Below w.heap.size w w' := by
  have HBig := fun W => big_any A n c W hmx
  by_cases hn : n ≤ 4096
  · have HCW : Hid (∀ W, Below w.heap.size w W → Code' W.heap.size W A n) := fun W hB => ⟨hn, bs, (h.below hB).more hB.size, hby⟩
    rw [decide_eq_false (show ¬ 4096 < n by omega)] at HBig
    clear h hby
    go_enter Try.func10, Try.ntmps10
    go_wp2_with (first | (go_at_call 34; (with_reducible refine (HBig _).mono ?_); rintro ee w0 ⟨rfl, rfl⟩) | (go_at_call 35; (with_reducible refine Calls.mono (drawPbt_any A n c _ (HCW.out _ (Below.refl _ _))) ?_); rintro ee w1 ⟨A1, m1, c1, xs, f, t, r, rfl, hR1, hm1, hb1⟩; have R1 := Lib.hid hR1; have hB1 := hb1; clear hR1))
    have HI1 := fun W hR => iPbt_any A1 m1 c1 xs W hR f t r (by omega)
    have HS1 := fun W hR => sPbt_any A1 m1 c1 xs W hR f t r (by omega)
    have HA1 := Lib.hid (fun W hR => iAreS_any A1 m1 c1 xs W hR (by omega))
    have HA2 := Lib.hid (fun W hR => sAreS_any A1 m1 c1 xs W hR (by omega))
    generalize hN : pbV xs f t r = N at *
    generalize hK : spC xs (pbB f t r) = K at *
    have HI1 := Lib.hid HI1
    have HS1 := Lib.hid HS1
    have HNK := Lib.hid (And.intro hN hK)
    clear hN hK
    go_wp2_with (first | (go_at_call 33; (with_reducible refine Calls.mono (HI1.out _ R1.out) ?_); rintro ee w2 ⟨rfl, hb2⟩; have hB2 := bel_step hB1 hb2) | (go_at_call 32; (with_reducible refine Calls.mono (HS1.out _ (R1.out.later hb2)) ?_); rintro ee w3 ⟨rfl, hb3⟩; have hB3 := bel_step hB2 hb3) | (go_at_call 36; (with_reducible refine Calls.mono (drawPo_any A n c _ (HCW.out _ hB3)) ?_); rintro ee w4 ⟨A2, m2, c2, ys, d, r2, rfl, hR4, hm4, hb4⟩; have Q4 := Lib.hid hR4; have hB4 := bel_step hB3 hb4; clear hR4))
    have R4 := Lib.hid (((R1.out.later hb2).later hb3).later hb4)
    have HP1 := fun W hR => iPo_any A2 m2 c2 ys W hR d r2 (by omega)
    have HP2 := fun W hR => sPo_any A2 m2 c2 ys W hR d r2 (by omega)
    have HU1 := fun W hR => iNu_any A2 m2 c2 ys W hR d (by omega)
    have HU2 := fun W hR => sNu_any A2 m2 c2 ys W hR d (by omega)
    generalize hV : poV ys d r2 = V at *
    generalize hL : spC ys (inR 0 100000 d && inR 1 100000 r2) = L at *
    generalize hW : nuV ys d = W0 at *
    generalize hM : spC ys (inR 0 100000 d) = M at *
    have HP1 := Lib.hid HP1
    have HP2 := Lib.hid HP2
    have HU1 := Lib.hid HU1
    have HU2 := Lib.hid HU2
    have HVL := Lib.hid (And.intro hV (And.intro hL (And.intro hW hM)))
    have hr2 : L = 0 → (1 ≤ r2 ∧ r2 ≤ 100000) ∧ V = payN W0 r2 := fun e => by
      rw [e] at hL
      rcases spC_cases ys (inR 0 100000 d && inR 1 100000 r2) with ⟨_, a, b⟩ | ⟨a, _⟩ | ⟨a, _⟩
      · rw [Bool.and_eq_true] at b
        have e2 : spC ys (inR 0 100000 d) = 0 := by unfold spC; rw [if_pos a, if_pos b.1]
        refine ⟨inR_iff.1 b.2, ?_⟩
        rw [← hV, ← hW]
        unfold poV nuV
        rw [if_pos hL, if_pos e2]
      · rw [hL] at a; cases a
      · rw [hL] at a; cases a
    have hcase : (L == 0) = false ∨ ((L == 0) = true ∧ (1 ≤ r2 ∧ r2 ≤ 100000) ∧ ((W0 ≤ 3 ∧ (0 != V) = false) ∨ (3 < W0 ∧ W0 ≤ 185 ∧ (r2 != V) = false) ∨ (185 < W0 ∧ W0 ≤ 367 ∧ (r2 / 2 != V) = false) ∨ (367 < W0 ∧ (0 != V) = false))) := by
      by_cases e : L = 0
      · refine .inr ⟨by simp [e], (hr2 e).1, ?_⟩
        have hv := (hr2 e).2
        unfold payN at hv
        by_cases h1 : W0 ≤ 3
        · rw [if_pos h1] at hv; exact .inl ⟨h1, by simp [hv]⟩
        · rw [if_neg h1] at hv
          by_cases h2 : W0 ≤ 185
          · rw [if_pos h2] at hv; exact .inr (.inl ⟨by omega, h2, by simp [hv]⟩)
          · rw [if_neg h2] at hv
            by_cases h3 : W0 ≤ 367
            · rw [if_pos h3] at hv; exact .inr (.inr (.inl ⟨by omega, h3, by simp [hv]⟩))
            · rw [if_neg h3] at hv; exact .inr (.inr (.inr ⟨by omega, by simp [hv]⟩))
      · exact .inl (by simpa using e)
    clear hV hL hW hM HVL hr2
    by_cases hK0 : K = 0
    · obtain ⟨hN, hK⟩ := HNK.out
      rw [hK0] at hK
      have hpp : areS xs = true ∧ pbB f t r = true := by
        rcases spC_cases xs (pbB f t r) with ⟨_, a, b⟩ | ⟨a, _⟩ | ⟨a, _⟩
        · exact ⟨a, b⟩
        · rw [hK] at a; cases a
        · rw [hK] at a; cases a
      obtain ⟨ha, hp⟩ := hpp
      have hb := pbB_iff.1 hp
      have hNv : N = payT xs r f (t - f).toNat := by rw [← hN]; exact if_pos hK
      have HG1 := Lib.hid (fun W hR q (hq : 0 ≤ q ∧ q < t - f + 1) => iPbt_in A1 m1 c1 xs W hR f (f + q) r (by omega) ha (pbB_iff.2 ⟨hb.1, by omega, hb.2.2⟩))
      have HG2 := Lib.hid (fun W hR q (hq : 0 ≤ q ∧ q < t - f + 1) => iPbt_in A1 m1 c1 xs W hR (f + q) t r (by omega) ha (pbB_iff.2 ⟨by omega, by omega, hb.2.2⟩))
      have HSum := Lib.hid (fun q (hq : 0 ≤ q ∧ q < t - f + 1) => show payT xs r f (f + q - f).toNat + payT xs r (f + q) (t - (f + q)).toNat = N by
        have e := payT_split xs r f (f + q - f).toNat (t - (f + q)).toNat
        rw [hNv, show (t - f).toNat = (f + q - f).toNat + (t - (f + q)).toNat by omega, e, show f + ((f + q - f).toNat : Int) = f + q by omega])
      have hNb : 0 ≤ N ∧ N ≤ r * (t - f) := by
        have := payT_le xs hb.2.2.1 f (t - f).toNat
        have e : ((t - f).toNat : Int) = t - f := by omega
        rw [e] at this
        rw [hNv]
        exact this
      have hrb : 0 ≤ r * (t - f) ∧ r * (t - f) ≤ 10000000000 := ⟨Int.mul_nonneg (by omega) (by omega), Int.le_trans (Int.mul_le_mul hb.2.2.2 (show t - f ≤ 100000 by omega) (by omega) (by omega)) (by omega)⟩
      have HTb := Lib.hid (fun a k => payT_le xs hb.2.2.1 a k)
      have q1 := IntWalk.i64_in (r * (t - f)) (by omega)
      have g1 : decide (N ≤ r * (t - f)) = true := decide_eq_true hNb.2
      have hK1 : (K != 0) = false := by simp [hK0]
      clear hN hK hp ha hNv hK0
      rcases hcase with g2 | ⟨g2, g3, ⟨g4, g5⟩ | ⟨g4, g6, g5⟩ | ⟨g4, g6, g5⟩ | ⟨g4, g5⟩⟩
      all_goals
        go_wp2_with (first | (go_at_call 31; (with_reducible refine Calls.mono (HP1.out _ Q4.out) ?_); rintro ee w5 ⟨rfl, hb5⟩; have hB5 := bel_step hB4 hb5) | (go_at_call 30; (with_reducible refine Calls.mono (HP2.out _ (Q4.out.later hb5)) ?_); rintro ee w6 ⟨rfl, hb6⟩; have hB6 := bel_step hB5 hb6) | (go_at_call 29; (with_reducible refine Calls.mono (HU1.out _ ((Q4.out.later hb5).later hb6)) ?_); rintro ee w7 ⟨rfl, hb7⟩; have hB7 := bel_step hB6 hb7) | (go_at_call 28; (with_reducible refine Calls.mono (HU2.out _ (((Q4.out.later hb5).later hb6).later hb7)) ?_); rintro ee w8 ⟨rfl, hb8⟩; have hB8 := bel_step hB7 hb8) | (go_at_call 16; (with_reducible refine Calls.mono (HA1.out _ ((((R4.out.later hb5).later hb6).later hb7).later hb8)) ?_); rintro ee w9 ⟨rfl, hb9⟩; have hB9 := bel_step hB8 hb9) | (go_at_call 14; (with_reducible refine Calls.mono (HA2.out _ (((((R4.out.later hb5).later hb6).later hb7).later hb8).later hb9)) ?_); rintro ee w10 ⟨rfl, hb10⟩; have hB10 := bel_step hB9 hb10))
        have R10 := Lib.hid ((((((R4.out.later hb5).later hb6).later hb7).later hb8).later hb9).later hb10)
        go_wp2_with (first | (go_at_call 37; (with_reducible refine Calls.mono (roll_any A n c _ 1501 (HCW.out _ hB10)) ?_); rintro ee w11 ⟨gd, Ad, nd, cd, sd, rfl, hgd, hkd, hcd, hb11⟩; have hB11 := bel_step hB10 hb11; have KD := Lib.hid hkd; have CD := Lib.hid hcd; clear hkd hcd) | (go_at_call 38; (with_reducible refine Calls.mono (below_any gd Ad nd cd sd _ _ w10.heap.size KD.out CD.out hgd (by omega)) ?_); rintro ee w12 ⟨q, rfl, hq, hg12⟩; have hB12 := belowG hB11 hg12 (Nat.le_trans hB10.size hgd) hB11.size; have R12 := Lib.hid (((R10.out.below hb11).grown hg12 hb11.size (fun k e => by cases e; exact hgd)).more (Nat.le_trans hb11.size hg12.size))) | (go_at_call 33; (with_reducible refine Calls.mono (HG1.out _ R12.out q hq) ?_); rintro ee w13 ⟨rfl, hb13⟩; have hB13 := bel_step hB12 hb13) | (go_at_call 33; (with_reducible refine Calls.mono (HG2.out _ (R12.out.later hb13) q hq) ?_); rintro ee w14 ⟨rfl, hb14⟩; have hB14 := bel_step hB13 hb14; have hs1 := HSum.out q hq; have hx1 := HTb.out f (f + q - f).toNat; have hx2 := HTb.out (f + q) (t - (f + q)).toNat))
        all_goals go_ret
        all_goals first
          | exact ⟨rfl, hB14⟩
          | exact ⟨rfl, hB13⟩
          | exact ⟨rfl, hB12⟩
          | exact ⟨rfl, hB10⟩
    · have hK1 : (K != 0) = true := by simpa using hK0
      clear hK0
      rcases hcase with g2 | ⟨g2, g3, ⟨g4, g5⟩ | ⟨g4, g6, g5⟩ | ⟨g4, g6, g5⟩ | ⟨g4, g5⟩⟩
      all_goals
        go_wp2_with (first | (go_at_call 31; (with_reducible refine Calls.mono (HP1.out _ Q4.out) ?_); rintro ee w5 ⟨rfl, hb5⟩; have hB5 := bel_step hB4 hb5) | (go_at_call 30; (with_reducible refine Calls.mono (HP2.out _ (Q4.out.later hb5)) ?_); rintro ee w6 ⟨rfl, hb6⟩; have hB6 := bel_step hB5 hb6) | (go_at_call 29; (with_reducible refine Calls.mono (HU1.out _ ((Q4.out.later hb5).later hb6)) ?_); rintro ee w7 ⟨rfl, hb7⟩; have hB7 := bel_step hB6 hb7) | (go_at_call 28; (with_reducible refine Calls.mono (HU2.out _ (((Q4.out.later hb5).later hb6).later hb7)) ?_); rintro ee w8 ⟨rfl, hb8⟩; have hB8 := bel_step hB7 hb8) | (go_at_call 16; (with_reducible refine Calls.mono (HA1.out _ ((((R4.out.later hb5).later hb6).later hb7).later hb8)) ?_); rintro ee w9 ⟨rfl, hb9⟩; have hB9 := bel_step hB8 hb9) | (go_at_call 14; (with_reducible refine Calls.mono (HA2.out _ (((((R4.out.later hb5).later hb6).later hb7).later hb8).later hb9)) ?_); rintro ee w10 ⟨rfl, hb10⟩; have hB10 := bel_step hB9 hb10))
        go_ret
        exact ⟨rfl, hB10⟩
  · rw [decide_eq_true (show 4096 < n by omega)] at HBig
    clear h
    go_enter Try.func10, Try.ntmps10
    go_wp2_with (go_at_call 34; (with_reducible refine (HBig _).mono ?_); rintro ee w0 ⟨rfl, rfl⟩)
    go_ret
    exact ⟨rfl, Below.refl _ _⟩
end Go.Proofs.Ytldemcdocpdkfaa
