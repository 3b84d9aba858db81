/-
  The walk of a law of chapter 3, FnMadeTables: the law returns true and turns nothing that was there. No condition.
-/
import Derived.Test.YtmefjjamkebinaaE3
import Derived.Test.YtmefjjamkebinaaX3
import Derived.Test.YtmefjjamkebinaaY3
import Derived.Test.YtmefjjamkebinaaS3
import Derived.Test.YtmefjjamkebinaaV3
import Derived.Test.Ytmefjjamkebinaa04
set_option linter.unusedSimpArgs false
set_option linter.unusedVariables false
namespace Go.Proofs.Ytmefjjamkebinaa
open Go.RowKit
theorem rdI_nilM (W : World) (B : Nat) : RdI W B none 0 [] := ⟨rfl, fun h => absurd h (Nat.lt_irrefl 0)⟩
theorem own_capM {w : World} {base : Nat} {A : Option Addr} {n c : Nat} {zs : List Int} (h : OwI w base (.slice A n c) zs) : n ≤ c ∧ c ≤ maxLen := by
  rcases h.form with ⟨h1, h2⟩ | ⟨g, cap, h1, _, _, h3, h4⟩
  · injection h1 with h1 h2 h3; subst h2 h3; exact ⟨Nat.le_refl _, Nat.zero_le _⟩
  · injection h1 with h1 h2 h5; subst h2 h5; exact ⟨h3, h4⟩
theorem deaAt_k {f : Int} {m : Nat} {Y : List Int} {k : Nat} {x age : Int} (h : okTP f m Y) (hk : k < m) (h0 : 0 < gv Y k) (ha : age = f + k) (hx : gv Y k - gv Y (k + 1) = cu (gv Y k * x)) {P : Program} {F : FuncId} {args : Array Value} {W : World} (H : Calls P F args W fun e w' => e = .returned (.tuple #[.int .i64 (deaV f m Y age), .int .i64 (ageC f m Y age)]) ∧ Below W.heap.size W w') : Calls P F args W fun e w' => e = .returned (.tuple #[.int .i64 (cu (gv Y k * x)), .int .i64 0]) ∧ Below W.heap.size W w' := by
  subst ha
  have hk2 : k < m - 1 := by
    rcases Nat.lt_or_ge k (m - 1) with h1 | h1
    · exact h1
    · have h2 : k = m - 1 := by omega
      rw [h2, h.2.2.2.1] at h0
      omega
  have e0 : ageC f m Y (f + k) = 0 := ageC_0 (okT_t.2 h) (inR_iff.2 ⟨by omega, by have := h.2.2.2.2.1; omega⟩)
  have e1 : lv f m Y (f + k) = gv Y k := by
    have : lv f m Y (f + k) = gv Y (f + k - f).toNat := if_pos (by omega)
    rw [this, show (f + k - f).toNat = k by omega]
  have e2 : lv f m Y (f + k + 1) = gv Y (k + 1) := by
    have : lv f m Y (f + k + 1) = gv Y (f + k + 1 - f).toNat := if_pos (by omega)
    rw [this, show (f + k + 1 - f).toNat = k + 1 by omega]
  have e3 : deaV f m Y (f + k) = cu (gv Y k * x) := by
    have : deaV f m Y (f + k) = lv f m Y (f + k) - lv f m Y (f + k + 1) := if_pos e0
    rw [this, e1, e2, hx]
  rw [e3, e0] at H
  exact H
set_option maxHeartbeats 8000000 in
set_option maxRecDepth 100000 in
theorem fnMadeTables_walk (A0 : Option Addr) (n0 c0 : Nat) (bs : List Int) (w : World) (h : RdB w w.heap.size A0 n0 bs) (hby : ∀ b ∈ bs, 0 ≤ b ∧ b ≤ 255) (hmx : n0 ≤ maxLen) : Calls Try.prog 4 #[.slice A0 n0 c0] w fun e' w' => e' = .returned (.bool true) ∧ Below w.heap.size w w' := by
  have HBig := fun W => big_any A0 n0 c0 W hmx
  by_cases hn : n0 ≤ 4096
  · have HCW : Hid (∀ W, Below w.heap.size w W → Code' W.heap.size W A0 n0) := fun W hB => ⟨hn, bs, (h.below hB).more hB.size, hby⟩
    rw [decide_eq_false (show ¬ 4096 < n0 by omega)] at HBig
    clear h hby
    go_enter Try.func4, Try.ntmps4
    go_wp2_with (first | (go_at_call 13; (with_reducible refine (HBig _).mono ?_); rintro ee w0 ⟨rfl, rfl⟩) | (go_at_call 14; (with_reducible refine Calls.mono (drawMakeTable_any A0 n0 c0 _ (fun W hb => HCW.out W hb)) ?_); rintro ee w1 ⟨f, l, A1, n1, c1, rs, rfl, ho, hx1, hB⟩; have R1 := Lib.hid ho.rd.2; have hn1 := Lib.hid ho.rd.1; have hc1 := own_capM ho; clear ho))
    have hm1 : n1 ≤ 120 := by have := hn1.out; omega
    by_cases hP : mtP f l n1 rs
    · have hn2 : n1 = rs.length := hn1.out
      have hok := mt_ok hP.1 hP.2.1 (by have := hP.2.2.1; omega) (by have := hP.2.2.2.1; omega) hP.2.2.2.2
      clear hn2
      have M1 := Lib.hid (fun W (hb : Below w1.heap.size w1 W) => iMt_ok f l A1 n1 c1 rs W ((R1.out.below hb).more hb.size) hP)
      have M2 := Lib.hid (fun W (hb : Below w1.heap.size w1 W) => sMt_ok f l A1 n1 c1 rs W ((R1.out.below hb).more hb.size) hP)
      have hq : Below w1.heap.size w1 w1 := Below.refl _ _
      go_wp2_with (first
        | (go_at_call 15; (with_reducible refine Calls.mono (M1.out _ hq) ?_); rintro ee w2 ⟨A2, m2, c2, rfl, ho, hb2⟩; have R2 := Lib.hid ho.rd.2; have e2 := Lib.hid ho.rd.1; have hc2 := own_capM ho; clear ho; replace hq := bel_step hq hb2; replace hB := bel_step hB hb2))
      have BT := Lib.hid (Blk.new w2 26 #[.int .i64 f, .slice A2 m2 c2])
      replace R2 := Lib.hid (RdS.cur R2.out (.cells #[.int .i64 f, .slice A2 m2 c2] 26))
      go_wp2_with (first
        | (go_at_call 16; (with_reducible refine Calls.mono (M2.out _ (hq.alloc hq.size _)) ?_); rintro ee w3 ⟨A3, m3, c3, rfl, ho, hb3⟩; have R3 := Lib.hid ho.rd.2; have e3 := Lib.hid ho.rd.1; clear ho; replace BT := Lib.hid (blk_later BT.out hb3); replace R2 := Lib.hid (R2.out.later hb3); replace hB := bel_step (hB.alloc hB.size _) hb3; obtain ⟨r0, r1, t0, t1⟩ := c2_cellsM BT.out; have hlr := BT.out.lt))
      have hF := (mtL_facts rs l (by have := hP.2.1; omega) hP.2.2.2.2).2.2
      have hrs := hP.2.2.2.2
      obtain ⟨Y, hY⟩ : ∃ Y, l :: mtL l rs = Y := ⟨_, rfl⟩
      have em2 : m2 = Y.length := by rw [← hY]; exact e2.out
      have em3 : m3 = Y.length := by rw [← hY]; exact e3.out
      have hok2 : okTP f m2 Y := by rw [em2, ← hY]; exact hok
      rw [hY] at R2 R3 hF
      have e23 : m3 = m2 := em3.trans em2.symm
      clear hok hP hY e2 e3 em2 em3 M1 M2
      subst e23
      have hm2 := hok2.2.1
      have HLT := Lib.hid (fun W (hR : RdI W W.heap.size A2 m3 Y) => iIsT_any f A2 m3 c2 Y W hR hc2.1 hc2.2 (by omega))
      rw [okT_t.2 hok2] at HLT
      have HDA := Lib.hid (fun (k : Nat) (x : Int) (hx : rs[k]? = some x) (hk : k < m3) (h0 : 0 < gv Y k) W (hR : RdI W W.heap.size A2 m3 Y) => deaAt_k (age := f + k) hok2 hk h0 rfl (hF k x hx h0) (iDeathsAt_any f A2 m3 c2 Y (f + k) W hR hc2.1 hc2.2 (by omega)))
      have hbd := Lib.hid (fun i => okT_mono hok2 i)
      have hlast := Lib.hid hok2.2.2.2.1
      have hf0 := hok2.1
      clear hF hok2
      replace R1 := Lib.hid (R1.out.later (bel_step (hq.alloc hq.size _) hb3))
      clear hb2 hq hb3 hlr
      obtain ⟨g, hg⟩ : ∃ g, w2.heap.size = g := ⟨_, rfl⟩
      rw [hg] at BT r0 r1 t0 t1 ⊢
      obtain ⟨wx, hwx⟩ : ∃ wx, w3.alloc (.cells #[.int .i64 f, .slice A3 m3 c3] 26) = wx := ⟨_, rfl⟩
      have hb : Below w3.heap.size w3 wx := hwx ▸ al_ _ _
      replace hB := bel_step hB hb; replace BT := Lib.hid (blk_later BT.out hb); replace R1 := Lib.hid (R1.out.later hb); replace R2 := Lib.hid (R2.out.later hb); clear r0 r1 t0 t1; obtain ⟨r0, r1, t0, t1⟩ := c2_cellsM BT.out
      replace R3 := Lib.hid (R3.out.later hb)
      rw [hwx]
      clear hwx hb hg
      go_wp2_with (first
        | (go_at_call 17; (with_reducible refine Calls.mono (likeT_same f A2 A3 m3 c2 c3 _ _ Y _ R2.out R3.out (Nat.le_refl _) (Nat.le_refl _) (by unfold maxLen; omega)) ?_); rintro ee wz ⟨rfl, hb⟩; (clear R3; replace hB := bel_step hB hb; replace BT := Lib.hid (blk_later BT.out hb); replace R1 := Lib.hid (R1.out.later hb); replace R2 := Lib.hid (R2.out.later hb); clear r0 r1 t0 t1; obtain ⟨r0, r1, t0, t1⟩ := c2_cellsM BT.out); clear hb)
        | (go_at_call 18; (with_reducible refine Calls.mono (HLT.out _ R2.out) ?_); rintro ee wz ⟨rfl, hb⟩; replace hB := bel_step hB hb; replace BT := Lib.hid (blk_later BT.out hb); replace R1 := Lib.hid (R1.out.later hb); replace R2 := Lib.hid (R2.out.later hb); clear r0 r1 t0 t1; obtain ⟨r0, r1, t0, t1⟩ := c2_cellsM BT.out; clear hb))
      go_loopw [10] (fun i wr => ∃ k : Nat, i = .int .i64 k ∧ k < m3 ∧ Below w.heap.size w wr ∧ Hid (Blk wr g 26 #[.int .i64 f, .slice A2 m3 c2]) ∧ Hid (RdI wr wr.heap.size A1 n1 rs) ∧ Hid (RdI wr wr.heap.size A2 m3 Y)) (fun i _ => 200 - (intOf i).toNat)
      case atStart => exact ⟨0, rfl, by omega, hB, BT, R1, R2⟩
      case round =>
        clear hB BT R1 R2 r0 r1 t0 t1
        obtain ⟨k, rfl, hk, hB, BT, R1, R2⟩ := hrel
        obtain ⟨r0, r1, t0, t1⟩ := c2_cellsM BT.out
        have hl := BT.out.lt
        have hk200 : k < 200 := by omega
        by_cases hkn : k < n1
        · obtain ⟨ad2, rfl, hd2, y0⟩ := RdI.atG R2.out hk
          by_cases h0 : 0 < gv Y k
          · obtain ⟨ad1, x, rfl, hd1, hx, y1⟩ := RdI.atI R1.out hkn
            have hxr := hrs x (List.mem_of_getElem? hx)
            have hy := hbd.out k hk
            have hp := (cu_le hy hxr).1
            have hk3 : k + 1 < m3 := by
              rcases Nat.lt_or_ge (k + 1) m3 with h1 | h1
              · exact h1
              · have h2 : k = m3 - 1 := by omega
                have h3 := hlast.out
                rw [← h2] at h3
                omega
            have HD1 := Lib.hid (fun W hR => HDA.out k x hx hk h0 W hR)
            have HU := Lib.hid (fun W => divUp_p (gv Y k * x) W hp)
            have q1 := IntWalk.i64_in (f + k) (by omega)
            have q2 := IntWalk.i64_in (gv Y k * x) (by omega)
            clear hx
            generalize gv Y k = y at *
            generalize cu (y * x) = z at *
            have h0' := decide_eq_true h0
            go_wp2_with (go_at_call 19; (with_reducible refine Calls.mono (HD1.out _ R2.out) ?_); rintro ee wz ⟨rfl, hb⟩; (replace hB := bel_step hB hb; replace BT := Lib.hid (blk_later BT.out hb); replace R1 := Lib.hid (R1.out.later hb); replace R2 := Lib.hid (R2.out.later hb); clear r0 r1 t0 t1; obtain ⟨r0, r1, t0, t1⟩ := c2_cellsM BT.out; replace y0 := keepC hb y0; replace y1 := keepC hb y1); clear hb)
            have x1 := fun X : InC wz => X.cell r1
            have x2 := fun X : InC wz => X.cell y0
            have x3 := fun X : InC wz => X.cell y1
            (refine wp_region_inC (by kernel_rfl) (by kernel_rfl) ?_; (repeat go_big_quiet_step ((go_at_call 20; with_reducible exact Calls.inC_same (HU.out _)))); refine wpQuiet_nil ?_; rintro wv ⟨⟨_, hb⟩, rfl⟩)
            clear x1 x2 x3 y0 y1
            replace hB := bel_step hB hb; replace BT := Lib.hid (blk_later BT.out hb); replace R1 := Lib.hid (R1.out.later hb); replace R2 := Lib.hid (R2.out.later hb); clear r0 r1 t0 t1; obtain ⟨r0, r1, t0, t1⟩ := c2_cellsM BT.out
            clear hb HD1 HU HDA hbd hlast
            go_wp2
            go_roundw
            case rel => exact ⟨k + 1, by go_num, hk3, hB, BT, R1, R2⟩
            case measure => simp [intOf]; omega
          · clear HDA hbd hlast
            generalize gv Y k = y at *
            go_wp2
            go_returns
            exact ⟨rfl, hB⟩
        · go_wp2
          go_returns
          exact ⟨rfl, hB⟩
    · have N1 := Lib.hid (fun W (hb : Below w1.heap.size w1 W) => iMt_no f l A1 n1 c1 rs W ((R1.out.below hb).more hb.size) hm1 hP)
      have N2 := Lib.hid (fun W (hb : Below w1.heap.size w1 W) => sMt_no f l A1 n1 c1 rs W ((R1.out.below hb).more hb.size) hm1 hP)
      have hq : Below w1.heap.size w1 w1 := Below.refl _ _
      go_wp2_with (first
        | (go_at_call 15; (with_reducible refine Calls.mono (N1.out _ hq) ?_); rintro ee w2 ⟨rfl, hb2⟩; replace hq := bel_step hq hb2; replace hB := bel_step hB hb2)
        | (go_at_call 16; (with_reducible refine Calls.mono (N2.out _ (hq.alloc hq.size _)) ?_); rintro ee w3 ⟨rfl, hb3⟩; obtain ⟨r0, r1, t0, t1⟩ := c2_cellsM (blk_later (Blk.new w2 26 #[.int .i64 0, .slice none 0 0]) hb3); have hlr := (blk_later (Blk.new w2 26 #[.int .i64 0, .slice none 0 0]) hb3).lt; replace hB := bel_step (hB.alloc hB.size _) hb3)
        | (go_at_call 17; (with_reducible refine Calls.mono (likeT_same 0 none none 0 0 0 0 0 [] _ (rdI_nilM _ _) (rdI_nilM _ _) (Nat.zero_le _) (Nat.zero_le _) (Nat.zero_le _)) ?_); rintro ee w4 ⟨rfl, hb4⟩; replace hB := bel_step (hB.alloc hB.size _) hb4))
      go_returns
      exact ⟨rfl, by go_grown⟩
  · rw [decide_eq_true (show 4096 < n0 by omega)] at HBig
    clear h
    go_enter Try.func4, Try.ntmps4
    go_wp2_with (go_at_call 13; (with_reducible refine (HBig _).mono ?_); rintro ee w0 ⟨rfl, rfl⟩)
    go_ret
    exact ⟨rfl, Below.refl _ _⟩
end Go.Proofs.Ytmefjjamkebinaa
