/-
  Contracts of spec.MakeTable.
-/
import Derived.Test.YtmefjjamkebinaaW3
set_option linter.unusedSimpArgs false
set_option linter.unusedVariables false
namespace Go.Proofs.Ytmefjjamkebinaa
open Go.RowKit
set_option maxHeartbeats 4000000 in
theorem sMt_ok (f l : Int) (A : Option Addr) (n c : Nat) (rs : List Int) (w : World) (hRA : RdI w w.heap.size A n rs) (hP : mtP f l n rs) : Calls Try.prog 16 #[.int .i64 f, .int .i64 l, .slice A n c] w fun e w' => ∃ A' m' c', e = .returned (.tuple #[.agg #[.int .i64 f, .slice A' m' c'], .int .i64 0]) ∧ OwI w' w.heap.size (.slice A' m' c') (l :: mtL l rs) ∧ Below w.heap.size w w' := by
  obtain ⟨hf, hl, hn, hm, hrs⟩ := hP
  have hlen := hRA.len
  have H1 := fun W => sIn_any f 0 100 W
  rw [show inR 0 100 f = true by unfold inR; simp; omega] at H1
  have H2 := fun W => sIn_any l 1 1000000 W
  rw [show inR 1 1000000 l = true by unfold inR; simp; omega] at H2
  have H4 := fun W (hb : Below w.heap.size w W) (q : Int) (hq : (n : Int) ≤ q) => within_any A n c rs q 0 1000 W ((hRA.below hb).more hb.size) (by unfold maxLen; omega)
  have H5 : ∀ q : Int, (n : Int) ≤ q → (rs.all (inR 0 1000) && decide ((n : Int) ≤ q)) = true := by
    intro q hq
    rw [show rs.all (inR 0 1000) = true by (rw [List.all_eq_true]; intro r hr; have := hrs r hr; unfold inR; simp; omega), decide_eq_true hq]; rfl
  have H4 : ∀ W, Below w.heap.size w W → ∀ q : Int, (n : Int) ≤ q → Calls Try.prog 42 #[.slice A n c, .int .i64 q, .int .i64 0, .int .i64 1000] W fun e w' => e = .returned (.bool true) ∧ W = w' := fun W hb q hq => by have := H4 W hb q hq; rw [H5 q hq] at this; exact this
  clear H5
  replace H1 := Lib.hid H1
  replace H2 := Lib.hid H2
  replace H4 := Lib.hid H4
  go_enter Try.func16, Try.ntmps16
  go_wp2_with (first | (go_at_call 41; (with_reducible refine (H1.out _).mono ?_); rintro ee w1 ⟨rfl, rfl⟩) | (go_at_call 41; (with_reducible refine (H2.out _).mono ?_); rintro ee w2 ⟨rfl, rfl⟩) | (go_at_call 42; (with_reducible refine (H4.out _ (by go_grown) _ (by omega)).mono ?_); rintro ee w4 ⟨rfl, rfl⟩))
  all_goals
    obtain ⟨G, hG⟩ : ∃ G, w.heap.size + 1 = G := ⟨_, rfl⟩
    have hwG : w.heap.size < G := by omega
    have hne1 : ¬ w.heap.size = G + 1 := by omega
    have hne2 : ¬ G + 1 = w.heap.size := by omega
    have hR : Below w.heap.size w (((w.alloc (.cells #[.int .i64 0, .slice none 0 0] 26)).alloc (.cells #[.int .i64 l] 2)).alloc (.cells #[.int .i64 f, .slice (some ⟨w.heap.size + 1, 0, none⟩) 1 1] 26)) := by go_grown
    have HR := Lib.hid (((Blk.new w 26 #[.int .i64 0, .slice none 0 0]).alloc (.cells #[.int .i64 l] 2)).alloc (.cells #[.int .i64 f, .slice (some ⟨w.heap.size + 1, 0, none⟩) 1 1] 26))
    have HO := Lib.hid (Blk.new ((w.alloc (.cells #[.int .i64 0, .slice none 0 0] 26)).alloc (.cells #[.int .i64 l] 2)) 26 #[.int .i64 f, .slice (some ⟨w.heap.size + 1, 0, none⟩) 1 1])
    rw [World.size_alloc, World.size_alloc] at HO
    have HL : Hid (OwI (((w.alloc (.cells #[.int .i64 0, .slice none 0 0] 26)).alloc (.cells #[.int .i64 l] 2)).alloc (.cells #[.int .i64 f, .slice (some ⟨w.heap.size + 1, 0, none⟩) 1 1] 26)) (w.heap.size + 1) (.slice (some ⟨w.heap.size + 1, 0, none⟩) 1 1) [l]) := Lib.hid (by have this : OwI (((w.alloc (.cells #[.int .i64 0, .slice none 0 0] 26)).alloc (.cells #[.int .i64 l] 2)).alloc (.cells #[.int .i64 f, .slice (some ⟨w.heap.size + 1, 0, none⟩) 1 1] 26)) (w.alloc (.cells #[.int .i64 0, .slice none 0 0] 26)).heap.size (.slice (some ⟨(w.alloc (.cells #[.int .i64 0, .slice none 0 0] 26)).heap.size, 0, none⟩) 1 1) [l] := ((owi_of_blk (Blk.new (w.alloc (.cells #[.int .i64 0, .slice none 0 0] 26)) 2 #[.int .i64 l]) rfl rfl (by simp) (Nat.le_refl _)).2).alloc _; rw [World.size_alloc] at this; exact this)
    rw [hG] at hR HO HL HR ⊢
    generalize ((w.alloc (.cells #[.int .i64 0, .slice none 0 0] 26)).alloc (.cells #[.int .i64 l] 2)).alloc (.cells #[.int .i64 f, .slice (some ⟨G, 0, none⟩) 1 1] 26) = W0 at *
    go_loopw [1, 9] (fun L i wr => ∃ (k : Nat) (lv : Int) (ys : List Int), i = .int .i64 k ∧ k ≤ n ∧ L = .int .i64 lv ∧ (0 ≤ lv ∧ lv ≤ 1000000) ∧ Hid (ys ++ mtL lv (rs.drop k) = l :: mtL l rs) ∧ ys.length ≤ k + 1 ∧ Below w.heap.size w wr ∧ Hid (Blk wr w.heap.size 26 #[.int .i64 0, .slice none 0 0]) ∧ ∃ A' m' c', Hid (Blk wr (G + 1) 26 #[.int .i64 f, .slice A' m' c']) ∧ Hid (OwI wr G (.slice A' m' c') ys) ∧ Hid (∀ q, (Value.slice A' m' c').ownBlock = some q → q ≠ G + 1)) (fun _ i _ => n - (intOf i).toNat)
    case atStart => exact ⟨0, l, [l], rfl, by omega, rfl, by omega, rfl, by simp, hR, HR, _, _, _, HO, HL, Lib.hid (fun q e => by simp only [Value.ownBlock, Option.some.injEq] at e; omega)⟩
    case round =>
      clear HO HL hR HR
      obtain ⟨k, lv, ys, rfl, hk, rfl, hlv, hY, hyl, hR, HR, A', m', c', HO, HL, HQ⟩ := hrel
      obtain ⟨o0, o1, p0, p1⟩ := c2_cellsM HO.out
      obtain ⟨r0, r1, t0, t1⟩ := c2_cellsM HR.out
      have hl1 := HO.out.lt
      by_cases hlt : k < n
      · obtain ⟨ad, r, rfl, hb, hz, hc⟩ := RdI.atI (hRA.below hR) hlt
        have hr := hrs r (List.mem_of_getElem? hz)
        by_cases h0 : 0 < lv
        · have hcu := cu_le hlv hr
          have hY2 := hY.out
          rw [mtL_at h0 hz] at hY2
          replace hY2 := Lib.hid hY2
          have HU := Lib.hid (fun W => sUp_any (lv * r) W hcu.1)
          generalize hp : lv * r = p at *
          generalize cu p = j at *
          clear hRA hrs hz H1 H2 H4 hY
          go_wp2_with (first | (go_at_call 43; (with_reducible refine (HU.out _).mono ?_); rintro ee w5 ⟨rfl, rfl⟩) | (at_builtin; refine wpl_app_intL rfl _ _ rfl G ys _ (by rfl) (HL.out.alloc _) _ (lv - j) 1 (by rfl) ((Blk.new _ _ _).cell 0) (by omega) (by simp; omega) ?_; intro A3 m3 c3 w3 ho3 hg3 hq3; have rw3 := own_rowI HL.out; have HL3 := Lib.hid ho3; have hR3 := (hR.alloc hR.size (.cells #[.int .i64 (lv - j)] 2)).grown hg3 (by have := hR.size; simp; omega) (fun q e => by have := rw3 q e; omega); have HO3 := Lib.hid ((HO.out.alloc _).grown hg3 (fun e => HQ.out _ e.symm rfl)); have HR3 := Lib.hid ((HR.out.alloc _).grown hg3 (fun e => by have := rw3 _ e.symm; omega)); have Q3 : Hid (∀ q, (Value.slice A3 m3 c3).ownBlock = some q → q ≠ G + 1) := Lib.hid (fun q e => (by rcases hq3 q e with e1 | e1; exact HQ.out q e1; (simp at e1; omega))); have hl3 := HO3.out.lt; clear o0 o1 p0 p1 r0 r1 t0 t1 ho3 hg3 hq3 rw3; obtain ⟨o0, o1, p0, p1⟩ := c2_cellsM HO3.out; obtain ⟨r0, r1, t0, t1⟩ := c2_cellsM HR3.out))
          go_roundw
          case rel => exact ⟨k + 1, lv - j, ys ++ [lv - j], by go_num, by omega, rfl, by omega, Lib.hid (by rw [List.append_assoc]; exact hY2.out), by simp; omega, hR3.setCell (by show w.heap.size ≤ G + 1; omega) _, HR3.out.far (by simp; omega) _, A3, m3, c3, HO3.out.set_ 1 _, HL3.out.off (grownBy_one _ _ _) Q3.out, Q3⟩
          case measure => simp [intOf]; omega
        · have hY2 : Hid (ys ++ mtL lv (rs.drop (k + 1)) = l :: mtL l rs) := Lib.hid (by have := hY.out; rw [mtL_no h0] at this ⊢; exact this)
          clear hRA hrs hz H1 H2 H4 hY
          have hY3 := hY2.out
          rw [mtL_no h0, List.append_nil] at hY3
          subst hY3
          go_wp2
          (try simp only [Exit.inBlock, Exit.then]); refine bodyPost_ret (v := .tuple #[.agg #[.int .i64 f, .slice A' m' c'], .int .i64 0]) (by simp [results, Try.results16, go_sem, *]) rfl ?_
          exact ⟨A', m', c', rfl, ((HL.out.store (by simp; omega) _).store (by simp; omega) _).mono (by omega), (hR.setCell (by simp) _).setCell (by simp) _⟩
      · obtain rfl : k = n := by omega
        by_cases h0 : 0 < lv
        · have hY2 := hY.out
          rw [mtL_drop_end h0 (by omega)] at hY2
          replace hY2 := Lib.hid hY2
          clear hRA hrs H1 H2 H4 hY
          go_wp2_with (at_builtin; refine wpl_app_intL rfl _ _ rfl G ys _ (by rfl) (HL.out.alloc _) _ 0 1 (by rfl) ((Blk.new _ _ _).cell 0) (by omega) (by simp; omega) ?_; intro A3 m3 c3 w3 ho3 hg3 hq3; have rw3 := own_rowI HL.out; have HL3 := Lib.hid ho3; have hR3 := (hR.alloc hR.size (.cells #[.int .i64 0] 2)).grown hg3 (by have := hR.size; simp; omega) (fun q e => by have := rw3 q e; omega); have HO3 := Lib.hid ((HO.out.alloc _).grown hg3 (fun e => HQ.out _ e.symm rfl)); have HR3 := Lib.hid ((HR.out.alloc _).grown hg3 (fun e => by have := rw3 _ e.symm; omega)); have Q3 : Hid (∀ q, (Value.slice A3 m3 c3).ownBlock = some q → q ≠ G + 1) := Lib.hid (fun q e => (by rcases hq3 q e with e1 | e1; exact HQ.out q e1; (simp at e1; omega))); have hl3 := HO3.out.lt; clear o0 o1 p0 p1 r0 r1 t0 t1 ho3 hg3 hq3 rw3; obtain ⟨o0, o1, p0, p1⟩ := c2_cellsM HO3.out; obtain ⟨r0, r1, t0, t1⟩ := c2_cellsM HR3.out)
          (try simp only [Exit.inBlock, Exit.then]); refine bodyPost_ret (v := .tuple #[.agg #[.int .i64 f, .slice A3 m3 c3], .int .i64 0]) (by simp [results, Try.results16, go_sem, *]) rfl ?_
          exact ⟨A3, m3, c3, rfl, by rw [← hY2.out]; exact (((HL3.out.off (grownBy_one _ _ _) Q3.out).store (by simp; omega) _).store (by simp; omega) _).mono (by omega), ((hR3.setCell (by show w.heap.size ≤ G + 1; omega) _).setCell (by simp) _).setCell (by simp) _⟩
        · have hY2 := hY.out
          rw [mtL_no h0, List.append_nil] at hY2
          subst hY2
          clear hRA hrs H1 H2 H4 hY
          go_wp2
          (try simp only [Exit.inBlock, Exit.then]); refine bodyPost_ret (v := .tuple #[.agg #[.int .i64 f, .slice A' m' c'], .int .i64 0]) (by simp [results, Try.results16, go_sem, *]) rfl ?_
          exact ⟨A', m', c', rfl, ((HL.out.store (by simp; omega) _).store (by simp; omega) _).mono (by omega), (hR.setCell (by simp) _).setCell (by simp) _⟩
end Go.Proofs.Ytmefjjamkebinaa
