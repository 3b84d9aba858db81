/-
  Draws of chapter 13: the walk of l13Draw.
-/
import Derived.Test.YtaikfclgmkfooaaGreatDoorW1
set_option linter.unusedSimpArgs false
set_option linter.unusedVariables false
namespace Go.Proofs.YtaikfclgmkfooaaGreatDoor
open Go.RowKit
theorem TS.monoK {B g : Nat} {w : World} {fb j k k' : Nat} {W : World} {S : Option Addr} {n c : Nat} {ss : List Int} {D : Option Addr} {m d : Nat} {ds : List Int} {ch : Int} (h : TS B g w fb j k W S n c ss D m d ds ch) (hk : k ≤ k') : TS B g w fb j k' W S n c ss D m d ds ch := ⟨h.src, h.gr, h.box, h.res, h.ownS, h.ownD, h.lenS, Nat.le_trans h.lenD hk, h.offS, h.offD, h.apt, h.hg, h.hb⟩
/-- 60 or 61 noughts -/
theorem mk60 {r : Int} (hr : 0 ≤ r ∧ r < 2) : ∀ W : World, ∃ q : Nat, 60 ≤ q ∧ q ≤ 61 ∧ (Instr.makeSlice 24 (.int .i64 (60 + r)) (.int .i64 (60 + r))).run Tryz.prog W = .ok (.slice (some ⟨W.heap.size, 0, none⟩) q q) (W.alloc (.cells (madeCells (Value.int .i64 0).cells q) 2)) := by
  have HN : (Tryz.prog.info? 2).map (fun i => (i.zero, i.size, i.bytes)) = some (some (.int .i64 0), 1, 8) := by kernel_rfl
  obtain ⟨i0, hi, hz0, hz1, hz2⟩ := info_parts HN
  intro W
  obtain ⟨q, rfl⟩ : ∃ q : Nat, r = (q : Int) := ⟨r.toNat, by omega⟩
  have h := run_make_rowN (P := Tryz.prog) 24 2 i0 _ Tryz.underlying24 hi hz0 .i64 .i64 (60 + q) (60 + q) (Nat.le_refl _) (by rw [hz2]; omega) (by omega) W
  rw [hz1, Nat.mul_one, show ((60 + q : Nat) : Int) = 60 + (q : Int) by omega] at h
  exact ⟨60 + q, by omega, by omega, h⟩
set_option maxHeartbeats 4000000 in
set_option maxRecDepth 100000 in
theorem l13Draw_any (B g : Nat) (w : World) (h : Src B w g) : Calls Tryz.prog 20 #[.pointer (some ⟨g, 0, none⟩)] w (DrC B g w) := by
  have hlt := h.lt
  have S0 := Lib.hid h
  have G0 : w.grownBy w (some g) := World.grownBy.refl _ _
  clear h
  go_enter Tryz.func20, Tryz.ntmps20
  go_upto_region 1 with fail
  go_cut [3] (fun s3 wx => ∃ (fb : Nat) (S : Option Addr) (n c : Nat) (ss : List Int) (D : Option Addr) (m d : Nat) (ds : List Int) (ch : Int), s3 = .pointer (some ⟨fb, 0, none⟩) ∧ Hid (TS B g w fb 0 0 wx S n c ss D m d ds ch))
  case first =>
    have S3 := Lib.hid ((((S0.out.alloc (.cells #[.slice none 0 0, .slice none 0 0, .int .i64 0] 26)).alloc (.cells #[] 2)).alloc (.cells #[] 2)).alloc (.cells #[.int .i64 1, .int .i64 50, .int .i64 10000] 2))
    have G3 := Lib.hid (grownBy_alloc (grownBy_alloc (grownBy_alloc (grownBy_alloc G0 (.cells #[.slice none 0 0, .slice none 0 0, .int .i64 0] 26)) (.cells #[] 2)) (.cells #[] 2)) (.cells #[.int .i64 1, .int .i64 50, .int .i64 10000] 2))
    have OS := Lib.hid (((ownEmpty (w.alloc (.cells #[.slice none 0 0, .slice none 0 0, .int .i64 0] 26)) (w.heap.size + 1) (by simp)).alloc (.cells #[] 2)).alloc (.cells #[.int .i64 1, .int .i64 50, .int .i64 10000] 2))
    have OD := Lib.hid ((ownEmpty ((w.alloc (.cells #[.slice none 0 0, .slice none 0 0, .int .i64 0] 26)).alloc (.cells #[] 2)) (w.heap.size + 1) (by simp)).alloc (.cells #[.int .i64 1, .int .i64 50, .int .i64 10000] 2))
    have BR := Lib.hid ((((Blk.new w 26 #[.slice none 0 0, .slice none 0 0, .int .i64 0]).alloc (.cells #[] 2)).alloc (.cells #[] 2)).alloc (.cells #[.int .i64 1, .int .i64 50, .int .i64 10000] 2))
    have e3 : (((w.alloc (.cells #[.slice none 0 0, .slice none 0 0, .int .i64 0] 26)).alloc (.cells #[] 2)).alloc (.cells #[] 2)).heap.size = w.heap.size + 1 + 1 + 1 := by simp
    have RL := rd_litD (((w.alloc (.cells #[.slice none 0 0, .slice none 0 0, .int .i64 0] 26)).alloc (.cells #[] 2)).alloc (.cells #[] 2)) #[.int .i64 1, .int .i64 50, .int .i64 10000] [1, 50, 10000] 2 rfl 3 rfl
    rw [e3] at RL
    replace RL := Lib.hid RL
    clear e3
    rw [World.size_alloc] at OS
    rw [World.size_alloc, World.size_alloc] at OD
    go_wp2_with (first | (go_at_call 42; (with_reducible refine Calls.mono (pick_any B g _ _ _ [1, 50, 10000] _ S3.out RL.out (by rintro ad ⟨rfl⟩; simp; omega) (by omega)) ?_); rintro ee w1 ⟨r1, rfl, -, hs1, hg1⟩; have S4 := Lib.hid hs1; have G4 := Lib.hid hg1; clear hs1 hg1) | (go_at_call 26; (with_reducible refine Calls.mono (next_any B g _ _ S4.out) ?_); rintro ee w2 ⟨r2, rfl, -, hs2, hg2⟩; have S5 := Lib.hid hs2; have G5 := Lib.hid hg2; clear hs2 hg2))
    go_meet
    case rel =>
      have hz1 := G4.out.size
      have hz2 := G5.out.size
      simp only [World.size_alloc] at hz1
      refine ⟨w2.heap.size, some ⟨w.heap.size + 1, 0, none⟩, 0, 0, [], some ⟨w.heap.size + 1 + 1, 0, none⟩, 0, 0, [], r2, rfl, Lib.hid ⟨S5.out.alloc _, grownBy_alloc (grownBy_tr (grownBy_tr G3.out G4.out) G5.out) _, Blk.new _ _ _, (blk_far (blk_far BR.out G4.out hlt) G5.out hlt).alloc _, ((OS.out.far G4.out (by omega)).far G5.out (by omega)).alloc _, ((OD.out.far G4.out (by omega)).far G5.out (by omega)).alloc _, rfl, Nat.le_refl _, ?_, ?_, ?_, hlt, by omega⟩⟩
      · intro q e; simp only [Value.ownBlock, Option.some.injEq] at e; omega
      · intro q e; simp only [Value.ownBlock, Option.some.injEq] at e; omega
      · intro q e e2; simp only [Value.ownBlock, Option.some.injEq] at e e2; omega
  case rest =>
    obtain ⟨fb, S, n, c, ss, D, m, d, ds, ch, rfl, H⟩ := hcut
    clear S0 G0
    have hgz := H.out.hg
    have hbz := H.out.hb
    (try clear k0 k1 k2 f0 f1 f2); obtain ⟨⟨k0, k1, k2⟩, f0, f1, f2⟩ := r3_cells H.out.box; (try clear x0 x1 x2 y0 y1 y2); obtain ⟨⟨x0, x1, x2⟩, y0, y1, y2⟩ := r3_cells H.out.res; have hlz := H.out.lt
    go_upto_region 3 with (go_at_call 42; (with_reducible refine Calls.mono (TS.pick H.out [3, 6, 1, 100] #[.int .i64 3, .int .i64 6, .int .i64 1, .int .i64 100] rfl _ rfl (by omega)) ?_); rintro ee wz ⟨rp, rfl, hs⟩; replace H := Lib.hid hs; clear hs; (try clear k0 k1 k2 f0 f1 f2); obtain ⟨⟨k0, k1, k2⟩, f0, f1, f2⟩ := r3_cells H.out.box; (try clear x0 x1 x2 y0 y1 y2); obtain ⟨⟨x0, x1, x2⟩, y0, y1, y2⟩ := r3_cells H.out.res; have hlz := H.out.lt)
    go_wp2_with (go_at_call 26; (with_reducible refine Calls.mono (TS.next H.out _) ?_); rintro ee wz ⟨r, rfl, hr, hs⟩; replace H := Lib.hid hs; clear hs; have hr1 := hr.2 (by omega); have q1 := IntWalk.i64_in (1 + r) (by omega); (try clear k0 k1 k2 f0 f1 f2); obtain ⟨⟨k0, k1, k2⟩, f0, f1, f2⟩ := r3_cells H.out.box; (try clear x0 x1 x2 y0 y1 y2); obtain ⟨⟨x0, x1, x2⟩, y0, y1, y2⟩ := r3_cells H.out.res; have hlz := H.out.lt)
    go_loopw [5] (fun nn wr => ∃ (N : Int) (j : Nat) (S : Option Addr) (n c : Nat) (ss : List Int) (D : Option Addr) (m d : Nat) (ds : List Int) (ch : Int), nn = .int .i64 N ∧ 0 ≤ N ∧ (j : Int) + N ≤ 8 ∧ 1 ≤ (j : Int) + N ∧ Hid (TS B g w fb j j wr S n c ss D m d ds ch)) (fun nn _ => (intOf nn).toNat)
    case atStart => exact ⟨1 + r, 0, _, _, _, _, _, _, _, _, _, rfl, by omega, by omega, by omega, H⟩
    case round =>
      clear H k0 k1 k2 f0 f1 f2 x0 x1 x2 y0 y1 y2 hlz hr hr1 q1
      obtain ⟨N, j, S, n, c, ss, D, m, d, ds, ch, rfl, hN0, hjN, hjN1, H⟩ := hrel
      (try clear k0 k1 k2 f0 f1 f2); obtain ⟨⟨k0, k1, k2⟩, f0, f1, f2⟩ := r3_cells H.out.box; (try clear x0 x1 x2 y0 y1 y2); obtain ⟨⟨x0, x1, x2⟩, y0, y1, y2⟩ := r3_cells H.out.res; have hlz := H.out.lt
      by_cases hN : 0 < N
      · go_wp2_with (first | (at_builtin; refine wpl_app_intL rfl _ _ rfl (w.heap.size + 1) ds _ (by rfl) (H.out.alloc _).ownD _ _ 1 (by rfl) ((Blk.new _ _ _).cell 0) (by have := H.out.lenD; omega) (by have := H.out.gr.size; have := H.out.hb; have := H.out.lt; simp; omega) ?_; intro A3 m3 c3 w3 ho3 hg3 hq3; obtain ⟨hb3, h9⟩ := (H.out.alloc _).appD ho3 hg3 hq3; have H9 := Lib.hid h9; (try clear k0 k1 k2 f0 f1 f2); obtain ⟨⟨k0, k1, k2⟩, f0, f1, f2⟩ := r3_cells hb3; have hl3 := hb3.lt; clear ho3 hg3 hq3 h9) | (go_at_call 26; (with_reducible refine Calls.mono (TS.next H.out _) ?_); rintro ee wz ⟨r, rfl, hr, hs⟩; replace H := Lib.hid hs; clear hs; (try clear k0 k1 k2 f0 f1 f2); obtain ⟨⟨k0, k1, k2⟩, f0, f1, f2⟩ := r3_cells H.out.box; (try clear x0 x1 x2 y0 y1 y2); obtain ⟨⟨x0, x1, x2⟩, y0, y1, y2⟩ := r3_cells H.out.res; have hlz := H.out.lt))
        all_goals (first | (replace H := H9; clear H9; generalize w3.setCell ⟨fb, 1, none⟩ (.slice A3 m3 c3) = Wq at *) | (replace H := Lib.hid (H.out.monoK (Nat.le_succ j)); generalize wz = Wq at *))
        all_goals
          clear k0 k1 k2 f0 f1 f2 x0 x1 x2 y0 y1 y2
          have HX := Lib.hid H.out.drew
          have hS0 := (r3_cells HX.out.box).1.1
          clear H
          refine wp_region_D 8 (fun W' : World => W'.cell? ⟨fb, 0, none⟩ = some (.slice S n c)) (by kernel_rfl) ?_
          generalize Wq.drew = Wd at *
          refine wpAnyD_take (i := 0) (v := ?_) rfl (by kernel_rfl) (fun _ _ _ h => h) (Or.inl ⟨by rfl, ?_⟩) (by assumption) ?_; rotate_left; (intro w' hSw; (try dsimp only at hSw); go_simp; with_reducible rfl); (try simp only [Act.put, List.setIfInBounds_toArray, List.set_cons_zero, List.set_cons_succ])
          refine wpAnyD_take (i := 1) (v := ?_) rfl (by kernel_rfl) (fun _ _ _ h => h) (Or.inl ⟨by rfl, ?_⟩) (by assumption) ?_; rotate_left; (intro w' hSw; (try dsimp only at hSw); go_simp; with_reducible rfl); (try simp only [Act.put, List.setIfInBounds_toArray, List.set_cons_zero, List.set_cons_succ])
          refine wpAnyD_take (i := 2) (v := ?_) rfl (by kernel_rfl) (fun _ _ _ h => h) (Or.inl ⟨by rfl, ?_⟩) (by assumption) ?_; rotate_left; (intro w' hSw; (try dsimp only at hSw); go_simp; with_reducible rfl); (try simp only [Act.put, List.setIfInBounds_toArray, List.set_cons_zero, List.set_cons_succ])
          refine wpAnyD_one (i := 3) rfl (by kernel_rfl) (fun K hK => ?_)
          go_simp
          (with_reducible refine Calls.mono (TS.next HX.out _) ?_)
          rintro ee wy ⟨r9, rfl, hr9, hs⟩
          dsimp only
          have h91 := hr9.2 (by omega)
          have q9 := IntWalk.i64_in (1 + r9) (by omega)
          replace HX := Lib.hid hs
          clear hs hS0
          have hS := (r3_cells HX.out.box).1.1
          refine hK _ _ (fun _ => hS) ?_; clear hK K; (try simp only [Act.put, List.setIfInBounds_toArray, List.set_cons_zero, List.set_cons_succ])
          refine wpAnyD_take (i := 4) (v := ?_) rfl (by kernel_rfl) (fun _ _ _ h => h) (Or.inl ⟨by rfl, ?_⟩) (by assumption) ?_; rotate_left; (intro w' hSw; (try dsimp only at hSw); go_simp; with_reducible rfl); (try simp only [Act.put, List.setIfInBounds_toArray, List.set_cons_zero, List.set_cons_succ])
          refine wpAnyD_one (i := 5) rfl (by kernel_rfl) (fun K hK => ?_)
          go_simp
          have HY := Lib.hid (HX.out.alloc (.cells #[.int .i64 (1 + r9)] 2))
          have hSY := (r3_cells HY.out.box).1.1
          have hzy : w.heap.size + 1 ≤ (wy.alloc (.cells #[.int .i64 (1 + r9)] 2)).heap.size := by have h1 := HY.out.gr.size; have h2 := HY.out.hb; have h3 := HY.out.lt; omega
          refine hK _ _ (fun _ => hSY) ?_; clear hK K; (try simp only [Act.put, List.setIfInBounds_toArray, List.set_cons_zero, List.set_cons_succ])
          refine wpAnyD_one (i := 6) rfl (by kernel_rfl) (fun K hK => ?_)
          refine step_app_intL (by rfl) _ _ (by rfl) (w.heap.size + 1) ss _ (by rfl) HY.out.ownS ⟨wy.heap.size, 0, none⟩ (1 + r9) 1 (by rfl) ((Blk.new _ _ _).cell 0) (by have := HX.out.lenS; omega) hzy ?_
          intro A9 m9 c9 w9 ho9 hg9 hq9
          obtain ⟨hb9, h9⟩ := HY.out.appS ho9 hg9 hq9
          have r3 := r3_cells hb9
          have hS9 := r3.1.1
          have f0 := r3.2.1
          have hl9 := hb9.lt
          clear hS hSY ho9 hg9 hq9 HY HX
          refine hK _ _ (fun _ => hS9) ?_; clear hK K; (try simp only [Act.put, List.setIfInBounds_toArray, List.set_cons_zero, List.set_cons_succ])
          refine wpAnyD_take (i := 7) (v := ?_) rfl (by kernel_rfl) (fun _ _ _ h => h) (Or.inl ⟨by rfl, ?_⟩) (by assumption) ?_; rotate_left; (intro w' hSw; (try dsimp only at hSw); go_simp; with_reducible rfl); (try simp only [Act.put, List.setIfInBounds_toArray, List.set_cons_zero, List.set_cons_succ])
          refine wpAnyD_one (i := 8) rfl (by kernel_rfl) (fun K hK => ?_)
          go_simp
          refine hK _ _ (fun h => absurd rfl h) ?_
          clear hK K
          refine wpAnyD_done (by kernel_rfl) ?_ _
          replace h9 := Lib.hid h9
          clear r3 hS9 f0 hb9
          go_wp2_with fail
          go_roundw
          case rel => exact ⟨N - 1, j + 1, _, _, _, _, _, _, _, _, _, by go_num, by omega, by omega, by omega, h9⟩
          case measure => simp [intOf]; omega
      · have hj1 : 1 ≤ j ∧ j ≤ 8 := by omega
        go_wp2_with (first | (go_at_call 26; (with_reducible refine Calls.mono (TS.next H.out 2) ?_); rintro ee wz ⟨r2, rfl, hr2, hs⟩; replace H := Lib.hid hs; clear hs; have hr3 := hr2.2 (by omega); have q3 := IntWalk.i64_in (60 + r2) (by omega); obtain ⟨qn, hqn0, hqn, hmk⟩ := mk60 hr3 wz; (try clear k0 k1 k2 f0 f1 f2); obtain ⟨⟨k0, k1, k2⟩, f0, f1, f2⟩ := r3_cells H.out.box; (try clear x0 x1 x2 y0 y1 y2); obtain ⟨⟨x0, x1, x2⟩, y0, y1, y2⟩ := r3_cells H.out.res; have hlz := H.out.lt) | (go_at_call 26; (with_reducible refine Calls.mono (TS.next H.out _) ?_); rintro ee wz ⟨r, rfl, hr, hs⟩; replace H := Lib.hid hs; clear hs; (try clear k0 k1 k2 f0 f1 f2); obtain ⟨⟨k0, k1, k2⟩, f0, f1, f2⟩ := r3_cells H.out.box; (try clear x0 x1 x2 y0 y1 y2); obtain ⟨⟨x0, x1, x2⟩, y0, y1, y2⟩ := r3_cells H.out.res; have hlz := H.out.lt) | (go_at_call 42; (with_reducible refine Calls.mono (TS.pick H.out [-1, 1000000000000, 999999999995, 1000000000001] #[.int .i64 (-1), .int .i64 1000000000000, .int .i64 999999999995, .int .i64 1000000000001] rfl _ rfl (by omega)) ?_); rintro ee wz ⟨rp, rfl, hs⟩; replace H := Lib.hid hs; clear hs; (try clear k0 k1 k2 f0 f1 f2); obtain ⟨⟨k0, k1, k2⟩, f0, f1, f2⟩ := r3_cells H.out.box; (try clear x0 x1 x2 y0 y1 y2); obtain ⟨⟨x0, x1, x2⟩, y0, y1, y2⟩ := r3_cells H.out.res; have hlz := H.out.lt))
        · have HX := Lib.hid H.out.drew
          obtain ⟨gs, u, rfl, hnj, -⟩ := H.out.setS hj1.1 0
          subst hnj
          have hj0 : (0 : Int) < (n : Int) := by omega
          have hS0 := (r3_cells HX.out.box).1.1
          clear H k0 k1 k2 f0 f1 f2 x0 x1 x2 y0 y1 y2 u
          refine wp_region_D 6 (fun W' : World => W'.cell? ⟨fb, 0, none⟩ = some (.slice (some ⟨gs, 0, none⟩) n c)) (by kernel_rfl) ?_
          generalize wz.drew = Wd at *
          refine wpAnyD_take (i := 0) (v := ?_) rfl (by kernel_rfl) (fun _ _ _ h => h) (Or.inl ⟨by rfl, ?_⟩) (by assumption) ?_; rotate_left; (intro w' hSw; (try dsimp only at hSw); go_simp; with_reducible rfl); (try simp only [Act.put, List.setIfInBounds_toArray, List.set_cons_zero, List.set_cons_succ])
          refine wpAnyD_take (i := 1) (v := ?_) rfl (by kernel_rfl) (fun _ _ _ h => h) (Or.inl ⟨by rfl, ?_⟩) (by assumption) ?_; rotate_left; (intro w' hSw; (try dsimp only at hSw); go_simp; with_reducible rfl); (try simp only [Act.put, List.setIfInBounds_toArray, List.set_cons_zero, List.set_cons_succ])
          refine wpAnyD_take (i := 2) (v := ?_) rfl (by kernel_rfl) (fun _ _ _ h => h) (Or.inl ⟨by rfl, ?_⟩) (by assumption) ?_; rotate_left; (intro w' hSw; (try dsimp only at hSw); go_simp; with_reducible rfl); (try simp only [Act.put, List.setIfInBounds_toArray, List.set_cons_zero, List.set_cons_succ])
          refine wpAnyD_one (i := 3) rfl (by kernel_rfl) (fun K hK => ?_)
          go_simp
          have HY := Lib.hid (HX.out.alloc (.cells #[.int .i64 0, .int .i64 1000, .int .i64 1001] 2))
          have hSY := (r3_cells HY.out.box).1.1
          refine hK _ _ (fun _ => hSY) ?_; clear hK K; (try simp only [Act.put, List.setIfInBounds_toArray, List.set_cons_zero, List.set_cons_succ])
          refine wpAnyD_one (i := 4) rfl (by kernel_rfl) (fun K hK => ?_)
          go_simp
          (with_reducible refine Calls.mono (TS.pick HX.out [0, 1000, 1001] #[.int .i64 0, .int .i64 1000, .int .i64 1001] rfl _ rfl (by omega)) ?_)
          rintro ee wy ⟨rp5, rfl, hs⟩
          dsimp only
          have hS := (r3_cells hs.box).1.1
          clear HY hSY hS0 HX
          refine hK _ _ (fun _ => hS) ?_; clear hK K; (try simp only [Act.put, List.setIfInBounds_toArray, List.set_cons_zero, List.set_cons_succ])
          refine wpAnyD_take (i := 5) (v := ?_) rfl (by kernel_rfl) (fun _ _ _ h => h) (Or.inl ⟨by rfl, ?_⟩) (by assumption) ?_
          rotate_left
          · intro w' hSw
            (try dsimp only at hSw)
            go_simp
            rw [if_pos (show 0 < n from hj1.1)]
          (try simp only [Act.put, List.setIfInBounds_toArray, List.set_cons_zero, List.set_cons_succ])
          obtain ⟨gs', u, e, _, hlg, hcu, hfu, hT⟩ := hs.setS hj1.1 rp5
          cases e
          replace hT := Lib.hid hT
          clear hs
          refine wpAnyD_one (i := 6) rfl (by kernel_rfl) (fun K hK => ?_)
          go_simp
          refine hK _ _ (fun h => absurd rfl h) ?_
          clear hK K
          refine wpAnyD_done (by kernel_rfl) ?_ _
          clear hS hcu hfu u
          obtain ⟨Wt, hWt⟩ : ∃ Wt, wy.setCell ⟨gs, 0, none⟩ (.int .i64 rp5) = Wt := ⟨_, rfl⟩
          rw [hWt] at hT ⊢
          have H := hT
          clear hT hWt
          (try clear k0 k1 k2 f0 f1 f2); obtain ⟨⟨k0, k1, k2⟩, f0, f1, f2⟩ := r3_cells H.out.box; (try clear x0 x1 x2 y0 y1 y2); obtain ⟨⟨x0, x1, x2⟩, y0, y1, y2⟩ := r3_cells H.out.res; have hlz := H.out.lt
          go_wp2
          (try simp only [Exit.inBlock, Exit.then]); have hlw : w.heap.size < Wt.heap.size := (by omega); refine bodyPost_ret (v := .agg #[.slice (some ⟨gs, 0, none⟩) n c, .slice D m d, .int .i64 ch]) (by simp [results, Tryz.results20, go_sem, x0, x1, x2, hlw]; done) rfl ?_
          exact H.out.fin (by omega) (by omega) _ _ _
        · have HX := Lib.hid H.out.drew
          have hn1 : n = j := by have := H.out.ownS.rd.1; have := H.out.lenS; omega
          subst hn1
          have q4 := IntWalk.i64_in ((n : Int) - 1) (by omega)
          have r3 := r3_cells HX.out.box
          have hS0 := (show (fun W' : World => W'.cell? ⟨fb, 0, none⟩ = some (.slice S n c) ∧ W'.cell? ⟨fb, 1, none⟩ = some (.slice D m d)) wz.drew from ⟨r3.1.1, r3.1.2.1⟩)
          clear H r3 k0 k1 k2 f0 f1 f2 x0 x1 x2 y0 y1 y2
          refine wp_region_D 15 (fun W' : World => W'.cell? ⟨fb, 0, none⟩ = some (.slice S n c) ∧ W'.cell? ⟨fb, 1, none⟩ = some (.slice D m d)) (by kernel_rfl) ?_
          generalize wz.drew = Wd at *
          refine wpAnyD_take (i := 0) (v := ?_) rfl (by kernel_rfl) (fun _ _ _ h => h) (Or.inl ⟨by rfl, ?_⟩) (by assumption) ?_; rotate_left; (intro w' hSw; (try dsimp only at hSw); go_simp; with_reducible rfl); (try simp only [Act.put, List.setIfInBounds_toArray, List.set_cons_zero, List.set_cons_succ])
          refine wpAnyD_take (i := 1) (v := ?_) rfl (by kernel_rfl) (fun _ _ _ h => h) (Or.inl ⟨by rfl, ?_⟩) (by assumption) ?_; rotate_left; (intro w' hSw; (try dsimp only at hSw); go_simp; with_reducible rfl); (try simp only [Act.put, List.setIfInBounds_toArray, List.set_cons_zero, List.set_cons_succ])
          refine wpAnyD_take (i := 2) (v := ?_) rfl (by kernel_rfl) (fun _ _ _ h => h) (Or.inl ⟨by rfl, ?_⟩) (by assumption) ?_; rotate_left; (intro w' hSw; (try dsimp only at hSw); go_simp; with_reducible rfl); (try simp only [Act.put, List.setIfInBounds_toArray, List.set_cons_zero, List.set_cons_succ])
          refine wpAnyD_take (i := 3) (v := ?_) rfl (by kernel_rfl) (fun _ _ _ h => h) (Or.inl ⟨by rfl, ?_⟩) (by assumption) ?_; rotate_left; (intro w' hSw; (try dsimp only at hSw); go_simp; with_reducible rfl); (try simp only [Act.put, List.setIfInBounds_toArray, List.set_cons_zero, List.set_cons_succ])
          refine wpAnyD_take (i := 4) (v := ?_) rfl (by kernel_rfl) (fun _ _ _ h => h) (Or.inl ⟨by rfl, ?_⟩) (by assumption) ?_; rotate_left; (intro w' hSw; (try dsimp only at hSw); go_simp; with_reducible rfl); (try simp only [Act.put, List.setIfInBounds_toArray, List.set_cons_zero, List.set_cons_succ])
          refine wpAnyD_take (i := 5) (v := ?_) rfl (by kernel_rfl) (fun _ _ _ h => h) (Or.inl ⟨by rfl, ?_⟩) (by assumption) ?_; rotate_left; (intro w' hSw; (try dsimp only at hSw); go_simp; with_reducible rfl); (try simp only [Act.put, List.setIfInBounds_toArray, List.set_cons_zero, List.set_cons_succ])
          refine wpAnyD_take (i := 6) (v := ?_) rfl (by kernel_rfl) (fun _ _ _ h => h) (Or.inl ⟨by rfl, ?_⟩) (by assumption) ?_; rotate_left; (intro w' hSw; (try dsimp only at hSw); go_simp; with_reducible rfl); (try simp only [Act.put, List.setIfInBounds_toArray, List.set_cons_zero, List.set_cons_succ])
          refine wpAnyD_take (i := 7) (v := ?_) rfl (by kernel_rfl) (fun _ _ _ h => h) (Or.inl ⟨by rfl, ?_⟩) (by assumption) ?_; rotate_left; (intro w' hSw; (try dsimp only at hSw); go_simp; with_reducible rfl); (try simp only [Act.put, List.setIfInBounds_toArray, List.set_cons_zero, List.set_cons_succ])
          refine wpAnyD_take (i := 8) (v := ?_) rfl (by kernel_rfl) (fun _ _ _ h => h) (Or.inl ⟨by rfl, ?_⟩) (by assumption) ?_; rotate_left; (intro w' hSw; (try dsimp only at hSw); go_simp; with_reducible rfl); (try simp only [Act.put, List.setIfInBounds_toArray, List.set_cons_zero, List.set_cons_succ])
          refine wpAnyD_take (i := 9) (v := ?_) rfl (by kernel_rfl) (fun _ _ _ h => h) (Or.inl ⟨by rfl, ?_⟩) (by assumption) ?_; rotate_left; (intro w' hSw; (try dsimp only at hSw); go_simp; with_reducible rfl); (try simp only [Act.put, List.setIfInBounds_toArray, List.set_cons_zero, List.set_cons_succ])
          refine wpAnyD_one (i := 10) rfl (by kernel_rfl) (fun K hK => ?_)
          go_simp
          have HY := Lib.hid (HX.out.alloc (.cells #[.int .i64 (-1), .int .i64 0, .int .i64 (n : Int), .int .i64 ((n : Int) - 1)] 2))
          have r3 := r3_cells HY.out.box
          have hSY := (show (fun W' : World => W'.cell? ⟨fb, 0, none⟩ = some (.slice S n c) ∧ W'.cell? ⟨fb, 1, none⟩ = some (.slice D m d)) (Wd.alloc (.cells #[.int .i64 (-1), .int .i64 0, .int .i64 (n : Int), .int .i64 ((n : Int) - 1)] 2)) from ⟨r3.1.1, r3.1.2.1⟩)
          clear r3
          refine hK _ _ (fun _ => hSY) ?_; clear hK K; (try simp only [Act.put, List.setIfInBounds_toArray, List.set_cons_zero, List.set_cons_succ])
          refine wpAnyD_one (i := 11) rfl (by kernel_rfl) (fun K hK => ?_)
          go_simp
          (with_reducible refine Calls.mono (TS.pick HX.out [-1, 0, (n : Int), (n : Int) - 1] #[.int .i64 (-1), .int .i64 0, .int .i64 (n : Int), .int .i64 ((n : Int) - 1)] rfl _ rfl (by omega)) ?_)
          rintro ee wy ⟨rp5, rfl, hs⟩
          dsimp only
          have r3 := r3_cells hs.box
          have hS := (show (fun W' : World => W'.cell? ⟨fb, 0, none⟩ = some (.slice S n c) ∧ W'.cell? ⟨fb, 1, none⟩ = some (.slice D m d)) wy from ⟨r3.1.1, r3.1.2.1⟩)
          clear HY hSY hS0 HX r3
          refine hK _ _ (fun _ => hS) ?_; clear hK K; (try simp only [Act.put, List.setIfInBounds_toArray, List.set_cons_zero, List.set_cons_succ])
          refine wpAnyD_one (i := 12) rfl (by kernel_rfl) (fun K hK => ?_)
          go_simp
          have HZ := Lib.hid (hs.alloc (.cells #[.int .i64 rp5] 2))
          have r3 := r3_cells HZ.out.box
          have hSZ := (show (fun W' : World => W'.cell? ⟨fb, 0, none⟩ = some (.slice S n c) ∧ W'.cell? ⟨fb, 1, none⟩ = some (.slice D m d)) (wy.alloc (.cells #[.int .i64 rp5] 2)) from ⟨r3.1.1, r3.1.2.1⟩)
          have hzy : w.heap.size + 1 ≤ (wy.alloc (.cells #[.int .i64 rp5] 2)).heap.size := by have h2 := HZ.out.hb; have h3 := HZ.out.lt; omega
          clear r3
          refine hK _ _ (fun _ => hSZ) ?_; clear hK K; (try simp only [Act.put, List.setIfInBounds_toArray, List.set_cons_zero, List.set_cons_succ])
          refine wpAnyD_one (i := 13) rfl (by kernel_rfl) (fun K hK => ?_)
          refine step_app_intL (by rfl) _ _ (by rfl) (w.heap.size + 1) ds _ (by rfl) HZ.out.ownD ⟨wy.heap.size, 0, none⟩ rp5 1 (by rfl) ((Blk.new _ _ _).cell 0) (by have := HZ.out.lenD; omega) hzy ?_
          intro A9 m9 c9 w9 ho9 hg9 hq9
          obtain ⟨hb9, h9⟩ := HZ.out.appD ho9 hg9 hq9
          have r3 := r3_cells hb9
          have hS9 := (show (fun W' : World => W'.cell? ⟨fb, 0, none⟩ = some (.slice S n c) ∧ W'.cell? ⟨fb, 1, none⟩ = some (.slice D m d)) w9 from ⟨r3.1.1, r3.1.2.1⟩)
          have f1 := r3.2.2.1
          have hl9 := hb9.lt
          clear hS hSZ ho9 hg9 hq9 HZ hs
          refine hK _ _ (fun _ => hS9) ?_; clear hK K; (try simp only [Act.put, List.setIfInBounds_toArray, List.set_cons_zero, List.set_cons_succ])
          refine wpAnyD_take (i := 14) (v := ?_) rfl (by kernel_rfl) (fun _ _ _ h => h) (Or.inl ⟨by rfl, ?_⟩) (by assumption) ?_; rotate_left; (intro w' hSw; (try dsimp only at hSw); go_simp; with_reducible rfl); (try simp only [Act.put, List.setIfInBounds_toArray, List.set_cons_zero, List.set_cons_succ])
          refine wpAnyD_one (i := 15) rfl (by kernel_rfl) (fun K hK => ?_)
          have k1 := r3.1.2.1
          go_simp
          refine hK _ _ (fun h => absurd rfl h) ?_
          clear hK K
          refine wpAnyD_done (by kernel_rfl) ?_ _
          clear hS9 f1 k1 r3 hb9
          obtain ⟨Wt, hWt⟩ : ∃ Wt, w9.setCell ⟨fb, 1, none⟩ (.slice A9 m9 c9) = Wt := ⟨_, rfl⟩
          rw [hWt] at h9 ⊢
          have H := Lib.hid h9
          clear h9 hWt
          (try clear k0 k1 k2 f0 f1 f2); obtain ⟨⟨k0, k1, k2⟩, f0, f1, f2⟩ := r3_cells H.out.box; (try clear x0 x1 x2 y0 y1 y2); obtain ⟨⟨x0, x1, x2⟩, y0, y1, y2⟩ := r3_cells H.out.res; have hlz := H.out.lt
          go_wp2
          (try simp only [Exit.inBlock, Exit.then]); have hlw : w.heap.size < Wt.heap.size := (by omega); refine bodyPost_ret (v := .agg #[.slice S n c, .slice A9 m9 c9, .int .i64 ch]) (by simp [results, Tryz.results20, go_sem, x0, x1, x2, hlw]; done) rfl ?_
          exact H.out.fin (by omega) (by omega) _ _ _
        · (try simp only [Exit.inBlock, Exit.then]); have hlw : w.heap.size < wz.heap.size := (by omega); refine bodyPost_ret (v := .agg #[.slice S n c, .slice D m d, .int .i64 rp]) (by simp [results, Tryz.results20, go_sem, x0, x1, x2, hlw]; done) rfl ?_
          exact (H.out.chest rp).fin (by omega) (by omega) _ _ _
        · have hM := Lib.hid (H.out.made (q := qn) (by omega))
          clear H k0 k1 k2 f0 f1 f2 x0 x1 x2 y0 y1 y2 hlz hmk q3
          go_loopw [6] (fun i wr => ∃ (i0 : Nat) (S : Option Addr) (n c : Nat) (ss : List Int) (D : Option Addr) (m d : Nat) (ds : List Int) (ch : Int), i = .int .i64 i0 ∧ i0 ≤ qn ∧ Hid (TS B g w fb qn 0 wr S n c ss D m d ds ch)) (fun i _ => qn - (intOf i).toNat)
          case atStart => exact ⟨0, _, _, _, _, _, _, _, _, _, rfl, Nat.zero_le _, hM⟩
          case round =>
            clear hM
            obtain ⟨i0, S, n, c, ss, D, m, d, ds, ch, rfl, hi0, H⟩ := hrel
            have hn1 : n = qn := by have := H.out.ownS.rd.1; have := H.out.lenS; omega
            subst hn1
            (try clear k0 k1 k2 f0 f1 f2); obtain ⟨⟨k0, k1, k2⟩, f0, f1, f2⟩ := r3_cells H.out.box; (try clear x0 x1 x2 y0 y1 y2); obtain ⟨⟨x0, x1, x2⟩, y0, y1, y2⟩ := r3_cells H.out.res; have hlz := H.out.lt
            by_cases hlt : i0 < n
            · obtain ⟨gs, u, rfl, -, hlg, hcu, hfu, hT⟩ := H.out.setS hlt 1
              replace hT := Lib.hid hT
              go_wp2
              go_roundw
              case rel => exact ⟨i0 + 1, _, _, _, _, _, _, _, _, _, by go_num, by omega, hT⟩
              case measure => simp [intOf]; omega
            · go_wp2
              (try simp only [Exit.inBlock, Exit.then]); have hlw : w.heap.size < wr.heap.size := (by omega); refine bodyPost_ret (v := .agg #[.slice S n c, .slice D m d, .int .i64 ch]) (by simp [results, Tryz.results20, go_sem, x0, x1, x2, hlw]; done) rfl ?_
              exact H.out.fin (by omega) (by omega) _ _ _
        · (try simp only [Exit.inBlock, Exit.then]); have hlw : w.heap.size < wz.heap.size := (by omega); refine bodyPost_ret (v := .agg #[.slice S n c, .slice D m d, .int .i64 ch]) (by simp [results, Tryz.results20, go_sem, x0, x1, x2, hlw]; done) rfl ?_
          exact H.out.fin (by omega) (by omega) _ _ _
end Go.Proofs.YtaikfclgmkfooaaGreatDoor
