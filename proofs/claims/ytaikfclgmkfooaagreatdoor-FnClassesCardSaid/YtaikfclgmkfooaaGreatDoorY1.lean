/-
  Draws of chapter 13: an income, and who dies.
-/
import Derived.Test.YtaikfclgmkfooaaGreatDoorW1
import Derived.Test.YtaikfclgmkfooaaGreatDoorB1
import Derived.Test.YtaikfclgmkfooaaGreatDoorO1
set_option linter.unusedSimpArgs false
set_option linter.unusedVariables false
namespace Go.Proofs.YtaikfclgmkfooaaGreatDoor
open Go.RowKit
set_option maxHeartbeats 4000000 in
set_option maxRecDepth 100000 in
theorem l13DrawDeaths_any (B g : Nat) (w : World) (h : Src B w g) (S : Option Addr) (n c : Nat) (D : Option Addr) (m d : Nat) (ch : Int) (A : Option Addr) (an ac base : Nat) (dl : List Int) (ho : OwI w base (.slice A an ac) dl) (hbs : g < base) (hbz : base ≤ w.heap.size) (hal : dl.length ≤ 1000) (hn : n ≤ 1000) : Calls Tryz.prog 32 #[.pointer (some ⟨g, 0, none⟩), .agg #[.slice S n c, .slice D m d, .int .i64 ch], .slice A an ac] w (fun e w' => ∃ A' m' c' ys, e = .returned (.slice A' m' c') ∧ OwI w' w.heap.size (.slice A' m' c') ys ∧ ys.length ≤ 3 ∧ Src B w' g ∧ w.grownBy w' (some g)) := by
  have hlt := h.lt
  have han := ho.rd.1
  subst han
  have hrd : Hid (∀ q, (Value.slice A dl.length ac).ownBlock = some q → q < w.heap.size) := Lib.hid (fun q e => (own_rowI ho q e).2)
  have SR := Lib.hid ((h.alloc (.cells #[.slice S n c, .slice D m d, .int .i64 ch] 26)).alloc (.cells #[] 2))
  have G : Hid (w.grownBy ((w.alloc (.cells #[.slice S n c, .slice D m d, .int .i64 ch] 26)).alloc (.cells #[] 2)) (some g)) := grownBy_alloc (grownBy_alloc (World.grownBy.refl _ _) _) _
  have O := Lib.hid (ownEmpty (w.alloc (.cells #[.slice S n c, .slice D m d, .int .i64 ch] 26)) (w.heap.size + 1) (by simp))
  have OD := Lib.hid ((ho.alloc (.cells #[.slice S n c, .slice D m d, .int .i64 ch] 26)).alloc (.cells #[] 2))
  have BB := Lib.hid ((Blk.new w 26 #[.slice S n c, .slice D m d, .int .i64 ch]).alloc (.cells #[] 2))
  rw [World.size_alloc] at O
  clear h ho
  go_enter Tryz.func32, Tryz.ntmps32
  go_wp2_with (go_at_call 26; (with_reducible refine Calls.mono (next_any B g _ _ SR.out) ?_); rintro ee wz ⟨r, rfl, hr, hs, hg⟩; replace SR := Lib.hid hs; replace G := Lib.hid (grownBy_tr G.out hg); replace O := Lib.hid (O.out.far hg (by omega)); replace OD := Lib.hid (OD.out.far hg (by omega)); replace BB := Lib.hid (blk_far BB.out hg hlt); have hzz := G.out.size; (try have hr1 := hr.2 (by omega)); clear hs hg hr; (try clear k0 k1 k2 f0 f1 f2); obtain ⟨⟨k0, k1, k2⟩, f0, f1, f2⟩ := r3_cells BB.out; have hlB := BB.out.lt)
  go_loopw [7, 8, 9] (fun v nn _ wr => ∃ (N : Int) (xs : List Int) (A' : Option Addr) (m' c' : Nat), v = .slice A' m' c' ∧ nn = .int .i64 N ∧ 0 ≤ N ∧ N ≤ 2 ∧ (xs.length : Int) + N ≤ 2 ∧ Hid (Src B wr g) ∧ Hid (w.grownBy wr (some g)) ∧ Hid (OwI wr (w.heap.size + 1) (.slice A' m' c') xs) ∧ Hid (OwI wr base (.slice A dl.length ac) dl) ∧ Hid (Blk wr w.heap.size 26 #[.slice S n c, .slice D m d, .int .i64 ch])) (fun _ nn _ _ => (intOf nn).toNat)
  case atStart => exact ⟨r, [], _, _, _, rfl, rfl, by omega, by omega, by simp; omega, SR, G, O, OD, BB⟩
  case round =>
    clear SR G O OD BB k0 k1 k2 f0 f1 f2 hlB hzz hr1
    obtain ⟨N, xs, A', m', c', rfl, rfl, hN0, hN2, hxl, SR, G, O, OD, BB⟩ := hrel
    have hzz := G.out.size
    have hm' : m' = xs.length := O.out.rd.1
    subst hm'
    (try clear k0 k1 k2 f0 f1 f2); obtain ⟨⟨k0, k1, k2⟩, f0, f1, f2⟩ := r3_cells BB.out; have hlB := BB.out.lt
    by_cases hN : 0 < N
    · go_upto_region 6 with (go_at_call 26; (with_reducible refine Calls.mono (next_any B g _ _ SR.out) ?_); rintro ee wz ⟨q, rfl, hr, hs, hg⟩; replace SR := Lib.hid hs; replace G := Lib.hid (grownBy_tr G.out hg); replace O := Lib.hid (O.out.far hg (by omega)); replace OD := Lib.hid (OD.out.far hg (by omega)); replace BB := Lib.hid (blk_far BB.out hg hlt); have hzz := G.out.size; (try have hr1 := hr.2 (by omega)); clear hs hg hr; (try clear k0 k1 k2 f0 f1 f2); obtain ⟨⟨k0, k1, k2⟩, f0, f1, f2⟩ := r3_cells BB.out; have hlB := BB.out.lt)
      have HD1 := fun (W : World) (h : RdI W W.heap.size A dl.length dl) => has_any A dl.length ac dl q W h (by omega)
      have HD2 := fun (W : World) (h : RdI W W.heap.size A' xs.length xs) => has_any A' xs.length c' xs q W h (by omega)
      cases h1 : hs dl q <;> cases h2 : hs xs q
      all_goals
        rw [h1] at HD1
        rw [h2] at HD2
        replace HD1 := Lib.hid HD1
        replace HD2 := Lib.hid HD2
        clear h1 h2
        go_wp2_with (first | (go_at_call 24; (with_reducible refine Calls.mono (HD1.out _ OD.out.rd.2) ?_); rintro ee wq ⟨rfl, rfl⟩) | (go_at_call 24; (with_reducible refine Calls.mono (HD2.out _ O.out.rd.2) ?_); rintro ee wq ⟨rfl, rfl⟩) | (go_at_call 26; (with_reducible refine Calls.mono (next_any B g _ _ SR.out) ?_); rintro ee wz ⟨q6, rfl, hr, hs, hg⟩; replace SR := Lib.hid hs; replace G := Lib.hid (grownBy_tr G.out hg); replace O := Lib.hid (O.out.far hg (by omega)); replace OD := Lib.hid (OD.out.far hg (by omega)); replace BB := Lib.hid (blk_far BB.out hg hlt); have hzz := G.out.size; (try have hr1 := hr.2 (by omega)); clear hs hg hr; (try clear k0 k1 k2 f0 f1 f2); obtain ⟨⟨k0, k1, k2⟩, f0, f1, f2⟩ := r3_cells BB.out; have hlB := BB.out.lt) | (at_builtin; refine wpl_app_intL rfl _ _ rfl (w.heap.size + 1) xs _ (by rfl) (O.out.alloc _) _ _ 1 (by rfl) ((Blk.new _ _ _).cell 0) (by omega) (by simp; omega) ?_; intro A3 m3 c3 w3 ho3 hg3 _; have rw3 := own_rowI O.out; replace OD := Lib.hid ((OD.out.alloc _).other hg3 (fun q e e2 => by have h1 := hrd.out q e; have h2 := rw3 q e2; omega)); replace O := Lib.hid ho3; replace SR := Lib.hid (Src.kept (SR.out.alloc _) hg3 (fun b e => by have := rw3 b e; omega)); replace G := Lib.hid (grownBy_new (grownBy_alloc G.out _) hg3 (fun b e => by have := rw3 b e; omega)); replace BB := Lib.hid ((BB.out.alloc _).grown hg3 (fun e => by have := rw3 _ e.symm; omega)); have hzz := G.out.size; clear ho3 hg3 rw3))
      all_goals go_roundw
      all_goals first
        | (simp [intOf]; omega; done)
        | exact ⟨N - 1, _, _, _, _, rfl, by go_num, by omega, by omega, by (first | omega | (simp; omega)), SR, G, O, OD, BB⟩
    · go_wp2_with (first | (go_at_call 26; (with_reducible refine Calls.mono (next_any B g _ _ SR.out) ?_); rintro ee wz ⟨q, rfl, hr, hs, hg⟩; replace SR := Lib.hid hs; replace G := Lib.hid (grownBy_tr G.out hg); replace O := Lib.hid (O.out.far hg (by omega)); replace OD := Lib.hid (OD.out.far hg (by omega)); replace BB := Lib.hid (blk_far BB.out hg hlt); have hzz := G.out.size; (try have hr1 := hr.2 (by omega)); clear hs hg hr; (try clear k0 k1 k2 f0 f1 f2); obtain ⟨⟨k0, k1, k2⟩, f0, f1, f2⟩ := r3_cells BB.out; have hlB := BB.out.lt) | (go_at_call 42; (with_reducible refine Calls.mono (pick_any B g _ _ _ [-1, (n : Int)] _ (SR.out.alloc _) (rd_litD _ #[.int .i64 (-1), .int .i64 (n : Int)] _ _ rfl _ rfl) (by rintro ad ⟨rfl⟩; have := SR.out.lt; simp only; omega) (by omega)) ?_); rintro ee wz ⟨q5, rfl, hm5, hs, hg⟩; replace SR := Lib.hid hs; replace G := Lib.hid (grownBy_tr (grownBy_alloc G.out _) hg); replace O := Lib.hid ((O.out.alloc _).far hg (by omega)); replace OD := Lib.hid ((OD.out.alloc _).far hg (by omega)); replace BB := Lib.hid (blk_far (BB.out.alloc _) hg hlt); have hzz := G.out.size; clear hs hg hm5; (try clear k0 k1 k2 f0 f1 f2); obtain ⟨⟨k0, k1, k2⟩, f0, f1, f2⟩ := r3_cells BB.out; have hlB := BB.out.lt) | (at_builtin; refine wpl_app_intL rfl _ _ rfl (w.heap.size + 1) xs _ (by rfl) (O.out.alloc _) _ _ 1 (by rfl) ((Blk.new _ _ _).cell 0) (by omega) (by simp; omega) ?_; intro A3 m3 c3 w3 ho3 hg3 _; have rw3 := own_rowI O.out; replace OD := Lib.hid ((OD.out.alloc _).other hg3 (fun q e e2 => by have h1 := hrd.out q e; have h2 := rw3 q e2; omega)); replace O := Lib.hid ho3; replace SR := Lib.hid (Src.kept (SR.out.alloc _) hg3 (fun b e => by have := rw3 b e; omega)); replace G := Lib.hid (grownBy_new (grownBy_alloc G.out _) hg3 (fun b e => by have := rw3 b e; omega)); replace BB := Lib.hid ((BB.out.alloc _).grown hg3 (fun e => by have := rw3 _ e.symm; omega)); have hzz := G.out.size; clear ho3 hg3 rw3))
      all_goals go_returns
      all_goals exact ⟨_, _, _, _, rfl, O.out.mono (by omega), by (first | omega | (simp; omega)), SR.out, G.out⟩
end Go.Proofs.YtaikfclgmkfooaaGreatDoor
