/-
  Contracts of ColumnsAt, both sides.
-/
import Derived.Test.Ytmefjjamkebinaa33
set_option linter.unusedSimpArgs false
set_option linter.unusedVariables false
namespace Go.Proofs.Ytmefjjamkebinaa
open Go.RowKit
/-- the codes -/
noncomputable def ctC (f : Int) (n : Nat) (xs : List Int) (r : Int) : Int := if okT f n xs = true then (if inR 0 200 r = true then 0 else 2) else 1
noncomputable def colC (f : Int) (n : Nat) (xs : List Int) (r age : Int) : Int := if okT f n xs = true then (if inR 0 200 r = true ∧ inR f 150 age = true then 0 else 2) else 1
/-- a number where the code is none -/
def cq (e x : Int) : Int := if e = 0 then x else 0
/-- what ColumnsAt returns -/
noncomputable def colV (f : Int) (n : Nat) (xs : List Int) (r age : Int) : Array Value := #[.int .i64 (cq (colC f n xs r age) (cD f n xs r (age - f).toNat)), .int .i64 (cq (colC f n xs r age) (sumF (cD f n xs r) ((151 - f).toNat - (age - f).toNat) (age - f).toNat)), .int .i64 (cq (colC f n xs r age) (cC f n xs r (age - f).toNat)), .int .i64 (cq (colC f n xs r age) (sumF (cC f n xs r) ((151 - f).toNat - (age - f).toNat) (age - f).toNat))]
theorem colC_cases (f : Int) (n : Nat) (xs : List Int) (r age : Int) : (okT f n xs = false ∧ ctC f n xs r = 1 ∧ colC f n xs r age = 1) ∨ (okT f n xs = true ∧ inR 0 200 r = false ∧ ctC f n xs r = 2 ∧ colC f n xs r age = 2) ∨ (okT f n xs = true ∧ inR 0 200 r = true ∧ inR f 150 age = false ∧ ctC f n xs r = 0 ∧ colC f n xs r age = 2) ∨ (okT f n xs = true ∧ inR 0 200 r = true ∧ inR f 150 age = true ∧ ctC f n xs r = 0 ∧ colC f n xs r age = 0) := by
  unfold ctC colC
  cases h1 : okT f n xs <;> cases h2 : inR 0 200 r <;> cases h3 : inR f 150 age <;> simp
theorem colV_no {f : Int} {n : Nat} {xs : List Int} {r age : Int} (h : colC f n xs r age ≠ 0) : colV f n xs r age = #[.int .i64 0, .int .i64 0, .int .i64 0, .int .i64 0] := by
  unfold colV cq
  rw [if_neg h, if_neg h, if_neg h, if_neg h]
theorem colV_yes {f : Int} {n : Nat} {xs : List Int} {r age : Int} {k M : Nat} (h : colC f n xs r age = 0) (hk : age - f = (k : Int)) (hM : f = 151 - (M : Int)) : colV f n xs r age = #[.int .i64 (cD f n xs r k), .int .i64 (sumF (cD f n xs r) (M - k) k), .int .i64 (cC f n xs r k), .int .i64 (sumF (cC f n xs r) (M - k) k)] := by
  unfold colV cq
  rw [if_pos h, if_pos h, if_pos h, if_pos h, show (age - f).toNat = k by omega, show (151 - f).toNat = M by omega]
set_option maxHeartbeats 1000000 in
theorem isRate_any (r : Int) (w : World) : Calls Try.prog 66 #[.int .i64 r] w fun e w' => e = .returned (.bool (inR 0 200 r)) ∧ w = w' := by
  go_enter Try.func66, Try.ntmps66
  go_wp2_with (go_at_call 37; (with_reducible refine Calls.mono (inRange_any _ _ _ _) ?_); rintro ee wz ⟨rfl, rfl⟩)
  go_returns
  exact ⟨rfl, rfl⟩
set_option maxHeartbeats 1000000 in
theorem sRate_any (r : Int) (w : World) : Calls Try.prog 63 #[.int .i64 r] w fun e w' => e = .returned (.bool (inR 0 200 r)) ∧ w = w' := by
  go_enter Try.func63, Try.ntmps63
  go_wp2_with (go_at_call 41; (with_reducible refine Calls.mono (sIn_any _ _ _ _) ?_); rintro ee wz ⟨rfl, rfl⟩)
  go_returns
  exact ⟨rfl, rfl⟩
set_option maxHeartbeats 1000000 in
theorem ct_any (f : Int) (A : Option Addr) (n c : Nat) (xs : List Int) (r : Int) (w : World) (h : RdI w w.heap.size A n xs) (hc : n ≤ c) (hcm : c ≤ maxLen) (hn : n ≤ 1048576) : Calls Try.prog 53 #[.agg #[.int .i64 f, .slice A n c], .int .i64 r] w fun e w' => e = .returned (.int .i64 (ctC f n xs r)) ∧ Below w.heap.size w w' := by
  have HT := fun W (hB : Below w.heap.size w W) => iIsT_any f A n c xs W ((h.below hB).more hB.size) hc hcm hn
  have HR := fun W => isRate_any r W
  have BB := Lib.hid (Blk.new w 26 #[.int .i64 f, .slice A n c])
  have hB : Below w.heap.size w (w.alloc (.cells #[.int .i64 f, .slice A n c] 26)) := al_ _ _
  clear h
  cases h1 : okT f n xs with
  | false =>
    have HQ : Hid (ctC f n xs r = 1) := Lib.hid (by unfold ctC; rw [if_neg (by simp [h1])])
    rw [h1] at HT
    replace HT := Lib.hid HT
    go_enter Try.func53, Try.ntmps53
    go_wp2_with (go_at_call 18; (with_reducible refine Calls.mono (HT.out _ hB) ?_); rintro ee wz ⟨rfl, hb⟩; replace hB := bel_step hB hb; replace BB := Lib.hid (blk_later BB.out hb); (try clear c0 c1); obtain ⟨c0, c1, -⟩ := cT2 BB.out; have hlB := BB.out.lt; clear hb)
    go_returns
    exact ⟨by rw [HQ.out]; rfl, hB⟩
  | true =>
    rw [h1] at HT
    replace HT := Lib.hid HT
    cases h2 : inR 0 200 r with
    | false =>
      have HQ : Hid (ctC f n xs r = 2) := Lib.hid (by unfold ctC; rw [if_pos h1, if_neg (by simp [h2])])
      rw [h2] at HR
      replace HR := Lib.hid HR
      go_enter Try.func53, Try.ntmps53
      go_wp2_with (first | (go_at_call 18; (with_reducible refine Calls.mono (HT.out _ hB) ?_); rintro ee wz ⟨rfl, hb⟩; replace hB := bel_step hB hb; replace BB := Lib.hid (blk_later BB.out hb); (try clear c0 c1); obtain ⟨c0, c1, -⟩ := cT2 BB.out; have hlB := BB.out.lt; clear hb) | (go_at_call 66; (with_reducible refine Calls.mono (HR.out _) ?_); rintro ee wz ⟨rfl, rfl⟩))
      go_returns
      exact ⟨by rw [HQ.out]; rfl, hB⟩
    | true =>
      have HQ : Hid (ctC f n xs r = 0) := Lib.hid (by unfold ctC; rw [if_pos h1, if_pos h2])
      rw [h2] at HR
      replace HR := Lib.hid HR
      go_enter Try.func53, Try.ntmps53
      go_wp2_with (first | (go_at_call 18; (with_reducible refine Calls.mono (HT.out _ hB) ?_); rintro ee wz ⟨rfl, hb⟩; replace hB := bel_step hB hb; replace BB := Lib.hid (blk_later BB.out hb); (try clear c0 c1); obtain ⟨c0, c1, -⟩ := cT2 BB.out; have hlB := BB.out.lt; clear hb) | (go_at_call 66; (with_reducible refine Calls.mono (HR.out _) ?_); rintro ee wz ⟨rfl, rfl⟩))
      go_returns
      exact ⟨by rw [HQ.out]; rfl, hB⟩
set_option maxHeartbeats 1000000 in
theorem l05Code_any (f : Int) (A : Option Addr) (n c : Nat) (xs : List Int) (r age : Int) (w : World) (h : RdI w w.heap.size A n xs) (hc : n ≤ c) (hcm : c ≤ maxLen) (hn : n ≤ 1048576) : Calls Try.prog 48 #[.agg #[.int .i64 f, .slice A n c], .int .i64 r, .int .i64 age] w fun e w' => e = .returned (.int .i64 (colC f n xs r age)) ∧ Below w.heap.size w w' := by
  have HT := fun W (hB : Below w.heap.size w W) => sIsT_any f A n c xs W ((h.below hB).more hB.size) hc hcm hn
  have HR := fun W => sRate_any r W
  have HG := fun W => sIn_any age f 150 W
  have BB := Lib.hid (Blk.new w 26 #[.int .i64 f, .slice A n c])
  have hB : Below w.heap.size w (w.alloc (.cells #[.int .i64 f, .slice A n c] 26)) := al_ _ _
  clear h
  rcases colC_cases f n xs r age with ⟨h1, -, h4⟩ | ⟨h1, h2, -, h4⟩ | ⟨h1, h2, h3, -, h4⟩ | ⟨h1, h2, h3, -, h4⟩
  all_goals
    (try rw [h1] at HT)
    (try rw [h2] at HR)
    (try rw [h3] at HG)
    replace HT := Lib.hid HT
    replace HR := Lib.hid HR
    replace HG := Lib.hid HG
    replace h4 := Lib.hid h4
    (try clear h1)
    (try clear h2)
    (try clear h3)
    go_enter Try.func48, Try.ntmps48
    go_wp2_with (first | (go_at_call 55; (with_reducible refine Calls.mono (HT.out _ hB) ?_); rintro ee wz ⟨rfl, hb⟩; replace hB := bel_step hB hb; replace BB := Lib.hid (blk_later BB.out hb); (try clear c0 c1); obtain ⟨c0, c1, -⟩ := cT2 BB.out; have hlB := BB.out.lt; clear hb) | (go_at_call 63; (with_reducible refine Calls.mono (HR.out _) ?_); rintro ee wz ⟨rfl, rfl⟩) | (go_at_call 41; (with_reducible refine Calls.mono (HG.out _) ?_); rintro ee wz ⟨rfl, rfl⟩))
    go_returns
    exact ⟨by rw [h4.out]; rfl, hB⟩
set_option maxHeartbeats 1000000 in
theorem eqColumns_same (a b d e : Int) (w : World) : Calls Try.prog 23 #[.agg #[.int .i64 a, .int .i64 b, .int .i64 d, .int .i64 e], .agg #[.int .i64 a, .int .i64 b, .int .i64 d, .int .i64 e]] w fun ee w' => ee = .returned (.bool true) ∧ Below w.heap.size w w' := by
  go_enter Try.func23, Try.ntmps23
  go_wp2
  go_returns
  exact ⟨rfl, by go_grown⟩
set_option maxHeartbeats 2000000 in
set_option maxRecDepth 100000 in
theorem iColumnsAt_any (f : Int) (A : Option Addr) (n c : Nat) (xs : List Int) (r age : Int) (w : World) (h : RdI w w.heap.size A n xs) (hc : n ≤ c) (hcm : c ≤ maxLen) (hn : n ≤ 1048576) : Calls Try.prog 22 #[.agg #[.int .i64 f, .slice A n c], .int .i64 r, .int .i64 age] w fun e w' => e = .returned (.tuple #[.agg (colV f n xs r age), .int .i64 (colC f n xs r age)]) ∧ Below w.heap.size w w' := by
  have HT := fun W (hB : Below w.heap.size w W) => ct_any f A n c xs r W ((h.below hB).more hB.size) hc hcm hn
  have HG := fun W => inRange_any age f 150 W
  have BB := Lib.hid ((Blk.new w 26 #[.int .i64 f, .slice A n c]).alloc (.cells #[.int .i64 0, .int .i64 0, .int .i64 0, .int .i64 0] 43))
  have BR := Lib.hid (Blk.new (w.alloc (.cells #[.int .i64 f, .slice A n c] 26)) 43 #[.int .i64 0, .int .i64 0, .int .i64 0, .int .i64 0])
  rw [World.size_alloc] at BR
  have hB : Below w.heap.size w ((w.alloc (.cells #[.int .i64 f, .slice A n c] 26)).alloc (.cells #[.int .i64 0, .int .i64 0, .int .i64 0, .int .i64 0] 43)) := (al_ _ _).alloc (by simp) _
  rcases colC_cases f n xs r age with ⟨h1, h5, h4⟩ | ⟨h1, h2, h5, h4⟩ | ⟨h1, h2, h3, h5, h4⟩ | ⟨h1, h2, h3, h5, h4⟩
  case' inr.inr.inr =>
    rw [h5] at HT
    rw [h3] at HG
    have hT := okT_t.1 h1
    have hr := inR_iff.1 h2
    have hg := inR_iff.1 h3
    have hf := hT.1
    obtain ⟨k, hk⟩ : ∃ k : Nat, age - f = (k : Int) := ⟨(age - f).toNat, by omega⟩
    obtain ⟨M, hM⟩ : ∃ M : Nat, f = 151 - (M : Int) := ⟨(151 - f).toNat, by omega⟩
    have HV := Lib.hid (colV_yes h4 hk hM)
    have HC := Lib.hid (fun W (hB : Below w.heap.size w W) => iCols_any f A n c xs r M W ((h.below hB).more hB.size) hT hr hM)
    have hkM : k < M := by omega
    have q1 := IntWalk.i64_in (k : Int) (by omega)
    replace hM := Lib.hid hM
    replace HT := Lib.hid HT
    replace HG := Lib.hid HG
    replace h4 := Lib.hid h4
    clear h h1 h2 h3 h5 hT
    go_enter Try.func22, Try.ntmps22
    go_wp2_with (first | (go_at_call 53; (with_reducible refine Calls.mono (HT.out _ hB) ?_); rintro ee wz ⟨rfl, hb⟩; replace hB := bel_step hB hb; replace BB := Lib.hid (blk_later BB.out hb); (try clear c0 c1); obtain ⟨c0, c1, -⟩ := cT2 BB.out; have hlB := BB.out.lt; replace BR := Lib.hid (blk_later BR.out hb); (try clear x0 x1 x2 x3 y0 y1 y2 y3); obtain ⟨⟨x0, x1, x2, x3⟩, y0, y1, y2, y3⟩ := c4_cells BR.out; have hlR := BR.out.lt; clear hb) | (go_at_call 37; (with_reducible refine Calls.mono (HG.out _) ?_); rintro ee wz ⟨rfl, rfl⟩))
    refine wp_region_D 10 (fun W' : World => W'.cell? ⟨w.heap.size, 0, none⟩ = some (.int .i64 f) ∧ W'.cell? ⟨w.heap.size, 1, none⟩ = some (.slice A n c)) (by kernel_rfl) ?_
    have hS0 : (fun W' : World => W'.cell? ⟨w.heap.size, 0, none⟩ = some (.int .i64 f) ∧ W'.cell? ⟨w.heap.size, 1, none⟩ = some (.slice A n c)) wz.drew := ⟨c0, c1⟩
    have hk0 : 0 ≤ (k : Int) := by omega
    have hkM2 : (k : Int) < (M : Int) := by omega
    refine wpAnyD_take (i := 0) (v := ?_) rfl (by kernel_rfl) (fun _ _ _ h => h) (Or.inl ⟨by rfl, ?_⟩) (by assumption) ?_; rotate_left; (intro w' hSw; (try dsimp only at hSw); go_simp; with_reducible rfl); (try simp only [Act.put, List.setIfInBounds_toArray, List.set_cons_zero, List.set_cons_succ])
    refine wpAnyD_take (i := 1) (v := ?_) rfl (by kernel_rfl) (fun _ _ _ h => h) (Or.inl ⟨by rfl, ?_⟩) (by assumption) ?_; rotate_left; (intro w' hSw; (try dsimp only at hSw); go_simp; with_reducible rfl); (try simp only [Act.put, List.setIfInBounds_toArray, List.set_cons_zero, List.set_cons_succ])
    refine wpAnyD_take (i := 3) (v := ?_) rfl (by kernel_rfl) (fun _ _ _ h => h) (Or.inl ⟨by rfl, ?_⟩) (by assumption) ?_; rotate_left; (intro w' hSw; (try dsimp only at hSw); go_simp; with_reducible rfl); (try simp only [Act.put, List.setIfInBounds_toArray, List.set_cons_zero, List.set_cons_succ])
    refine wpAnyD_take (i := 4) (v := ?_) rfl (by kernel_rfl) (fun _ _ _ h => h) (Or.inl ⟨by rfl, ?_⟩) (by assumption) ?_; rotate_left; (intro w' hSw; (try dsimp only at hSw); go_simp; with_reducible rfl); (try simp only [Act.put, List.setIfInBounds_toArray, List.set_cons_zero, List.set_cons_succ])
    refine wpAnyD_take (i := 5) (v := ?_) rfl (by kernel_rfl) (fun _ _ _ h => h) (Or.inl ⟨by rfl, ?_⟩) (by assumption) ?_; rotate_left; (intro w' hSw; (try dsimp only at hSw); go_simp; with_reducible rfl); (try simp only [Act.put, List.setIfInBounds_toArray, List.set_cons_zero, List.set_cons_succ])
    refine wpAnyD_take (i := 6) (v := ?_) rfl (by kernel_rfl) (fun _ _ _ h => h) (Or.inl ⟨by rfl, ?_⟩) (by assumption) ?_; rotate_left; (intro w' hSw; (try dsimp only at hSw); go_simp; with_reducible rfl); (try simp only [Act.put, List.setIfInBounds_toArray, List.set_cons_zero, List.set_cons_succ])
    refine wpAnyD_one (i := 2) rfl (by kernel_rfl) (fun K hK => ?_)
    go_simp
    (with_reducible refine Calls.mono (HC.out _ hB.drew) ?_)
    rintro ee w6 ⟨g, cs, rfl, BO, hcs, hok, hg, hb⟩
    replace hb := bel_step (w := wz) (Below.refl _ _).drew hb
    have hS6 : (fun W' : World => W'.cell? ⟨w.heap.size, 0, none⟩ = some (.int .i64 f) ∧ W'.cell? ⟨w.heap.size, 1, none⟩ = some (.slice A n c)) w6 := ⟨keepC hb c0, keepC hb c1⟩
    obtain ⟨k0, k1, k2, k3⟩ := hok k (Nat.zero_le _) hkM
    rw [← BO.cell] at k0 k1 k2 k3
    have hg2 : wz.heap.size ≤ g := hg
    have hlO := BO.lt
    clear hok hg
    replace hB := bel_step hB hb; replace BB := Lib.hid (blk_later BB.out hb); (try clear c0 c1); obtain ⟨c0, c1, -⟩ := cT2 BB.out; have hlB := BB.out.lt; replace BR := Lib.hid (blk_later BR.out hb); (try clear x0 x1 x2 x3 y0 y1 y2 y3); obtain ⟨⟨x0, x1, x2, x3⟩, y0, y1, y2, y3⟩ := c4_cells BR.out; have hlR := BR.out.lt; clear hb
    dsimp only
    refine hK _ _ (fun _ => hS6) ?_; clear hK K; (try simp only [Act.put, List.setIfInBounds_toArray, List.set_cons_zero, List.set_cons_succ])
    refine wpAnyD_take (i := 7) (v := ?_) rfl (by kernel_rfl) (fun _ _ _ h => h) (Or.inl ⟨by rfl, ?_⟩) (by assumption) ?_; rotate_left; (intro w' hSw; (try dsimp only at hSw); go_simp; with_reducible rfl); (try simp only [Act.put, List.setIfInBounds_toArray, List.set_cons_zero, List.set_cons_succ])
    refine wpAnyD_one (i := 8) rfl (by kernel_rfl) (fun K hK => ?_)
    go_simp
    refine hK _ _ (fun _ => hS6) ?_; clear hK K; (try simp only [Act.put, List.setIfInBounds_toArray, List.set_cons_zero, List.set_cons_succ])
    refine wpAnyD_one (i := 9) rfl (by kernel_rfl) (fun K hK => ?_)
    go_simp
    refine hK _ _ (fun _ => (by show (fun W' : World => W'.cell? ⟨w.heap.size, 0, none⟩ = some (.int .i64 f) ∧ W'.cell? ⟨w.heap.size, 1, none⟩ = some (.slice A n c)) _; exact ⟨by simp [go_sem, c0], by simp [go_sem, c1]⟩)) ?_
    clear hK K
    (try simp only [Act.put, List.setIfInBounds_toArray, List.set_cons_zero, List.set_cons_succ])
    refine wpAnyD_one (i := 10) rfl (by kernel_rfl) (fun K hK => ?_)
    go_simp
    refine hK _ _ (fun h => absurd rfl h) ?_
    clear hK K
    refine wpAnyD_done (by kernel_rfl) ?_ _
    generalize cD f n xs r k = v1 at *
    generalize sumF (cD f n xs r) (M - k) k = v2 at *
    generalize cC f n xs r k = v3 at *
    generalize sumF (cC f n xs r) (M - k) k = v4 at *
    go_wp2
    (try simp only [Exit.inBlock, Exit.then]); refine bodyPost_ret (v := .tuple #[.agg #[.int .i64 v1, .int .i64 v2, .int .i64 v3, .int .i64 v4], .int .i64 (colC f n xs r age)]) (by simp [results, Try.results22, go_sem, x0, x1, x2, x3, hlR, h4.out]; done) rfl ?_
    exact ⟨by rw [HV.out], by go_grown⟩
  all_goals
    rw [h5] at HT
    (try rw [h3] at HG)
    have HV := Lib.hid (colV_no (show colC f n xs r age ≠ 0 by rw [h4]; decide))
    replace HT := Lib.hid HT
    replace HG := Lib.hid HG
    replace h4 := Lib.hid h4
    (try clear h1)
    (try clear h2)
    (try clear h3)
    clear h
    go_enter Try.func22, Try.ntmps22
    go_wp2_with (first | (go_at_call 53; (with_reducible refine Calls.mono (HT.out _ hB) ?_); rintro ee wz ⟨rfl, hb⟩; replace hB := bel_step hB hb; replace BB := Lib.hid (blk_later BB.out hb); (try clear c0 c1); obtain ⟨c0, c1, -⟩ := cT2 BB.out; have hlB := BB.out.lt; replace BR := Lib.hid (blk_later BR.out hb); (try clear x0 x1 x2 x3 y0 y1 y2 y3); obtain ⟨⟨x0, x1, x2, x3⟩, y0, y1, y2, y3⟩ := c4_cells BR.out; have hlR := BR.out.lt; clear hb) | (go_at_call 37; (with_reducible refine Calls.mono (HG.out _) ?_); rintro ee wz ⟨rfl, rfl⟩))
    (try simp only [Exit.inBlock, Exit.then]); refine bodyPost_ret (v := .tuple #[.agg #[.int .i64 0, .int .i64 0, .int .i64 0, .int .i64 0], .int .i64 (colC f n xs r age)]) (by simp [results, Try.results22, go_sem, x0, x1, x2, x3, hlR, h4.out]; done) rfl ?_
    exact ⟨by rw [HV.out], by go_grown⟩
set_option maxHeartbeats 2000000 in
set_option maxRecDepth 100000 in
theorem sColumnsAt_any (f : Int) (A : Option Addr) (n c : Nat) (xs : List Int) (r age : Int) (w : World) (h : RdI w w.heap.size A n xs) (hc : n ≤ c) (hcm : c ≤ maxLen) (hn : n ≤ 1048576) : Calls Try.prog 21 #[.agg #[.int .i64 f, .slice A n c], .int .i64 r, .int .i64 age] w fun e w' => e = .returned (.tuple #[.agg (colV f n xs r age), .int .i64 (colC f n xs r age)]) ∧ Below w.heap.size w w' := by
  have HT := fun W (hB : Below w.heap.size w W) => l05Code_any f A n c xs r age W ((h.below hB).more hB.size) hc hcm hn
  have BB := Lib.hid ((Blk.new w 26 #[.int .i64 f, .slice A n c]).alloc (.cells #[.int .i64 0, .int .i64 0, .int .i64 0, .int .i64 0] 43))
  have BR := Lib.hid (Blk.new (w.alloc (.cells #[.int .i64 f, .slice A n c] 26)) 43 #[.int .i64 0, .int .i64 0, .int .i64 0, .int .i64 0])
  rw [World.size_alloc] at BR
  have hB : Below w.heap.size w ((w.alloc (.cells #[.int .i64 f, .slice A n c] 26)).alloc (.cells #[.int .i64 0, .int .i64 0, .int .i64 0, .int .i64 0] 43)) := (al_ _ _).alloc (by simp) _
  rcases colC_cases f n xs r age with ⟨h1, h5, h4⟩ | ⟨h1, h2, h5, h4⟩ | ⟨h1, h2, h3, h5, h4⟩ | ⟨h1, h2, h3, h5, h4⟩
  case' inr.inr.inr =>
    rw [h4] at HT
    have hT := okT_t.1 h1
    have hr := inR_iff.1 h2
    have hg := inR_iff.1 h3
    have hf := hT.1
    obtain ⟨k, hk⟩ : ∃ k : Nat, age - f = (k : Int) := ⟨(age - f).toNat, by omega⟩
    obtain ⟨M, hM⟩ : ∃ M : Nat, f = 151 - (M : Int) := ⟨(151 - f).toNat, by omega⟩
    have HV := Lib.hid (colV_yes h4 hk hM)
    have C1 := Lib.hid (fun W (hB : Below w.heap.size w W) => sD_any f A n c xs r age k W ((h.below hB).more hB.size) hT hr hk hg.2)
    have C2 := Lib.hid (fun W (hB : Below w.heap.size w W) => sN_any f A n c xs r age k W ((h.below hB).more hB.size) hT hr hk hg.2 M hM)
    have C3 := Lib.hid (fun W (hB : Below w.heap.size w W) => sC_any f A n c xs r age k W ((h.below hB).more hB.size) hT hr hk hg.2)
    have C4 := Lib.hid (fun W (hB : Below w.heap.size w W) => sM_any f A n c xs r age k W ((h.below hB).more hB.size) hT hr hk hg.2 M hM)
    generalize cD f n xs r k = v1 at *
    generalize sumF (cD f n xs r) (M - k) k = v2 at *
    generalize cC f n xs r k = v3 at *
    generalize sumF (cC f n xs r) (M - k) k = v4 at *
    replace hM := Lib.hid hM
    replace hk := Lib.hid hk
    replace HT := Lib.hid HT
    replace h4 := Lib.hid h4
    clear h h1 h2 h3 h5 hT
    go_enter Try.func21, Try.ntmps21
    go_wp2_with (go_at_call 48; (with_reducible refine Calls.mono (HT.out _ hB) ?_); rintro ee wz ⟨rfl, hb⟩; replace hB := bel_step hB hb; replace BB := Lib.hid (blk_later BB.out hb); (try clear c0 c1); obtain ⟨c0, c1, -⟩ := cT2 BB.out; have hlB := BB.out.lt; replace BR := Lib.hid (blk_later BR.out hb); (try clear x0 x1 x2 x3 y0 y1 y2 y3); obtain ⟨⟨x0, x1, x2, x3⟩, y0, y1, y2, y3⟩ := c4_cells BR.out; have hlR := BR.out.lt; clear hb)
    refine wp_region_D 18 (fun W' : World => W'.cell? ⟨w.heap.size, 0, none⟩ = some (.int .i64 f) ∧ W'.cell? ⟨w.heap.size, 1, none⟩ = some (.slice A n c)) (by kernel_rfl) ?_
    have hS0 : (fun W' : World => W'.cell? ⟨w.heap.size, 0, none⟩ = some (.int .i64 f) ∧ W'.cell? ⟨w.heap.size, 1, none⟩ = some (.slice A n c)) wz.drew := ⟨c0, c1⟩
    replace hB : Below w.heap.size w wz.drew := hB.drew
    replace BB : Hid (Blk wz.drew w.heap.size 26 #[.int .i64 f, .slice A n c]) := BB
    replace BR : Hid (Blk wz.drew (w.heap.size + 1) 43 #[.int .i64 0, .int .i64 0, .int .i64 0, .int .i64 0]) := BR
    refine wpAnyD_take (i := 0) (v := ?_) rfl (by kernel_rfl) (fun _ _ _ h => h) (Or.inl ⟨by rfl, ?_⟩) (by assumption) ?_; rotate_left; (intro w' hSw; (try dsimp only at hSw); go_simp; with_reducible rfl); (try simp only [Act.put, List.setIfInBounds_toArray, List.set_cons_zero, List.set_cons_succ])
    refine wpAnyD_take (i := 1) (v := ?_) rfl (by kernel_rfl) (fun _ _ _ h => h) (Or.inl ⟨by rfl, ?_⟩) (by assumption) ?_; rotate_left; (intro w' hSw; (try dsimp only at hSw); go_simp; with_reducible rfl); (try simp only [Act.put, List.setIfInBounds_toArray, List.set_cons_zero, List.set_cons_succ])
    refine wpAnyD_take (i := 2) (v := ?_) rfl (by kernel_rfl) (fun _ _ _ h => h) (Or.inl ⟨by rfl, ?_⟩) (by assumption) ?_; rotate_left; (intro w' hSw; (try dsimp only at hSw); go_simp; with_reducible rfl); (try simp only [Act.put, List.setIfInBounds_toArray, List.set_cons_zero, List.set_cons_succ])
    refine wpAnyD_take (i := 4) (v := ?_) rfl (by kernel_rfl) (fun _ _ _ h => h) (Or.inl ⟨by rfl, ?_⟩) (by assumption) ?_; rotate_left; (intro w' hSw; (try dsimp only at hSw); go_simp; with_reducible rfl); (try simp only [Act.put, List.setIfInBounds_toArray, List.set_cons_zero, List.set_cons_succ])
    refine wpAnyD_take (i := 5) (v := ?_) rfl (by kernel_rfl) (fun _ _ _ h => h) (Or.inl ⟨by rfl, ?_⟩) (by assumption) ?_; rotate_left; (intro w' hSw; (try dsimp only at hSw); go_simp; with_reducible rfl); (try simp only [Act.put, List.setIfInBounds_toArray, List.set_cons_zero, List.set_cons_succ])
    refine wpAnyD_take (i := 6) (v := ?_) rfl (by kernel_rfl) (fun _ _ _ h => h) (Or.inl ⟨by rfl, ?_⟩) (by assumption) ?_; rotate_left; (intro w' hSw; (try dsimp only at hSw); go_simp; with_reducible rfl); (try simp only [Act.put, List.setIfInBounds_toArray, List.set_cons_zero, List.set_cons_succ])
    refine wpAnyD_take (i := 8) (v := ?_) rfl (by kernel_rfl) (fun _ _ _ h => h) (Or.inl ⟨by rfl, ?_⟩) (by assumption) ?_; rotate_left; (intro w' hSw; (try dsimp only at hSw); go_simp; with_reducible rfl); (try simp only [Act.put, List.setIfInBounds_toArray, List.set_cons_zero, List.set_cons_succ])
    refine wpAnyD_take (i := 9) (v := ?_) rfl (by kernel_rfl) (fun _ _ _ h => h) (Or.inl ⟨by rfl, ?_⟩) (by assumption) ?_; rotate_left; (intro w' hSw; (try dsimp only at hSw); go_simp; with_reducible rfl); (try simp only [Act.put, List.setIfInBounds_toArray, List.set_cons_zero, List.set_cons_succ])
    refine wpAnyD_take (i := 10) (v := ?_) rfl (by kernel_rfl) (fun _ _ _ h => h) (Or.inl ⟨by rfl, ?_⟩) (by assumption) ?_; rotate_left; (intro w' hSw; (try dsimp only at hSw); go_simp; with_reducible rfl); (try simp only [Act.put, List.setIfInBounds_toArray, List.set_cons_zero, List.set_cons_succ])
    refine wpAnyD_take (i := 12) (v := ?_) rfl (by kernel_rfl) (fun _ _ _ h => h) (Or.inl ⟨by rfl, ?_⟩) (by assumption) ?_; rotate_left; (intro w' hSw; (try dsimp only at hSw); go_simp; with_reducible rfl); (try simp only [Act.put, List.setIfInBounds_toArray, List.set_cons_zero, List.set_cons_succ])
    refine wpAnyD_take (i := 13) (v := ?_) rfl (by kernel_rfl) (fun _ _ _ h => h) (Or.inl ⟨by rfl, ?_⟩) (by assumption) ?_; rotate_left; (intro w' hSw; (try dsimp only at hSw); go_simp; with_reducible rfl); (try simp only [Act.put, List.setIfInBounds_toArray, List.set_cons_zero, List.set_cons_succ])
    refine wpAnyD_take (i := 14) (v := ?_) rfl (by kernel_rfl) (fun _ _ _ h => h) (Or.inl ⟨by rfl, ?_⟩) (by assumption) ?_; rotate_left; (intro w' hSw; (try dsimp only at hSw); go_simp; with_reducible rfl); (try simp only [Act.put, List.setIfInBounds_toArray, List.set_cons_zero, List.set_cons_succ])
    refine wpAnyD_one (i := 3) rfl (by kernel_rfl) (fun K hK => ?_)
    go_simp
    (with_reducible refine Calls.mono (C1.out _ hB) ?_)
    rintro ee w6 ⟨rfl, hb⟩
    replace hB := bel_step hB hb; replace BB := Lib.hid (blk_later BB.out hb); (try clear c0 c1); obtain ⟨c0, c1, -⟩ := cT2 BB.out; have hlB := BB.out.lt; replace BR := Lib.hid (blk_later BR.out hb); (try clear x0 x1 x2 x3 y0 y1 y2 y3); obtain ⟨⟨x0, x1, x2, x3⟩, y0, y1, y2, y3⟩ := c4_cells BR.out; have hlR := BR.out.lt; clear hb
    dsimp only
    have hS6 : (fun W' : World => W'.cell? ⟨w.heap.size, 0, none⟩ = some (.int .i64 f) ∧ W'.cell? ⟨w.heap.size, 1, none⟩ = some (.slice A n c)) w6 := ⟨c0, c1⟩
    refine hK _ _ (fun _ => hS6) ?_; clear hK K; (try simp only [Act.put, List.setIfInBounds_toArray, List.set_cons_zero, List.set_cons_succ])
    refine wpAnyD_one (i := 7) rfl (by kernel_rfl) (fun K hK => ?_)
    go_simp
    (with_reducible refine Calls.mono (C2.out _ hB) ?_)
    rintro ee w6 ⟨rfl, hb⟩
    replace hB := bel_step hB hb; replace BB := Lib.hid (blk_later BB.out hb); (try clear c0 c1); obtain ⟨c0, c1, -⟩ := cT2 BB.out; have hlB := BB.out.lt; replace BR := Lib.hid (blk_later BR.out hb); (try clear x0 x1 x2 x3 y0 y1 y2 y3); obtain ⟨⟨x0, x1, x2, x3⟩, y0, y1, y2, y3⟩ := c4_cells BR.out; have hlR := BR.out.lt; clear hb
    dsimp only
    have hS6 : (fun W' : World => W'.cell? ⟨w.heap.size, 0, none⟩ = some (.int .i64 f) ∧ W'.cell? ⟨w.heap.size, 1, none⟩ = some (.slice A n c)) w6 := ⟨c0, c1⟩
    refine hK _ _ (fun _ => hS6) ?_; clear hK K; (try simp only [Act.put, List.setIfInBounds_toArray, List.set_cons_zero, List.set_cons_succ])
    refine wpAnyD_one (i := 11) rfl (by kernel_rfl) (fun K hK => ?_)
    go_simp
    (with_reducible refine Calls.mono (C3.out _ hB) ?_)
    rintro ee w6 ⟨rfl, hb⟩
    replace hB := bel_step hB hb; replace BB := Lib.hid (blk_later BB.out hb); (try clear c0 c1); obtain ⟨c0, c1, -⟩ := cT2 BB.out; have hlB := BB.out.lt; replace BR := Lib.hid (blk_later BR.out hb); (try clear x0 x1 x2 x3 y0 y1 y2 y3); obtain ⟨⟨x0, x1, x2, x3⟩, y0, y1, y2, y3⟩ := c4_cells BR.out; have hlR := BR.out.lt; clear hb
    dsimp only
    have hS6 : (fun W' : World => W'.cell? ⟨w.heap.size, 0, none⟩ = some (.int .i64 f) ∧ W'.cell? ⟨w.heap.size, 1, none⟩ = some (.slice A n c)) w6 := ⟨c0, c1⟩
    refine hK _ _ (fun _ => hS6) ?_; clear hK K; (try simp only [Act.put, List.setIfInBounds_toArray, List.set_cons_zero, List.set_cons_succ])
    refine wpAnyD_one (i := 15) rfl (by kernel_rfl) (fun K hK => ?_)
    go_simp
    (with_reducible refine Calls.mono (C4.out _ hB) ?_)
    rintro ee w6 ⟨rfl, hb⟩
    replace hB := bel_step hB hb; replace BB := Lib.hid (blk_later BB.out hb); (try clear c0 c1); obtain ⟨c0, c1, -⟩ := cT2 BB.out; have hlB := BB.out.lt; replace BR := Lib.hid (blk_later BR.out hb); (try clear x0 x1 x2 x3 y0 y1 y2 y3); obtain ⟨⟨x0, x1, x2, x3⟩, y0, y1, y2, y3⟩ := c4_cells BR.out; have hlR := BR.out.lt; clear hb
    dsimp only
    have hS6 : (fun W' : World => W'.cell? ⟨w.heap.size, 0, none⟩ = some (.int .i64 f) ∧ W'.cell? ⟨w.heap.size, 1, none⟩ = some (.slice A n c)) w6 := ⟨c0, c1⟩
    refine hK _ _ (fun _ => hS6) ?_; clear hK K; (try simp only [Act.put, List.setIfInBounds_toArray, List.set_cons_zero, List.set_cons_succ])
    refine wpAnyD_take (i := 16) (v := ?_) rfl (by kernel_rfl) (fun _ _ _ h => h) (Or.inl ⟨by rfl, ?_⟩) (by assumption) ?_; rotate_left; (intro w' hSw; (try dsimp only at hSw); go_simp; with_reducible rfl); (try simp only [Act.put, List.setIfInBounds_toArray, List.set_cons_zero, List.set_cons_succ])
    refine wpAnyD_one (i := 17) rfl (by kernel_rfl) (fun K hK => ?_)
    go_simp
    refine hK _ _ (fun _ => (by show (fun W' : World => W'.cell? ⟨w.heap.size, 0, none⟩ = some (.int .i64 f) ∧ W'.cell? ⟨w.heap.size, 1, none⟩ = some (.slice A n c)) _; exact ⟨by simp [go_sem, c0], by simp [go_sem, c1]⟩)) ?_
    clear hK K
    (try simp only [Act.put, List.setIfInBounds_toArray, List.set_cons_zero, List.set_cons_succ])
    refine wpAnyD_one (i := 18) rfl (by kernel_rfl) (fun K hK => ?_)
    go_simp
    refine hK _ _ (fun h => absurd rfl h) ?_
    clear hK K
    refine wpAnyD_done (by kernel_rfl) ?_ _
    go_wp2
    (try simp only [Exit.inBlock, Exit.then]); refine bodyPost_ret (v := .tuple #[.agg #[.int .i64 v1, .int .i64 v2, .int .i64 v3, .int .i64 v4], .int .i64 (colC f n xs r age)]) (by simp [results, Try.results21, go_sem, x0, x1, x2, x3, hlR, h4.out]; done) rfl ?_
    exact ⟨by rw [HV.out], by go_grown⟩
  all_goals
    rw [h4] at HT
    have HV := Lib.hid (colV_no (show colC f n xs r age ≠ 0 by rw [h4]; decide))
    replace HT := Lib.hid HT
    replace h4 := Lib.hid h4
    (try clear h1)
    (try clear h2)
    (try clear h3)
    clear h h5
    go_enter Try.func21, Try.ntmps21
    go_wp2_with (go_at_call 48; (with_reducible refine Calls.mono (HT.out _ hB) ?_); rintro ee wz ⟨rfl, hb⟩; replace hB := bel_step hB hb; replace BB := Lib.hid (blk_later BB.out hb); (try clear c0 c1); obtain ⟨c0, c1, -⟩ := cT2 BB.out; have hlB := BB.out.lt; replace BR := Lib.hid (blk_later BR.out hb); (try clear x0 x1 x2 x3 y0 y1 y2 y3); obtain ⟨⟨x0, x1, x2, x3⟩, y0, y1, y2, y3⟩ := c4_cells BR.out; have hlR := BR.out.lt; clear hb)
    (try simp only [Exit.inBlock, Exit.then]); refine bodyPost_ret (v := .tuple #[.agg #[.int .i64 0, .int .i64 0, .int .i64 0, .int .i64 0], .int .i64 (colC f n xs r age)]) (by simp [results, Try.results21, go_sem, x0, x1, x2, x3, hlR, h4.out]; done) rfl ?_
    exact ⟨by rw [HV.out], by go_grown⟩
end Go.Proofs.Ytmefjjamkebinaa
