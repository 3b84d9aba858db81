/-
  Contracts of chapter 13: the shares of the living, copies.
-/
import Derived.Test.YtaikfclgmkfooaaGreatDoorB1
import Derived.Test.YtaikfclgmkfooaaGreatDoorRT
set_option linter.unusedSimpArgs false
set_option linter.unusedVariables false
namespace Go.Proofs.YtaikfclgmkfooaaGreatDoor
open Go.RowKit
/-- the shares of the living among the first k -/
def lvS (ss ds : List Int) : Nat → Int
  | 0 => 0
  | k + 1 => lvS ss ds k + (if hs ds k = true then 0 else gz ss k)
theorem lvS_bd {ss ds : List Int} (h : ss.all (inR 1 1000) = true) : ∀ k, k ≤ ss.length → 0 ≤ lvS ss ds k ∧ lvS ss ds k ≤ 1000 * (k : Int)
  | 0, _ => by unfold lvS; omega
  | k + 1, hk => by
    have h1 := lvS_bd (ds := ds) h k (by omega)
    have h2 := inR_iff.1 (List.all_eq_true.1 h _ (gz_mem (show k < ss.length by omega)))
    unfold lvS
    split <;> omega
theorem lvS_dead {ss ds : List Int} {k : Nat} (h : hs ds k = true) : lvS ss ds (k + 1) = lvS ss ds k := by
  show lvS ss ds k + (if hs ds k = true then 0 else gz ss k) = _
  rw [if_pos h]
  omega
theorem lvS_alive {ss ds : List Int} {k : Nat} (h : hs ds k = false) : lvS ss ds (k + 1) = lvS ss ds k + gz ss k := by
  show lvS ss ds k + (if hs ds k = true then 0 else gz ss k) = _
  rw [if_neg (by rw [h]; decide)]
set_option maxHeartbeats 1000000 in
set_option maxRecDepth 100000 in
theorem iLiv_any (S : Option Addr) (n c : Nat) (ss : List Int) (D : Option Addr) (m d : Nat) (ds : List Int) (ch : Int) (w : World) (hS : RdI w w.heap.size S n ss) (hD : RdI w w.heap.size D m ds) (hn : n ≤ 1000) (hm : m ≤ 3000000) (ha : ss.all (inR 1 1000) = true) : Calls Tryz.prog 41 #[.agg #[.slice S n c, .slice D m d, .int .i64 ch]] w fun e w' => e = .returned (.int .i64 (lvS ss ds n)) ∧ Below w.heap.size w w' := by
  have HL := Lib.hid hS.len
  have H1 := Lib.hid (fun (x : Int) W (hB : Below w.heap.size w W) => isDead_any S n c D m d ds ch x W ((hD.below hB).more hB.size) hm)
  have HS := Lib.hid (fun W (hB : Below w.heap.size w W) => (hS.below hB).more hB.size)
  have HA := Lib.hid (fun k (hk : k ≤ ss.length) => lvS_bd (ds := ds) ha k hk)
  have HG := Lib.hid (fun k (hk : k < ss.length) => inR_iff.1 (List.all_eq_true.1 ha _ (gz_mem hk)))
  have BB := Lib.hid (Blk.new w 26 #[.slice S n c, .slice D m d, .int .i64 ch])
  have hB : Below w.heap.size w (w.alloc (.cells #[.slice S n c, .slice D m d, .int .i64 ch] 26)) := al_ _ _
  clear hS hD ha
  go_enter Tryz.func41, Tryz.ntmps41
  go_wp2_with fail
  go_loopw [3, 4, 5, 9] (fun s a b i wr => ∃ k : Nat, i = .int .i64 k ∧ k ≤ n ∧ s = .int .i64 (lvS ss ds k) ∧ Below w.heap.size w wr ∧ Hid (Blk wr w.heap.size 26 #[.slice S n c, .slice D m d, .int .i64 ch])) (fun _ _ _ i _ => n - (intOf i).toNat)
  case atStart => exact ⟨0, rfl, Nat.zero_le _, rfl, hB, BB⟩
  case round =>
    clear hB BB
    obtain ⟨k, rfl, hk, rfl, hB, BB⟩ := hrel
    obtain ⟨c0, c1, c2⟩ := c3_cells BB.out
    have hlB := BB.out.lt
    by_cases hlt : k < n
    · obtain ⟨ad, rfl, hb1, k1⟩ := RdI.atZ (HS.out _ hB) hlt
      have b1 := HA.out k (by have := HL.out; omega)
      have b2 := HG.out k (by have := HL.out; omega)
      have HD := fun W hB => H1.out k W hB
      cases hd : hs ds k with
      | true =>
        have HE := Lib.hid (lvS_dead (ss := ss) hd)
        rw [hd] at HD
        replace HD := Lib.hid HD
        clear hd
        generalize gz ss k = g at *
        go_wp2_with (go_at_call 36; (with_reducible refine Calls.mono (HD.out _ hB) ?_); rintro ee wz ⟨rfl, hb⟩; replace hB := bel_step hB hb; replace BB := Lib.hid (blk_later BB.out hb); (try clear c0 c1 c2); obtain ⟨c0, c1, c2⟩ := c3_cells BB.out; have hlB := BB.out.lt; clear hb)
        go_roundw
        case rel => exact ⟨k + 1, by go_num, by omega, by rw [HE.out], hB, BB⟩
        case measure => simp [intOf]; omega
      | false =>
        have HE := Lib.hid (lvS_alive (ss := ss) hd)
        rw [hd] at HD
        replace HD := Lib.hid HD
        clear hd
        generalize gz ss k = g at *
        generalize lvS ss ds k = s at *
        have q1 := IntWalk.i64_in (s + g) (by omega)
        go_wp2_with (go_at_call 36; (with_reducible refine Calls.mono (HD.out _ hB) ?_); rintro ee wz ⟨rfl, hb⟩; replace hB := bel_step hB hb; replace BB := Lib.hid (blk_later BB.out hb); (try clear c0 c1 c2); obtain ⟨c0, c1, c2⟩ := c3_cells BB.out; have hlB := BB.out.lt; clear hb)
        go_roundw
        case rel => exact ⟨k + 1, by go_num, by omega, by rw [HE.out], hB, BB⟩
        case measure => simp [intOf]; omega
    · obtain rfl : k = n := by omega
      go_wp2
      go_returns
      exact ⟨rfl, hB⟩
/-- a class of the call's own: the dead lie behind the shares -/
def OwC (w : World) (base : Nat) (vs vd : Value) (ss ds : List Int) : Prop := ∃ mid, (base ≤ mid ∧ mid ≤ w.heap.size) ∧ OwI w base vs ss ∧ (∀ q, vs.ownBlock = some q → q < mid) ∧ OwI w mid vd ds
section
variable {w w' : World} {base base' : Nat} {vs vd : Value} {ss ds : List Int}
theorem OwC.later (h : OwC w base vs vd ss ds) (hb : Below w.heap.size w w') : OwC w' base vs vd ss ds := by
  obtain ⟨mid, h1, h2, h3, h4⟩ := h
  exact ⟨mid, ⟨h1.1, Nat.le_trans h1.2 hb.size⟩, h2.later hb, h3, h4.later hb⟩
theorem OwC.mono (h : OwC w base vs vd ss ds) (hb : base' ≤ base) : OwC w base' vs vd ss ds := by
  obtain ⟨mid, h1, h2, h3, h4⟩ := h
  exact ⟨mid, ⟨Nat.le_trans hb h1.1, h1.2⟩, h2.mono hb, h3, h4⟩
theorem OwC.nil {w : World} {base : Nat} (h : base ≤ w.heap.size) : OwC w base (.slice none 0 0) (.slice none 0 0) [] [] := ⟨base, ⟨Nat.le_refl _, h⟩, World.ownsRow_nil _ _ _ _, (fun q e => by cases e), World.ownsRow_nil _ _ _ _⟩
theorem OwC.store (h : OwC w base vs vd ss ds) {p : Addr} (hp : p.block < base) (u : Value) : OwC (w.setCell p u) base vs vd ss ds := by
  obtain ⟨mid, h1, h2, h3, h4⟩ := h
  exact ⟨mid, ⟨h1.1, by simpa [World.setCell] using h1.2⟩, h2.store hp u, h3, h4.store (Nat.lt_of_lt_of_le hp h1.1) u⟩
end
theorem r3_cells {W : World} {t : TypeId} {g : Nat} {a b e : Value} (h : Blk W g t #[a, b, e]) : (W.cell? ⟨g, 0, none⟩ = some a ∧ W.cell? ⟨g, 1, none⟩ = some b ∧ W.cell? ⟨g, 2, none⟩ = some e) ∧ W.frozen? ⟨g, 0, none⟩ = false ∧ W.frozen? ⟨g, 1, none⟩ = false ∧ W.frozen? ⟨g, 2, none⟩ = false := ⟨⟨h.cell 0, h.cell 1, h.cell 2⟩, h.frozen 0, h.frozen 1, h.frozen 2⟩
set_option maxHeartbeats 2000000 in
set_option maxRecDepth 100000 in
theorem iClone_any (S : Option Addr) (n c : Nat) (ss : List Int) (D : Option Addr) (m d : Nat) (ds : List Int) (ch : Int) (w : World) (hS : RdI w w.heap.size S n ss) (hD : RdI w w.heap.size D m ds) (hcS : S = none → c = 0) (hcD : D = none → d = 0) (hn : n ≤ 1048576) (hm : m ≤ 1048576) : Calls Tryz.prog 50 #[.agg #[.slice S n c, .slice D m d, .int .i64 ch]] w fun e w' => ∃ S' n' c' D' m' d', e = .returned (.agg #[.slice S' n' c', .slice D' m' d', .int .i64 ch]) ∧ OwC w' w.heap.size (.slice S' n' c') (.slice D' m' d') ss ds ∧ Below w.heap.size w w' := by
  have H1 := Lib.hid (fun W (hB : Below w.heap.size w W) => clone_any S n c ss W ((hS.below hB).more hB.size) hcS hn)
  have H2 := Lib.hid (fun W (hB : Below w.heap.size w W) => clone_any D m d ds W ((hD.below hB).more hB.size) hcD hm)
  have BB := Lib.hid ((Blk.new w 26 #[.slice S n c, .slice D m d, .int .i64 ch]).alloc (.cells #[.slice none 0 0, .slice none 0 0, .int .i64 0] 26))
  have BR := Lib.hid (Blk.new (w.alloc (.cells #[.slice S n c, .slice D m d, .int .i64 ch] 26)) 26 #[.slice none 0 0, .slice none 0 0, .int .i64 0])
  rw [World.size_alloc] at BR
  have hB : Below w.heap.size w ((w.alloc (.cells #[.slice S n c, .slice D m d, .int .i64 ch] 26)).alloc (.cells #[.slice none 0 0, .slice none 0 0, .int .i64 0] 26)) := (al_ _ _).alloc (by simp) _
  have hsz : ((w.alloc (.cells #[.slice S n c, .slice D m d, .int .i64 ch] 26)).alloc (.cells #[.slice none 0 0, .slice none 0 0, .int .i64 0] 26)).heap.size = w.heap.size + 1 + 1 := by simp
  clear hS hD
  go_enter Tryz.func50, Tryz.ntmps50
  go_upto_region 1 with fail
  generalize (w.alloc (.cells #[.slice S n c, .slice D m d, .int .i64 ch] 26)).alloc (.cells #[.slice none 0 0, .slice none 0 0, .int .i64 0] 26) = W0 at *
  obtain ⟨c0, c1, c2⟩ := c3_cells BB.out
  have SS : Hid (∀ W', Below W0.heap.size W0 W' → (fun W' : World => W'.cell? ⟨w.heap.size, 0, none⟩ = some (.slice S n c) ∧ W'.cell? ⟨w.heap.size, 1, none⟩ = some (.slice D m d) ∧ W'.cell? ⟨w.heap.size, 2, none⟩ = some (.int .i64 ch)) W') := Lib.hid (fun W' hb => ⟨keepC hb c0, keepC hb c1, keepC hb c2⟩)
  replace hsz := Lib.hid hsz
  refine wp_region_D 9 (fun W' : World => W'.cell? ⟨w.heap.size, 0, none⟩ = some (.slice S n c) ∧ W'.cell? ⟨w.heap.size, 1, none⟩ = some (.slice D m d) ∧ W'.cell? ⟨w.heap.size, 2, none⟩ = some (.int .i64 ch)) (by kernel_rfl) ?_
  have hS0 : (fun W' : World => W'.cell? ⟨w.heap.size, 0, none⟩ = some (.slice S n c) ∧ W'.cell? ⟨w.heap.size, 1, none⟩ = some (.slice D m d) ∧ W'.cell? ⟨w.heap.size, 2, none⟩ = some (.int .i64 ch)) W0.drew := SS.out _ (Below.refl _ _).drew
  refine wpAnyD_take (i := 0) (v := ?_) rfl (by kernel_rfl) (fun _ _ _ h => h) (Or.inl ⟨by rfl, ?_⟩) (by assumption) ?_; rotate_left; (intro w' hSw; (try dsimp only at hSw); go_simp; with_reducible rfl); (try simp only [Act.put, List.setIfInBounds_toArray, List.set_cons_zero, List.set_cons_succ])
  refine wpAnyD_take (i := 1) (v := ?_) rfl (by kernel_rfl) (fun _ _ _ h => h) (Or.inl ⟨by rfl, ?_⟩) (by assumption) ?_; rotate_left; (intro w' hSw; (try dsimp only at hSw); go_simp; with_reducible rfl); (try simp only [Act.put, List.setIfInBounds_toArray, List.set_cons_zero, List.set_cons_succ])
  refine wpAnyD_take (i := 3) (v := ?_) rfl (by kernel_rfl) (fun _ _ _ h => h) (Or.inl ⟨by rfl, ?_⟩) (by assumption) ?_; rotate_left; (intro w' hSw; (try dsimp only at hSw); go_simp; with_reducible rfl); (try simp only [Act.put, List.setIfInBounds_toArray, List.set_cons_zero, List.set_cons_succ])
  refine wpAnyD_take (i := 4) (v := ?_) rfl (by kernel_rfl) (fun _ _ _ h => h) (Or.inl ⟨by rfl, ?_⟩) (by assumption) ?_; rotate_left; (intro w' hSw; (try dsimp only at hSw); go_simp; with_reducible rfl); (try simp only [Act.put, List.setIfInBounds_toArray, List.set_cons_zero, List.set_cons_succ])
  refine wpAnyD_take (i := 6) (v := ?_) rfl (by kernel_rfl) (fun _ _ _ h => h) (Or.inl ⟨by rfl, ?_⟩) (by assumption) ?_; rotate_left; (intro w' hSw; (try dsimp only at hSw); go_simp; with_reducible rfl); (try simp only [Act.put, List.setIfInBounds_toArray, List.set_cons_zero, List.set_cons_succ])
  refine wpAnyD_take (i := 7) (v := ?_) rfl (by kernel_rfl) (fun _ _ _ h => h) (Or.inl ⟨by rfl, ?_⟩) (by assumption) ?_; rotate_left; (intro w' hSw; (try dsimp only at hSw); go_simp; with_reducible rfl); (try simp only [Act.put, List.setIfInBounds_toArray, List.set_cons_zero, List.set_cons_succ])
  refine wpAnyD_one (i := 2) rfl (by kernel_rfl) (fun K hK => ?_)
  go_simp
  (with_reducible refine Calls.mono (H1.out _ hB.drew) ?_)
  rintro ee w6 ⟨S', n', c', rfl, ho, hb⟩
  replace hb := bel_step (w := W0) (Below.refl _ _).drew hb
  have OS : Hid (OwI w6 W0.heap.size (.slice S' n' c') ss) := ho
  have hS6 : (fun W' : World => W'.cell? ⟨w.heap.size, 0, none⟩ = some (.slice S n c) ∧ W'.cell? ⟨w.heap.size, 1, none⟩ = some (.slice D m d) ∧ W'.cell? ⟨w.heap.size, 2, none⟩ = some (.int .i64 ch)) w6 := SS.out _ hb
  clear ho
  dsimp only
  refine hK _ _ (fun _ => hS6) ?_; clear hK K; (try simp only [Act.put, List.setIfInBounds_toArray, List.set_cons_zero, List.set_cons_succ])
  refine wpAnyD_one (i := 5) rfl (by kernel_rfl) (fun K hK => ?_)
  go_simp
  (with_reducible refine Calls.mono (H2.out _ (bel_step hB hb)) ?_)
  rintro ee w7 ⟨D', m', d', rfl, ho, hb7⟩
  have hb27 := bel_step hb hb7
  have OC : Hid (OwC w7 W0.heap.size (.slice S' n' c') (.slice D' m' d') ss ds)   := Lib.hid ⟨w6.heap.size, ⟨hb.size, hb7.size⟩, OS.out.later hb7, fun q e => (own_rowI OS.out q e).2, ho⟩
  have hS7 : (fun W' : World => W'.cell? ⟨w.heap.size, 0, none⟩ = some (.slice S n c) ∧ W'.cell? ⟨w.heap.size, 1, none⟩ = some (.slice D m d) ∧ W'.cell? ⟨w.heap.size, 2, none⟩ = some (.int .i64 ch)) w7 := SS.out _ hb27
  obtain ⟨⟨x0, x1, x2⟩, y0, y1, y2⟩ := r3_cells (blk_later BR.out hb27)
  have hlR := (blk_later BR.out hb27).lt
  have hB7 := bel_step hB hb27
  clear ho c0 c1 c2
  dsimp only
  refine hK _ _ (fun _ => hS7) ?_; clear hK K; (try simp only [Act.put, List.setIfInBounds_toArray, List.set_cons_zero, List.set_cons_succ])
  refine wpAnyD_take (i := 8) (v := ?_) rfl (by kernel_rfl) (fun _ _ _ h => h) (Or.inl ⟨by rfl, ?_⟩) (by assumption) ?_; rotate_left; (intro w' hSw; (try dsimp only at hSw); go_simp; with_reducible rfl); (try simp only [Act.put, List.setIfInBounds_toArray, List.set_cons_zero, List.set_cons_succ])
  refine wpAnyD_one (i := 9) rfl (by kernel_rfl) (fun K hK => ?_)
  go_simp
  refine hK _ _ (fun h => absurd rfl h) ?_
  clear hK K
  refine wpAnyD_done (by kernel_rfl) ?_ _
  go_wp2
  (try simp only [Exit.inBlock, Exit.then])
  refine bodyPost_ret (v := .agg #[.slice S' n' c', .slice D' m' d', .int .i64 ch]) (by simp [results, Tryz.results50, go_sem, x0, x1, x2, hlR]; done) rfl ?_
  have hs0 := hsz.out
  exact ⟨S', n', c', D', m', d', rfl, (((OC.out.store (by show w.heap.size + 1 < _; omega) _).store (by show w.heap.size + 1 < _; omega) _).store (by show w.heap.size + 1 < _; omega) _).mono (by omega), by go_grown⟩
set_option maxHeartbeats 2000000 in
set_option maxRecDepth 100000 in
theorem sOwnC_any (S : Option Addr) (n c : Nat) (ss : List Int) (D : Option Addr) (m d : Nat) (ds : List Int) (ch : Int) (w : World) (hS : RdI w w.heap.size S n ss) (hD : RdI w w.heap.size D m ds) (hcS : S = none → c = 0) (hcD : D = none → d = 0) (hn : n ≤ 1048576) (hm : m ≤ 1048576) : Calls Tryz.prog 52 #[.agg #[.slice S n c, .slice D m d, .int .i64 ch]] w fun e w' => ∃ S' n' c' D' m' d', e = .returned (.agg #[.slice S' n' c', .slice D' m' d', .int .i64 ch]) ∧ OwC w' w.heap.size (.slice S' n' c') (.slice D' m' d') ss ds ∧ Below w.heap.size w w' := by
  have H1 := Lib.hid (fun W (hB : Below w.heap.size w W) => sOwn_any S n c ss W ((hS.below hB).more hB.size) hcS hn)
  have H2 := Lib.hid (fun W (hB : Below w.heap.size w W) => sOwn_any D m d ds W ((hD.below hB).more hB.size) hcD hm)
  have BB := Lib.hid ((Blk.new w 26 #[.slice S n c, .slice D m d, .int .i64 ch]).alloc (.cells #[.slice none 0 0, .slice none 0 0, .int .i64 0] 26))
  have BR := Lib.hid (Blk.new (w.alloc (.cells #[.slice S n c, .slice D m d, .int .i64 ch] 26)) 26 #[.slice none 0 0, .slice none 0 0, .int .i64 0])
  rw [World.size_alloc] at BR
  have hB : Below w.heap.size w ((w.alloc (.cells #[.slice S n c, .slice D m d, .int .i64 ch] 26)).alloc (.cells #[.slice none 0 0, .slice none 0 0, .int .i64 0] 26)) := (al_ _ _).alloc (by simp) _
  have hsz : ((w.alloc (.cells #[.slice S n c, .slice D m d, .int .i64 ch] 26)).alloc (.cells #[.slice none 0 0, .slice none 0 0, .int .i64 0] 26)).heap.size = w.heap.size + 1 + 1 := by simp
  clear hS hD
  go_enter Tryz.func52, Tryz.ntmps52
  go_upto_region 1 with fail
  generalize (w.alloc (.cells #[.slice S n c, .slice D m d, .int .i64 ch] 26)).alloc (.cells #[.slice none 0 0, .slice none 0 0, .int .i64 0] 26) = W0 at *
  obtain ⟨c0, c1, c2⟩ := c3_cells BB.out
  have SS : Hid (∀ W', Below W0.heap.size W0 W' → (fun W' : World => W'.cell? ⟨w.heap.size, 0, none⟩ = some (.slice S n c) ∧ W'.cell? ⟨w.heap.size, 1, none⟩ = some (.slice D m d) ∧ W'.cell? ⟨w.heap.size, 2, none⟩ = some (.int .i64 ch)) W') := Lib.hid (fun W' hb => ⟨keepC hb c0, keepC hb c1, keepC hb c2⟩)
  replace hsz := Lib.hid hsz
  refine wp_region_D 9 (fun W' : World => W'.cell? ⟨w.heap.size, 0, none⟩ = some (.slice S n c) ∧ W'.cell? ⟨w.heap.size, 1, none⟩ = some (.slice D m d) ∧ W'.cell? ⟨w.heap.size, 2, none⟩ = some (.int .i64 ch)) (by kernel_rfl) ?_
  have hS0 : (fun W' : World => W'.cell? ⟨w.heap.size, 0, none⟩ = some (.slice S n c) ∧ W'.cell? ⟨w.heap.size, 1, none⟩ = some (.slice D m d) ∧ W'.cell? ⟨w.heap.size, 2, none⟩ = some (.int .i64 ch)) W0.drew := SS.out _ (Below.refl _ _).drew
  refine wpAnyD_take (i := 0) (v := ?_) rfl (by kernel_rfl) (fun _ _ _ h => h) (Or.inl ⟨by rfl, ?_⟩) (by assumption) ?_; rotate_left; (intro w' hSw; (try dsimp only at hSw); go_simp; with_reducible rfl); (try simp only [Act.put, List.setIfInBounds_toArray, List.set_cons_zero, List.set_cons_succ])
  refine wpAnyD_take (i := 1) (v := ?_) rfl (by kernel_rfl) (fun _ _ _ h => h) (Or.inl ⟨by rfl, ?_⟩) (by assumption) ?_; rotate_left; (intro w' hSw; (try dsimp only at hSw); go_simp; with_reducible rfl); (try simp only [Act.put, List.setIfInBounds_toArray, List.set_cons_zero, List.set_cons_succ])
  refine wpAnyD_take (i := 3) (v := ?_) rfl (by kernel_rfl) (fun _ _ _ h => h) (Or.inl ⟨by rfl, ?_⟩) (by assumption) ?_; rotate_left; (intro w' hSw; (try dsimp only at hSw); go_simp; with_reducible rfl); (try simp only [Act.put, List.setIfInBounds_toArray, List.set_cons_zero, List.set_cons_succ])
  refine wpAnyD_take (i := 4) (v := ?_) rfl (by kernel_rfl) (fun _ _ _ h => h) (Or.inl ⟨by rfl, ?_⟩) (by assumption) ?_; rotate_left; (intro w' hSw; (try dsimp only at hSw); go_simp; with_reducible rfl); (try simp only [Act.put, List.setIfInBounds_toArray, List.set_cons_zero, List.set_cons_succ])
  refine wpAnyD_take (i := 6) (v := ?_) rfl (by kernel_rfl) (fun _ _ _ h => h) (Or.inl ⟨by rfl, ?_⟩) (by assumption) ?_; rotate_left; (intro w' hSw; (try dsimp only at hSw); go_simp; with_reducible rfl); (try simp only [Act.put, List.setIfInBounds_toArray, List.set_cons_zero, List.set_cons_succ])
  refine wpAnyD_take (i := 7) (v := ?_) rfl (by kernel_rfl) (fun _ _ _ h => h) (Or.inl ⟨by rfl, ?_⟩) (by assumption) ?_; rotate_left; (intro w' hSw; (try dsimp only at hSw); go_simp; with_reducible rfl); (try simp only [Act.put, List.setIfInBounds_toArray, List.set_cons_zero, List.set_cons_succ])
  refine wpAnyD_one (i := 2) rfl (by kernel_rfl) (fun K hK => ?_)
  go_simp
  (with_reducible refine Calls.mono (H1.out _ hB.drew) ?_)
  rintro ee w6 ⟨S', n', c', rfl, ho, hb⟩
  replace hb := bel_step (w := W0) (Below.refl _ _).drew hb
  have OS : Hid (OwI w6 W0.heap.size (.slice S' n' c') ss) := ho
  have hS6 : (fun W' : World => W'.cell? ⟨w.heap.size, 0, none⟩ = some (.slice S n c) ∧ W'.cell? ⟨w.heap.size, 1, none⟩ = some (.slice D m d) ∧ W'.cell? ⟨w.heap.size, 2, none⟩ = some (.int .i64 ch)) w6 := SS.out _ hb
  clear ho
  dsimp only
  refine hK _ _ (fun _ => hS6) ?_; clear hK K; (try simp only [Act.put, List.setIfInBounds_toArray, List.set_cons_zero, List.set_cons_succ])
  refine wpAnyD_one (i := 5) rfl (by kernel_rfl) (fun K hK => ?_)
  go_simp
  (with_reducible refine Calls.mono (H2.out _ (bel_step hB hb)) ?_)
  rintro ee w7 ⟨D', m', d', rfl, ho, hb7⟩
  have hb27 := bel_step hb hb7
  have OC : Hid (OwC w7 W0.heap.size (.slice S' n' c') (.slice D' m' d') ss ds)   := Lib.hid ⟨w6.heap.size, ⟨hb.size, hb7.size⟩, OS.out.later hb7, fun q e => (own_rowI OS.out q e).2, ho⟩
  have hS7 : (fun W' : World => W'.cell? ⟨w.heap.size, 0, none⟩ = some (.slice S n c) ∧ W'.cell? ⟨w.heap.size, 1, none⟩ = some (.slice D m d) ∧ W'.cell? ⟨w.heap.size, 2, none⟩ = some (.int .i64 ch)) w7 := SS.out _ hb27
  obtain ⟨⟨x0, x1, x2⟩, y0, y1, y2⟩ := r3_cells (blk_later BR.out hb27)
  have hlR := (blk_later BR.out hb27).lt
  have hB7 := bel_step hB hb27
  clear ho c0 c1 c2
  dsimp only
  refine hK _ _ (fun _ => hS7) ?_; clear hK K; (try simp only [Act.put, List.setIfInBounds_toArray, List.set_cons_zero, List.set_cons_succ])
  refine wpAnyD_take (i := 8) (v := ?_) rfl (by kernel_rfl) (fun _ _ _ h => h) (Or.inl ⟨by rfl, ?_⟩) (by assumption) ?_; rotate_left; (intro w' hSw; (try dsimp only at hSw); go_simp; with_reducible rfl); (try simp only [Act.put, List.setIfInBounds_toArray, List.set_cons_zero, List.set_cons_succ])
  refine wpAnyD_one (i := 9) rfl (by kernel_rfl) (fun K hK => ?_)
  go_simp
  refine hK _ _ (fun h => absurd rfl h) ?_
  clear hK K
  refine wpAnyD_done (by kernel_rfl) ?_ _
  go_wp2
  (try simp only [Exit.inBlock, Exit.then])
  refine bodyPost_ret (v := .agg #[.slice S' n' c', .slice D' m' d', .int .i64 ch]) (by simp [results, Tryz.results52, go_sem, x0, x1, x2, hlR]; done) rfl ?_
  have hs0 := hsz.out
  exact ⟨S', n', c', D', m', d', rfl, (((OC.out.store (by show w.heap.size + 1 < _; omega) _).store (by show w.heap.size + 1 < _; omega) _).store (by show w.heap.size + 1 < _; omega) _).mono (by omega), by go_grown⟩
end Go.Proofs.YtaikfclgmkfooaaGreatDoor
