/-
  Contracts of chapter 13: pay, the program's side.
-/
import Derived.Test.YtmhbkabdiciakaaJ1
set_option linter.unusedSimpArgs false
set_option linter.unusedVariables false
namespace Go.Proofs.Ytmhbkabdiciakaa
open Go.RowKit
theorem OwC.drew {w : World} {base : Nat} {vs vd : Value} {ss ds : List Int} (h : OwC w base vs vd ss ds) : OwC w.drew base vs vd ss ds := h
theorem OwI.drew {w : World} {base : Nat} {v : Value} {zs : List Int} (h : OwI w base v zs) : OwI w.drew base v zs := h
/-- three operations may come up -/
theorem wpAnyD_three {P : Program} {ops : Array Oper} {Q : Exit → Act → World → Prop} {S : World → Prop} {md : Region.Mode} {L i j k : Nat} {oi oj ok : Oper} {fuel : Nat} {listed : Array Bool} {a : Act} {w : World} (hi : ops[i]? = some oi) (hj : ops[j]? = some oj) (hk : ops[k]? = some ok) (hr : Region.ready md ops listed = [i, j, k])
    (h1 : ∀ K : Act → World → Prop, (∀ a' w', (i ≠ L → S w') → wpAnyD P md ops Q S L fuel (listed.setIfInBounds i true) a' w' → K a' w') → if Region.wanted oi (yielded ops a.tmps) = true then oi.wp P a w K Q else K (a.put oi.dst undef) w)
    (h2 : ∀ K : Act → World → Prop, (∀ a' w', (j ≠ L → S w') → wpAnyD P md ops Q S L fuel (listed.setIfInBounds j true) a' w' → K a' w') → if Region.wanted oj (yielded ops a.tmps) = true then oj.wp P a w K Q else K (a.put oj.dst undef) w)
    (h3 : ∀ K : Act → World → Prop, (∀ a' w', (k ≠ L → S w') → wpAnyD P md ops Q S L fuel (listed.setIfInBounds k true) a' w' → K a' w') → if Region.wanted ok (yielded ops a.tmps) = true then ok.wp P a w K Q else K (a.put ok.dst undef) w) : wpAnyD P md ops Q S L (fuel + 1) listed a w := by
  have one : ∀ (x : Nat) (ox : Oper), ops[x]? = some ox → (∀ K : Act → World → Prop, (∀ a' w', (x ≠ L → S w') → wpAnyD P md ops Q S L fuel (listed.setIfInBounds x true) a' w' → K a' w') → if Region.wanted ox (yielded ops a.tmps) = true then ox.wp P a w K Q else K (a.put ox.dst undef) w) → wpOp P ops Q x (fun a' w' => (x ≠ L → S w') ∧ wpAnyD P md ops Q S L fuel (listed.setIfInBounds x true) a' w') a w := by
    intro x ox hx h
    have h1 := h (fun a' w' => (x ≠ L → S w') ∧ wpAnyD P md ops Q S L fuel (listed.setIfInBounds x true) a' w') (fun a' w' h2 h3 => ⟨h2, h3⟩)
    unfold wpOp
    simp only [hx]
    split
    · next hw => rw [if_pos hw] at h1; exact .inl h1
    · next hw => rw [if_neg hw] at h1; exact h1
  refine ⟨fun h0 => (by rw [hr] at h0; cases h0), fun x hx => ?_⟩
  rw [hr] at hx
  have hx2 : x = i ∨ x = j ∨ x = k := by simpa using hx
  rcases hx2 with rfl | rfl | rfl
  · exact one _ _ hi h1
  · exact one _ _ hj h2
  · exact one _ _ hk h3
/-- a copy of a class, a list of noughts beside it -/
def cpP (B : Nat) (W : World) (G GP : Nat) (S' : Option Addr) (n' c' : Nat) (D' : Option Addr) (m' d' : Nat) (ch : Int) (n : Nat) (ss ds : List Int) : Prop := (B + 1 < G ∧ B + 1 < GP ∧ G ≠ GP) ∧ Blk W G 26 #[.slice S' n' c', .slice D' m' d', .int .i64 ch] ∧ (∃ cs0, Blk W GP 2 cs0 ∧ holdsL cs0 (List.replicate n 0)) ∧ OwC W (B + 2) (.slice S' n' c') (.slice D' m' d') ss ds ∧ ∀ q, (Value.slice S' n' c').ownBlock = some q ∨ (Value.slice D' m' d').ownBlock = some q → q ≠ G ∧ q ≠ GP
/-- what the program's pay gives -/
def ipyP (w w' : World) (e : Ending) (ss ds : List Int) (cv : Int) (ps : List Int) : Prop := ∃ S' n' c' D' m' d' P p pc, e = .returned (.tuple #[.agg #[.slice S' n' c', .slice D' m' d', .int .i64 cv], .slice P p pc, .bool (decide (cv ≤ 1000000000000))]) ∧ OwC w' w.heap.size (.slice S' n' c') (.slice D' m' d') ss ds ∧ OwI w' w.heap.size (.slice P p pc) ps ∧ Below w.heap.size w w'
set_option maxHeartbeats 4000000 in
set_option maxRecDepth 100000 in
theorem iPay_any (S : Option Addr) (n c : Nat) (ss : List Int) (D : Option Addr) (m d : Nat) (ds : List Int) (ch inc : Int) (w : World) (hS : RdI w w.heap.size S n ss) (hD : RdI w w.heap.size D m ds) (hcS : S = none → c = 0) (hcD : D = none → d = 0) (hok : okC ss ds ch = true) (hin : 0 ≤ inc ∧ inc ≤ 100000000) : Calls Try.prog 46 #[.agg #[.slice S n c, .slice D m d, .int .i64 ch], .int .i64 inc] w fun ee w' => ipyP w w' ee ss ds (paC ss ds (ch + inc)) (paL ss ds (ch + inc)) := by
  have hk := okC_iff.1 hok
  have hn := hS.len
  have hm := hD.len
  have hmn := inc_len hk.2.2.2.2 hk.2.2.1
  have hch := hk.2.2.2.1
  have H1 := Lib.hid (fun W (hB : Below w.heap.size w W) => iClone_any S n c ss D m d ds ch W ((hS.below hB).more hB.size) ((hD.below hB).more hB.size) hcS hcD (by omega) (by omega))
  have H2 := Lib.hid (fun W (hB : Below w.heap.size w W) => iLiv_any S n c ss D m d ds ch W ((hS.below hB).more hB.size) ((hD.below hB).more hB.size) (by omega) (by omega) hk.2.1)
  have H3 := Lib.hid (fun (x : Int) W (hB : Below w.heap.size w W) => isDead_any S n c D m d ds ch x W ((hD.below hB).more hB.size) (by omega))
  have HSr := Lib.hid (fun W (hB : Below w.heap.size w W) => (hS.below hB).more hB.size)
  have HG := Lib.hid (fun k (hk2 : k < ss.length) => inR_iff.1 (List.all_eq_true.1 hk.2.1 _ (gz_mem hk2)))
  have hLb := lvS_bd (ds := ds) hk.2.1 n (by omega)
  have hEb := each_bd (ds := ds) (t := ch + inc) hk.2.1 (by omega)
  have hCb := paC_bd (ds := ds) (t := ch + inc) hk.2.1 (by omega)
  have q0 := IntWalk.i64_in (ch + inc) (by omega)
  have hCm : Hid (paC ss ds (ch + inc) = (ch + inc) - (ch + inc) / lvS ss ds n * lvS ss ds n) := Lib.hid (by unfold paC; rw [hn])
  have hPV : Hid (∀ i, paV ss ds (ch + inc) i = if hs ds i = true then 0 else (ch + inc) / lvS ss ds n * gz ss i) := Lib.hid (fun i => by unfold paV; rw [hn])
  have hPL : Hid (paL ss ds (ch + inc) = (List.range n).map (paV ss ds (ch + inc))) := Lib.hid (by unfold paL; rw [hn])
  have hPZ : Hid (lvS ss ds n = 0 → paL ss ds (ch + inc) = List.replicate n 0) := Lib.hid (fun h => by rw [← hn] at h ⊢; exact paL_zero h)
  rw [hn] at hEb
  have HN : (Try.prog.info? 2).map (fun i => (i.zero, i.size, i.bytes)) = some (some (.int .i64 0), 1, 8) := by kernel_rfl
  obtain ⟨i0, hi, hz0, hz1, hz2⟩ := info_parts HN
  have hmk := fun W => run_make_rowN (P := Try.prog) 24 2 i0 _ Try.underlying24 hi hz0 .i64 .i64 n n (Nat.le_refl _) (by rw [hz2]; omega) (by omega) W
  rw [hz1, Nat.mul_one] at hmk
  have hz := Lib.hid (holdsL_made n)
  obtain ⟨cs0, hcs0⟩ : ∃ cs0, madeCells (Value.int .i64 0).cells n = cs0 := ⟨_, rfl⟩
  rw [hcs0] at hmk hz
  have BB := Lib.hid ((Blk.new w 26 #[.slice S n c, .slice D m d, .int .i64 ch]).alloc (.cells #[.slice none 0 0, .slice none 0 0, .int .i64 0] 26))
  have BR := Lib.hid (Blk.new (w.alloc (.cells #[.slice S n c, .slice D m d, .int .i64 ch] 26)) 26 #[.slice none 0 0, .slice none 0 0, .int .i64 0])
  rw [World.size_alloc] at BR
  have hB : Below w.heap.size w ((w.alloc (.cells #[.slice S n c, .slice D m d, .int .i64 ch] 26)).alloc (.cells #[.slice none 0 0, .slice none 0 0, .int .i64 0] 26)) := (al_ _ _).alloc (by simp) _
  have hnB : n ≤ 60 := by omega
  have hmB : m ≤ 60 := by omega
  replace hn := Lib.hid hn
  replace hm := Lib.hid hm
  clear hS hD hok hk HN hi hz0 hz1 hz2 hcs0
  go_enter Try.func46, Try.ntmps46
  go_upto_region 1 with fail
  generalize (w.alloc (.cells #[.slice S n c, .slice D m d, .int .i64 ch] 26)).alloc (.cells #[.slice none 0 0, .slice none 0 0, .int .i64 0] 26) = W0 at *
  go_cut [7, 8] (fun s7 s8 wx => ∃ (G GP : Nat) (S' : Option Addr) (n' c' : Nat) (D' : Option Addr) (m' d' : Nat), s7 = .pointer (some ⟨G, 0, none⟩) ∧ s8 = .slice (some ⟨GP, 0, none⟩) n n ∧ Below w.heap.size w wx ∧ Hid (Blk wx w.heap.size 26 #[.slice S n c, .slice D m d, .int .i64 ch]) ∧ Hid (Blk wx (w.heap.size + 1) 26 #[.slice none 0 0, .slice none 0 0, .int .i64 0]) ∧ Hid (cpP w.heap.size wx G GP S' n' c' D' m' d' ch n ss ds))
  case first =>
    replace hB : Below w.heap.size w W0.drew := hB.drew
    replace BB : Hid (Blk W0.drew w.heap.size 26 #[.slice S n c, .slice D m d, .int .i64 ch]) := BB
    replace BR : Hid (Blk W0.drew (w.heap.size + 1) 26 #[.slice none 0 0, .slice none 0 0, .int .i64 0]) := BR
    refine wp_region_D 8 (fun W' : World => W'.cell? ⟨w.heap.size, 0, none⟩ = some (.slice S n c) ∧ W'.cell? ⟨w.heap.size, 1, none⟩ = some (.slice D m d) ∧ W'.cell? ⟨w.heap.size, 2, none⟩ = some (.int .i64 ch)) (by kernel_rfl) ?_
    generalize W0.drew = Wd at *
    have hS0 := (show (fun W' : World => W'.cell? ⟨w.heap.size, 0, none⟩ = some (.slice S n c) ∧ W'.cell? ⟨w.heap.size, 1, none⟩ = some (.slice D m d) ∧ W'.cell? ⟨w.heap.size, 2, none⟩ = some (.int .i64 ch)) Wd from ⟨BB.out.cell 0, BB.out.cell 1, BB.out.cell 2⟩)
    refine wpAnyD_take (i := 0) (v := ?_) rfl (by kernel_rfl) (fun _ _ _ h => h) (Or.inl ⟨by rfl, ?_⟩) (by assumption) ?_; rotate_left; (intro w' hSw; (try dsimp only at hSw); go_simp; with_reducible rfl); (try simp only [Act.put, List.setIfInBounds_toArray, List.set_cons_zero, List.set_cons_succ])
    refine wpAnyD_take (i := 2) (v := ?_) rfl (by kernel_rfl) (fun _ _ _ h => h) (Or.inl ⟨by rfl, ?_⟩) (by assumption) ?_; rotate_left; (intro w' hSw; (try dsimp only at hSw); go_simp; with_reducible rfl); (try simp only [Act.put, List.setIfInBounds_toArray, List.set_cons_zero, List.set_cons_succ])
    refine wpAnyD_take (i := 3) (v := ?_) rfl (by kernel_rfl) (fun _ _ _ h => h) (Or.inl ⟨by rfl, ?_⟩) (by assumption) ?_; rotate_left; (intro w' hSw; (try dsimp only at hSw); go_simp; with_reducible rfl); (try simp only [Act.put, List.setIfInBounds_toArray, List.set_cons_zero, List.set_cons_succ])
    refine wpAnyD_take (i := 4) (v := ?_) rfl (by kernel_rfl) (fun _ _ _ h => h) (Or.inl ⟨by rfl, ?_⟩) (by assumption) ?_; rotate_left; (intro w' hSw; (try dsimp only at hSw); go_simp; with_reducible rfl); (try simp only [Act.put, List.setIfInBounds_toArray, List.set_cons_zero, List.set_cons_succ])
    clear hS0
    refine wpAnyD_three (i := 1) (j := 5) (k := 6) rfl rfl rfl (by kernel_rfl) (fun K hK => ?_) (fun K hK => ?_) (fun K hK => ?_)
    · go_simp
      (with_reducible refine Calls.mono (H1.out _ hB) ?_)
      rintro ee Wo1 ⟨S', n', c', D', m', d', rfl, ho, hb⟩
      dsimp only
      have rC := Lib.hid ho.rowsB
      have OC := Lib.hid (ho.mono (show w.heap.size + 2 ≤ _ from BR.out.lt))
      have hC2 : Wo1.heap.size ≤ Wo1.heap.size := Nat.le_refl _
      replace hB := bel_step hB hb
      replace BB := Lib.hid (blk_later BB.out hb)
      replace BR := Lib.hid (blk_later BR.out hb)
      clear ho hb
      have hS := (show (fun W' : World => W'.cell? ⟨w.heap.size, 0, none⟩ = some (.slice S n c) ∧ W'.cell? ⟨w.heap.size, 1, none⟩ = some (.slice D m d) ∧ W'.cell? ⟨w.heap.size, 2, none⟩ = some (.int .i64 ch)) Wo1 from ⟨BB.out.cell 0, BB.out.cell 1, BB.out.cell 2⟩)
      refine hK _ _ (fun _ => hS) ?_; clear hK K; (try simp only [Act.put, List.setIfInBounds_toArray, List.set_cons_zero, List.set_cons_succ])
      refine wpAnyD_two (i := 5) (j := 6) rfl rfl (by kernel_rfl) (fun K hK => ?_) (fun K hK => ?_)
      · go_simp
        have hb := al_ Wo1 (.cells cs0 2)
        have BM : Hid (Blk (Wo1.alloc (.cells cs0 2)) Wo1.heap.size 2 cs0) := Lib.hid (Blk.new _ _ _)
        have kGP := BR.out.lt
        have kCGP := hC2
        replace hB := bel_step hB hb
        replace BB := Lib.hid (blk_later BB.out hb)
        replace BR := Lib.hid (blk_later BR.out hb)
        replace OC := Lib.hid (OC.out.later hb)
        replace hC2 := Nat.le_trans hC2 hb.size
        clear hb
        have hS := (show (fun W' : World => W'.cell? ⟨w.heap.size, 0, none⟩ = some (.slice S n c) ∧ W'.cell? ⟨w.heap.size, 1, none⟩ = some (.slice D m d) ∧ W'.cell? ⟨w.heap.size, 2, none⟩ = some (.int .i64 ch)) (Wo1.alloc (.cells cs0 2)) from ⟨BB.out.cell 0, BB.out.cell 1, BB.out.cell 2⟩)
        refine hK _ _ (fun _ => hS) ?_; clear hK K; (try simp only [Act.put, List.setIfInBounds_toArray, List.set_cons_zero, List.set_cons_succ])
        generalize Wo1.alloc (.cells cs0 2) = Wo2 at *
        generalize hgGP : Wo1.heap.size = GP at *
        refine wpAnyD_one (i := 6) rfl (by kernel_rfl) (fun K hK => ?_)
        have kGA := BM.out.lt
        go_simp
        have hb := al_ Wo2 (.cells #[.slice none 0 0, .slice none 0 0, .int .i64 0] 26)
        have BA : Hid (Blk (Wo2.alloc (.cells #[.slice none 0 0, .slice none 0 0, .int .i64 0] 26)) Wo2.heap.size 26 #[.slice none 0 0, .slice none 0 0, .int .i64 0]) := Lib.hid (Blk.new _ _ _)
        have kG := BR.out.lt
        have kCG := hC2
        replace hB := bel_step hB hb
        replace BB := Lib.hid (blk_later BB.out hb)
        replace BR := Lib.hid (blk_later BR.out hb)
        replace BM := Lib.hid (blk_later BM.out hb)
        replace OC := Lib.hid (OC.out.later hb)
        replace hC2 := Nat.le_trans hC2 hb.size
        clear hb
        have hS := (show (fun W' : World => W'.cell? ⟨w.heap.size, 0, none⟩ = some (.slice S n c) ∧ W'.cell? ⟨w.heap.size, 1, none⟩ = some (.slice D m d) ∧ W'.cell? ⟨w.heap.size, 2, none⟩ = some (.int .i64 ch)) (Wo2.alloc (.cells #[.slice none 0 0, .slice none 0 0, .int .i64 0] 26)) from ⟨BB.out.cell 0, BB.out.cell 1, BB.out.cell 2⟩)
        refine hK _ _ (fun _ => hS) ?_; clear hK K; (try simp only [Act.put, List.setIfInBounds_toArray, List.set_cons_zero, List.set_cons_succ])
        generalize Wo2.alloc (.cells #[.slice none 0 0, .slice none 0 0, .int .i64 0] 26) = Wo3 at *
        generalize hgG : Wo2.heap.size = G at *
        refine wpAnyD_one (i := 7) rfl (by kernel_rfl) (fun K hK => ?_)
        obtain ⟨⟨o0, o1, o2⟩, p0, p1, p2⟩ := r3_cells BA.out
        go_simp
        have hlA := BA.out.lt
        have rCG : ∀ q, (Value.slice S' n' c').ownBlock = some q ∨ (Value.slice D' m' d').ownBlock = some q → q ≠ G := fun q e => by have := rC.out q e; omega
        replace hB := ((hB.setCell (p := ⟨G, 0, none⟩) (by show w.heap.size ≤ G; omega) (.slice S' n' c')).setCell (p := ⟨G, 1, none⟩) (by show w.heap.size ≤ G; omega) (.slice D' m' d')).setCell (p := ⟨G, 2, none⟩) (by show w.heap.size ≤ G; omega) (.int .i64 ch)
        replace BB := Lib.hid (((BB.out.far (p := ⟨G, 0, none⟩) (by show w.heap.size ≠ G; omega) (.slice S' n' c')).far (p := ⟨G, 1, none⟩) (by show w.heap.size ≠ G; omega) (.slice D' m' d')).far (p := ⟨G, 2, none⟩) (by show w.heap.size ≠ G; omega) (.int .i64 ch))
        replace BR := Lib.hid (((BR.out.far (p := ⟨G, 0, none⟩) (by show w.heap.size + 1 ≠ G; omega) (.slice S' n' c')).far (p := ⟨G, 1, none⟩) (by show w.heap.size + 1 ≠ G; omega) (.slice D' m' d')).far (p := ⟨G, 2, none⟩) (by show w.heap.size + 1 ≠ G; omega) (.int .i64 ch))
        replace BM := Lib.hid (((BM.out.far (p := ⟨G, 0, none⟩) (by show GP ≠ G; omega) (.slice S' n' c')).far (p := ⟨G, 1, none⟩) (by show GP ≠ G; omega) (.slice D' m' d')).far (p := ⟨G, 2, none⟩) (by show GP ≠ G; omega) (.int .i64 ch))
        replace BA : Hid (Blk (((Wo3.setCell ⟨G, 0, none⟩ (.slice S' n' c')).setCell ⟨G, 1, none⟩ (.slice D' m' d')).setCell ⟨G, 2, none⟩ (.int .i64 ch)) G 26 #[.slice S' n' c', .slice D' m' d', .int .i64 ch]) := Lib.hid (((BA.out.set_ 0 _).set_ 1 _).set_ 2 _)
        replace OC := Lib.hid (((OC.out.off (grownBy_one _ ⟨G, 0, none⟩ (.slice S' n' c')) rCG).off (grownBy_one _ ⟨G, 1, none⟩ (.slice D' m' d')) rCG).off (grownBy_one _ ⟨G, 2, none⟩ (.int .i64 ch)) rCG)
        replace hC2 : _ ≤ (((Wo3.setCell ⟨G, 0, none⟩ (.slice S' n' c')).setCell ⟨G, 1, none⟩ (.slice D' m' d')).setCell ⟨G, 2, none⟩ (.int .i64 ch)).heap.size := Nat.le_trans hC2 (by simp [World.setCell])
        have hS := (show (fun W' : World => W'.cell? ⟨w.heap.size, 0, none⟩ = some (.slice S n c) ∧ W'.cell? ⟨w.heap.size, 1, none⟩ = some (.slice D m d) ∧ W'.cell? ⟨w.heap.size, 2, none⟩ = some (.int .i64 ch)) (((Wo3.setCell ⟨G, 0, none⟩ (.slice S' n' c')).setCell ⟨G, 1, none⟩ (.slice D' m' d')).setCell ⟨G, 2, none⟩ (.int .i64 ch)) from ⟨BB.out.cell 0, BB.out.cell 1, BB.out.cell 2⟩)
        refine hK _ _ (fun _ => hS) ?_; clear hK K; (try simp only [Act.put, List.setIfInBounds_toArray, List.set_cons_zero, List.set_cons_succ])
        clear o0 o1 o2 p0 p1 p2
        generalize ((Wo3.setCell ⟨G, 0, none⟩ (.slice S' n' c')).setCell ⟨G, 1, none⟩ (.slice D' m' d')).setCell ⟨G, 2, none⟩ (.int .i64 ch) = Wo4 at *
        refine wpAnyD_one (i := 8) rfl (by kernel_rfl) (fun K hK => ?_)
        go_simp
        refine hK _ _ (fun h => absurd rfl h) ?_; clear hK K
        refine wpAnyD_done (by kernel_rfl) ?_ _
        go_wp2_with fail
        go_meet
        case rel => exact ⟨G, GP, S', n', c', D', m', d', rfl, rfl, hB, BB, BR, Lib.hid ⟨⟨by omega, by omega, by omega⟩, BA.out, ⟨cs0, BM.out, hz.out⟩, OC.out, fun q e => by have := rC.out q e; omega⟩⟩
      · go_simp
        have hb := al_ Wo1 (.cells #[.slice none 0 0, .slice none 0 0, .int .i64 0] 26)
        have BA : Hid (Blk (Wo1.alloc (.cells #[.slice none 0 0, .slice none 0 0, .int .i64 0] 26)) Wo1.heap.size 26 #[.slice none 0 0, .slice none 0 0, .int .i64 0]) := Lib.hid (Blk.new _ _ _)
        have kG := BR.out.lt
        have kCG := hC2
        replace hB := bel_step hB hb
        replace BB := Lib.hid (blk_later BB.out hb)
        replace BR := Lib.hid (blk_later BR.out hb)
        replace OC := Lib.hid (OC.out.later hb)
        replace hC2 := Nat.le_trans hC2 hb.size
        clear hb
        have hS := (show (fun W' : World => W'.cell? ⟨w.heap.size, 0, none⟩ = some (.slice S n c) ∧ W'.cell? ⟨w.heap.size, 1, none⟩ = some (.slice D m d) ∧ W'.cell? ⟨w.heap.size, 2, none⟩ = some (.int .i64 ch)) (Wo1.alloc (.cells #[.slice none 0 0, .slice none 0 0, .int .i64 0] 26)) from ⟨BB.out.cell 0, BB.out.cell 1, BB.out.cell 2⟩)
        refine hK _ _ (fun _ => hS) ?_; clear hK K; (try simp only [Act.put, List.setIfInBounds_toArray, List.set_cons_zero, List.set_cons_succ])
        generalize Wo1.alloc (.cells #[.slice none 0 0, .slice none 0 0, .int .i64 0] 26) = Wo5 at *
        generalize hgG : Wo1.heap.size = G at *
        refine wpAnyD_two (i := 5) (j := 7) rfl rfl (by kernel_rfl) (fun K hK => ?_) (fun K hK => ?_)
        · have kGA := BA.out.lt
          go_simp
          have hb := al_ Wo5 (.cells cs0 2)
          have BM : Hid (Blk (Wo5.alloc (.cells cs0 2)) Wo5.heap.size 2 cs0) := Lib.hid (Blk.new _ _ _)
          have kGP := BR.out.lt
          have kCGP := hC2
          replace hB := bel_step hB hb
          replace BB := Lib.hid (blk_later BB.out hb)
          replace BR := Lib.hid (blk_later BR.out hb)
          replace BA := Lib.hid (blk_later BA.out hb)
          replace OC := Lib.hid (OC.out.later hb)
          replace hC2 := Nat.le_trans hC2 hb.size
          clear hb
          have hS := (show (fun W' : World => W'.cell? ⟨w.heap.size, 0, none⟩ = some (.slice S n c) ∧ W'.cell? ⟨w.heap.size, 1, none⟩ = some (.slice D m d) ∧ W'.cell? ⟨w.heap.size, 2, none⟩ = some (.int .i64 ch)) (Wo5.alloc (.cells cs0 2)) from ⟨BB.out.cell 0, BB.out.cell 1, BB.out.cell 2⟩)
          refine hK _ _ (fun _ => hS) ?_; clear hK K; (try simp only [Act.put, List.setIfInBounds_toArray, List.set_cons_zero, List.set_cons_succ])
          generalize Wo5.alloc (.cells cs0 2) = Wo6 at *
          generalize hgGP : Wo5.heap.size = GP at *
          refine wpAnyD_one (i := 7) rfl (by kernel_rfl) (fun K hK => ?_)
          obtain ⟨⟨o0, o1, o2⟩, p0, p1, p2⟩ := r3_cells BA.out
          go_simp
          have hlA := BA.out.lt
          have rCG : ∀ q, (Value.slice S' n' c').ownBlock = some q ∨ (Value.slice D' m' d').ownBlock = some q → q ≠ G := fun q e => by have := rC.out q e; omega
          replace hB := ((hB.setCell (p := ⟨G, 0, none⟩) (by show w.heap.size ≤ G; omega) (.slice S' n' c')).setCell (p := ⟨G, 1, none⟩) (by show w.heap.size ≤ G; omega) (.slice D' m' d')).setCell (p := ⟨G, 2, none⟩) (by show w.heap.size ≤ G; omega) (.int .i64 ch)
          replace BB := Lib.hid (((BB.out.far (p := ⟨G, 0, none⟩) (by show w.heap.size ≠ G; omega) (.slice S' n' c')).far (p := ⟨G, 1, none⟩) (by show w.heap.size ≠ G; omega) (.slice D' m' d')).far (p := ⟨G, 2, none⟩) (by show w.heap.size ≠ G; omega) (.int .i64 ch))
          replace BR := Lib.hid (((BR.out.far (p := ⟨G, 0, none⟩) (by show w.heap.size + 1 ≠ G; omega) (.slice S' n' c')).far (p := ⟨G, 1, none⟩) (by show w.heap.size + 1 ≠ G; omega) (.slice D' m' d')).far (p := ⟨G, 2, none⟩) (by show w.heap.size + 1 ≠ G; omega) (.int .i64 ch))
          replace BM := Lib.hid (((BM.out.far (p := ⟨G, 0, none⟩) (by show GP ≠ G; omega) (.slice S' n' c')).far (p := ⟨G, 1, none⟩) (by show GP ≠ G; omega) (.slice D' m' d')).far (p := ⟨G, 2, none⟩) (by show GP ≠ G; omega) (.int .i64 ch))
          replace BA : Hid (Blk (((Wo6.setCell ⟨G, 0, none⟩ (.slice S' n' c')).setCell ⟨G, 1, none⟩ (.slice D' m' d')).setCell ⟨G, 2, none⟩ (.int .i64 ch)) G 26 #[.slice S' n' c', .slice D' m' d', .int .i64 ch]) := Lib.hid (((BA.out.set_ 0 _).set_ 1 _).set_ 2 _)
          replace OC := Lib.hid (((OC.out.off (grownBy_one _ ⟨G, 0, none⟩ (.slice S' n' c')) rCG).off (grownBy_one _ ⟨G, 1, none⟩ (.slice D' m' d')) rCG).off (grownBy_one _ ⟨G, 2, none⟩ (.int .i64 ch)) rCG)
          replace hC2 : _ ≤ (((Wo6.setCell ⟨G, 0, none⟩ (.slice S' n' c')).setCell ⟨G, 1, none⟩ (.slice D' m' d')).setCell ⟨G, 2, none⟩ (.int .i64 ch)).heap.size := Nat.le_trans hC2 (by simp [World.setCell])
          have hS := (show (fun W' : World => W'.cell? ⟨w.heap.size, 0, none⟩ = some (.slice S n c) ∧ W'.cell? ⟨w.heap.size, 1, none⟩ = some (.slice D m d) ∧ W'.cell? ⟨w.heap.size, 2, none⟩ = some (.int .i64 ch)) (((Wo6.setCell ⟨G, 0, none⟩ (.slice S' n' c')).setCell ⟨G, 1, none⟩ (.slice D' m' d')).setCell ⟨G, 2, none⟩ (.int .i64 ch)) from ⟨BB.out.cell 0, BB.out.cell 1, BB.out.cell 2⟩)
          refine hK _ _ (fun _ => hS) ?_; clear hK K; (try simp only [Act.put, List.setIfInBounds_toArray, List.set_cons_zero, List.set_cons_succ])
          clear o0 o1 o2 p0 p1 p2
          generalize ((Wo6.setCell ⟨G, 0, none⟩ (.slice S' n' c')).setCell ⟨G, 1, none⟩ (.slice D' m' d')).setCell ⟨G, 2, none⟩ (.int .i64 ch) = Wo7 at *
          refine wpAnyD_one (i := 8) rfl (by kernel_rfl) (fun K hK => ?_)
          go_simp
          refine hK _ _ (fun h => absurd rfl h) ?_; clear hK K
          refine wpAnyD_done (by kernel_rfl) ?_ _
          go_wp2_with fail
          go_meet
          case rel => exact ⟨G, GP, S', n', c', D', m', d', rfl, rfl, hB, BB, BR, Lib.hid ⟨⟨by omega, by omega, by omega⟩, BA.out, ⟨cs0, BM.out, hz.out⟩, OC.out, fun q e => by have := rC.out q e; omega⟩⟩
        · obtain ⟨⟨o0, o1, o2⟩, p0, p1, p2⟩ := r3_cells BA.out
          go_simp
          have hlA := BA.out.lt
          have rCG : ∀ q, (Value.slice S' n' c').ownBlock = some q ∨ (Value.slice D' m' d').ownBlock = some q → q ≠ G := fun q e => by have := rC.out q e; omega
          replace hB := ((hB.setCell (p := ⟨G, 0, none⟩) (by show w.heap.size ≤ G; omega) (.slice S' n' c')).setCell (p := ⟨G, 1, none⟩) (by show w.heap.size ≤ G; omega) (.slice D' m' d')).setCell (p := ⟨G, 2, none⟩) (by show w.heap.size ≤ G; omega) (.int .i64 ch)
          replace BB := Lib.hid (((BB.out.far (p := ⟨G, 0, none⟩) (by show w.heap.size ≠ G; omega) (.slice S' n' c')).far (p := ⟨G, 1, none⟩) (by show w.heap.size ≠ G; omega) (.slice D' m' d')).far (p := ⟨G, 2, none⟩) (by show w.heap.size ≠ G; omega) (.int .i64 ch))
          replace BR := Lib.hid (((BR.out.far (p := ⟨G, 0, none⟩) (by show w.heap.size + 1 ≠ G; omega) (.slice S' n' c')).far (p := ⟨G, 1, none⟩) (by show w.heap.size + 1 ≠ G; omega) (.slice D' m' d')).far (p := ⟨G, 2, none⟩) (by show w.heap.size + 1 ≠ G; omega) (.int .i64 ch))
          replace BA : Hid (Blk (((Wo5.setCell ⟨G, 0, none⟩ (.slice S' n' c')).setCell ⟨G, 1, none⟩ (.slice D' m' d')).setCell ⟨G, 2, none⟩ (.int .i64 ch)) G 26 #[.slice S' n' c', .slice D' m' d', .int .i64 ch]) := Lib.hid (((BA.out.set_ 0 _).set_ 1 _).set_ 2 _)
          replace OC := Lib.hid (((OC.out.off (grownBy_one _ ⟨G, 0, none⟩ (.slice S' n' c')) rCG).off (grownBy_one _ ⟨G, 1, none⟩ (.slice D' m' d')) rCG).off (grownBy_one _ ⟨G, 2, none⟩ (.int .i64 ch)) rCG)
          replace hC2 : _ ≤ (((Wo5.setCell ⟨G, 0, none⟩ (.slice S' n' c')).setCell ⟨G, 1, none⟩ (.slice D' m' d')).setCell ⟨G, 2, none⟩ (.int .i64 ch)).heap.size := Nat.le_trans hC2 (by simp [World.setCell])
          have hS := (show (fun W' : World => W'.cell? ⟨w.heap.size, 0, none⟩ = some (.slice S n c) ∧ W'.cell? ⟨w.heap.size, 1, none⟩ = some (.slice D m d) ∧ W'.cell? ⟨w.heap.size, 2, none⟩ = some (.int .i64 ch)) (((Wo5.setCell ⟨G, 0, none⟩ (.slice S' n' c')).setCell ⟨G, 1, none⟩ (.slice D' m' d')).setCell ⟨G, 2, none⟩ (.int .i64 ch)) from ⟨BB.out.cell 0, BB.out.cell 1, BB.out.cell 2⟩)
          refine hK _ _ (fun _ => hS) ?_; clear hK K; (try simp only [Act.put, List.setIfInBounds_toArray, List.set_cons_zero, List.set_cons_succ])
          clear o0 o1 o2 p0 p1 p2
          generalize ((Wo5.setCell ⟨G, 0, none⟩ (.slice S' n' c')).setCell ⟨G, 1, none⟩ (.slice D' m' d')).setCell ⟨G, 2, none⟩ (.int .i64 ch) = Wo8 at *
          refine wpAnyD_one (i := 5) rfl (by kernel_rfl) (fun K hK => ?_)
          have kGA := BA.out.lt
          go_simp
          have hb := al_ Wo8 (.cells cs0 2)
          have BM : Hid (Blk (Wo8.alloc (.cells cs0 2)) Wo8.heap.size 2 cs0) := Lib.hid (Blk.new _ _ _)
          have kGP := BR.out.lt
          have kCGP := hC2
          replace hB := bel_step hB hb
          replace BB := Lib.hid (blk_later BB.out hb)
          replace BR := Lib.hid (blk_later BR.out hb)
          replace BA := Lib.hid (blk_later BA.out hb)
          replace OC := Lib.hid (OC.out.later hb)
          replace hC2 := Nat.le_trans hC2 hb.size
          clear hb
          have hS := (show (fun W' : World => W'.cell? ⟨w.heap.size, 0, none⟩ = some (.slice S n c) ∧ W'.cell? ⟨w.heap.size, 1, none⟩ = some (.slice D m d) ∧ W'.cell? ⟨w.heap.size, 2, none⟩ = some (.int .i64 ch)) (Wo8.alloc (.cells cs0 2)) from ⟨BB.out.cell 0, BB.out.cell 1, BB.out.cell 2⟩)
          refine hK _ _ (fun _ => hS) ?_; clear hK K; (try simp only [Act.put, List.setIfInBounds_toArray, List.set_cons_zero, List.set_cons_succ])
          generalize Wo8.alloc (.cells cs0 2) = Wo9 at *
          generalize hgGP : Wo8.heap.size = GP at *
          refine wpAnyD_one (i := 8) rfl (by kernel_rfl) (fun K hK => ?_)
          go_simp
          refine hK _ _ (fun h => absurd rfl h) ?_; clear hK K
          refine wpAnyD_done (by kernel_rfl) ?_ _
          go_wp2_with fail
          go_meet
          case rel => exact ⟨G, GP, S', n', c', D', m', d', rfl, rfl, hB, BB, BR, Lib.hid ⟨⟨by omega, by omega, by omega⟩, BA.out, ⟨cs0, BM.out, hz.out⟩, OC.out, fun q e => by have := rC.out q e; omega⟩⟩
    · go_simp
      have hb := al_ Wd (.cells cs0 2)
      have BM : Hid (Blk (Wd.alloc (.cells cs0 2)) Wd.heap.size 2 cs0) := Lib.hid (Blk.new _ _ _)
      have kGP := BR.out.lt
      replace hB := bel_step hB hb
      replace BB := Lib.hid (blk_later BB.out hb)
      replace BR := Lib.hid (blk_later BR.out hb)
      clear hb
      have hS := (show (fun W' : World => W'.cell? ⟨w.heap.size, 0, none⟩ = some (.slice S n c) ∧ W'.cell? ⟨w.heap.size, 1, none⟩ = some (.slice D m d) ∧ W'.cell? ⟨w.heap.size, 2, none⟩ = some (.int .i64 ch)) (Wd.alloc (.cells cs0 2)) from ⟨BB.out.cell 0, BB.out.cell 1, BB.out.cell 2⟩)
      refine hK _ _ (fun _ => hS) ?_; clear hK K; (try simp only [Act.put, List.setIfInBounds_toArray, List.set_cons_zero, List.set_cons_succ])
      generalize Wd.alloc (.cells cs0 2) = Wo10 at *
      generalize hgGP : Wd.heap.size = GP at *
      refine wpAnyD_two (i := 1) (j := 6) rfl rfl (by kernel_rfl) (fun K hK => ?_) (fun K hK => ?_)
      · have kM := BM.out.lt
        go_simp
        (with_reducible refine Calls.mono (H1.out _ hB) ?_)
        rintro ee Wo11 ⟨S', n', c', D', m', d', rfl, ho, hb⟩
        dsimp only
        have rC := Lib.hid ho.rowsB
        have OC := Lib.hid (ho.mono (show w.heap.size + 2 ≤ _ from BR.out.lt))
        have hC2 : Wo11.heap.size ≤ Wo11.heap.size := Nat.le_refl _
        replace hB := bel_step hB hb
        replace BB := Lib.hid (blk_later BB.out hb)
        replace BR := Lib.hid (blk_later BR.out hb)
        replace BM := Lib.hid (blk_later BM.out hb)
        clear ho hb
        have hS := (show (fun W' : World => W'.cell? ⟨w.heap.size, 0, none⟩ = some (.slice S n c) ∧ W'.cell? ⟨w.heap.size, 1, none⟩ = some (.slice D m d) ∧ W'.cell? ⟨w.heap.size, 2, none⟩ = some (.int .i64 ch)) Wo11 from ⟨BB.out.cell 0, BB.out.cell 1, BB.out.cell 2⟩)
        refine hK _ _ (fun _ => hS) ?_; clear hK K; (try simp only [Act.put, List.setIfInBounds_toArray, List.set_cons_zero, List.set_cons_succ])
        refine wpAnyD_one (i := 6) rfl (by kernel_rfl) (fun K hK => ?_)
        have kGA := BM.out.lt
        go_simp
        have hb := al_ Wo11 (.cells #[.slice none 0 0, .slice none 0 0, .int .i64 0] 26)
        have BA : Hid (Blk (Wo11.alloc (.cells #[.slice none 0 0, .slice none 0 0, .int .i64 0] 26)) Wo11.heap.size 26 #[.slice none 0 0, .slice none 0 0, .int .i64 0]) := Lib.hid (Blk.new _ _ _)
        have kG := BR.out.lt
        have kCG := hC2
        replace hB := bel_step hB hb
        replace BB := Lib.hid (blk_later BB.out hb)
        replace BR := Lib.hid (blk_later BR.out hb)
        replace BM := Lib.hid (blk_later BM.out hb)
        replace OC := Lib.hid (OC.out.later hb)
        replace hC2 := Nat.le_trans hC2 hb.size
        clear hb
        have hS := (show (fun W' : World => W'.cell? ⟨w.heap.size, 0, none⟩ = some (.slice S n c) ∧ W'.cell? ⟨w.heap.size, 1, none⟩ = some (.slice D m d) ∧ W'.cell? ⟨w.heap.size, 2, none⟩ = some (.int .i64 ch)) (Wo11.alloc (.cells #[.slice none 0 0, .slice none 0 0, .int .i64 0] 26)) from ⟨BB.out.cell 0, BB.out.cell 1, BB.out.cell 2⟩)
        refine hK _ _ (fun _ => hS) ?_; clear hK K; (try simp only [Act.put, List.setIfInBounds_toArray, List.set_cons_zero, List.set_cons_succ])
        generalize Wo11.alloc (.cells #[.slice none 0 0, .slice none 0 0, .int .i64 0] 26) = Wo12 at *
        generalize hgG : Wo11.heap.size = G at *
        refine wpAnyD_one (i := 7) rfl (by kernel_rfl) (fun K hK => ?_)
        obtain ⟨⟨o0, o1, o2⟩, p0, p1, p2⟩ := r3_cells BA.out
        go_simp
        have hlA := BA.out.lt
        have rCG : ∀ q, (Value.slice S' n' c').ownBlock = some q ∨ (Value.slice D' m' d').ownBlock = some q → q ≠ G := fun q e => by have := rC.out q e; omega
        replace hB := ((hB.setCell (p := ⟨G, 0, none⟩) (by show w.heap.size ≤ G; omega) (.slice S' n' c')).setCell (p := ⟨G, 1, none⟩) (by show w.heap.size ≤ G; omega) (.slice D' m' d')).setCell (p := ⟨G, 2, none⟩) (by show w.heap.size ≤ G; omega) (.int .i64 ch)
        replace BB := Lib.hid (((BB.out.far (p := ⟨G, 0, none⟩) (by show w.heap.size ≠ G; omega) (.slice S' n' c')).far (p := ⟨G, 1, none⟩) (by show w.heap.size ≠ G; omega) (.slice D' m' d')).far (p := ⟨G, 2, none⟩) (by show w.heap.size ≠ G; omega) (.int .i64 ch))
        replace BR := Lib.hid (((BR.out.far (p := ⟨G, 0, none⟩) (by show w.heap.size + 1 ≠ G; omega) (.slice S' n' c')).far (p := ⟨G, 1, none⟩) (by show w.heap.size + 1 ≠ G; omega) (.slice D' m' d')).far (p := ⟨G, 2, none⟩) (by show w.heap.size + 1 ≠ G; omega) (.int .i64 ch))
        replace BM := Lib.hid (((BM.out.far (p := ⟨G, 0, none⟩) (by show GP ≠ G; omega) (.slice S' n' c')).far (p := ⟨G, 1, none⟩) (by show GP ≠ G; omega) (.slice D' m' d')).far (p := ⟨G, 2, none⟩) (by show GP ≠ G; omega) (.int .i64 ch))
        replace BA : Hid (Blk (((Wo12.setCell ⟨G, 0, none⟩ (.slice S' n' c')).setCell ⟨G, 1, none⟩ (.slice D' m' d')).setCell ⟨G, 2, none⟩ (.int .i64 ch)) G 26 #[.slice S' n' c', .slice D' m' d', .int .i64 ch]) := Lib.hid (((BA.out.set_ 0 _).set_ 1 _).set_ 2 _)
        replace OC := Lib.hid (((OC.out.off (grownBy_one _ ⟨G, 0, none⟩ (.slice S' n' c')) rCG).off (grownBy_one _ ⟨G, 1, none⟩ (.slice D' m' d')) rCG).off (grownBy_one _ ⟨G, 2, none⟩ (.int .i64 ch)) rCG)
        replace hC2 : _ ≤ (((Wo12.setCell ⟨G, 0, none⟩ (.slice S' n' c')).setCell ⟨G, 1, none⟩ (.slice D' m' d')).setCell ⟨G, 2, none⟩ (.int .i64 ch)).heap.size := Nat.le_trans hC2 (by simp [World.setCell])
        have hS := (show (fun W' : World => W'.cell? ⟨w.heap.size, 0, none⟩ = some (.slice S n c) ∧ W'.cell? ⟨w.heap.size, 1, none⟩ = some (.slice D m d) ∧ W'.cell? ⟨w.heap.size, 2, none⟩ = some (.int .i64 ch)) (((Wo12.setCell ⟨G, 0, none⟩ (.slice S' n' c')).setCell ⟨G, 1, none⟩ (.slice D' m' d')).setCell ⟨G, 2, none⟩ (.int .i64 ch)) from ⟨BB.out.cell 0, BB.out.cell 1, BB.out.cell 2⟩)
        refine hK _ _ (fun _ => hS) ?_; clear hK K; (try simp only [Act.put, List.setIfInBounds_toArray, List.set_cons_zero, List.set_cons_succ])
        clear o0 o1 o2 p0 p1 p2
        generalize ((Wo12.setCell ⟨G, 0, none⟩ (.slice S' n' c')).setCell ⟨G, 1, none⟩ (.slice D' m' d')).setCell ⟨G, 2, none⟩ (.int .i64 ch) = Wo13 at *
        refine wpAnyD_one (i := 8) rfl (by kernel_rfl) (fun K hK => ?_)
        go_simp
        refine hK _ _ (fun h => absurd rfl h) ?_; clear hK K
        refine wpAnyD_done (by kernel_rfl) ?_ _
        go_wp2_with fail
        go_meet
        case rel => exact ⟨G, GP, S', n', c', D', m', d', rfl, rfl, hB, BB, BR, Lib.hid ⟨⟨by omega, by omega, by omega⟩, BA.out, ⟨cs0, BM.out, hz.out⟩, OC.out, fun q e => by have := rC.out q e; omega⟩⟩
      · have kGA := BM.out.lt
        go_simp
        have hb := al_ Wo10 (.cells #[.slice none 0 0, .slice none 0 0, .int .i64 0] 26)
        have BA : Hid (Blk (Wo10.alloc (.cells #[.slice none 0 0, .slice none 0 0, .int .i64 0] 26)) Wo10.heap.size 26 #[.slice none 0 0, .slice none 0 0, .int .i64 0]) := Lib.hid (Blk.new _ _ _)
        have kG := BR.out.lt
        replace hB := bel_step hB hb
        replace BB := Lib.hid (blk_later BB.out hb)
        replace BR := Lib.hid (blk_later BR.out hb)
        replace BM := Lib.hid (blk_later BM.out hb)
        clear hb
        have hS := (show (fun W' : World => W'.cell? ⟨w.heap.size, 0, none⟩ = some (.slice S n c) ∧ W'.cell? ⟨w.heap.size, 1, none⟩ = some (.slice D m d) ∧ W'.cell? ⟨w.heap.size, 2, none⟩ = some (.int .i64 ch)) (Wo10.alloc (.cells #[.slice none 0 0, .slice none 0 0, .int .i64 0] 26)) from ⟨BB.out.cell 0, BB.out.cell 1, BB.out.cell 2⟩)
        refine hK _ _ (fun _ => hS) ?_; clear hK K; (try simp only [Act.put, List.setIfInBounds_toArray, List.set_cons_zero, List.set_cons_succ])
        generalize Wo10.alloc (.cells #[.slice none 0 0, .slice none 0 0, .int .i64 0] 26) = Wo14 at *
        generalize hgG : Wo10.heap.size = G at *
        refine wpAnyD_one (i := 1) rfl (by kernel_rfl) (fun K hK => ?_)
        have kM := BM.out.lt
        have kA := BA.out.lt
        go_simp
        (with_reducible refine Calls.mono (H1.out _ hB) ?_)
        rintro ee Wo15 ⟨S', n', c', D', m', d', rfl, ho, hb⟩
        dsimp only
        have rC := Lib.hid ho.rowsB
        have OC := Lib.hid (ho.mono (show w.heap.size + 2 ≤ _ from BR.out.lt))
        have hC2 : Wo15.heap.size ≤ Wo15.heap.size := Nat.le_refl _
        replace hB := bel_step hB hb
        replace BB := Lib.hid (blk_later BB.out hb)
        replace BR := Lib.hid (blk_later BR.out hb)
        replace BM := Lib.hid (blk_later BM.out hb)
        replace BA := Lib.hid (blk_later BA.out hb)
        clear ho hb
        have hS := (show (fun W' : World => W'.cell? ⟨w.heap.size, 0, none⟩ = some (.slice S n c) ∧ W'.cell? ⟨w.heap.size, 1, none⟩ = some (.slice D m d) ∧ W'.cell? ⟨w.heap.size, 2, none⟩ = some (.int .i64 ch)) Wo15 from ⟨BB.out.cell 0, BB.out.cell 1, BB.out.cell 2⟩)
        refine hK _ _ (fun _ => hS) ?_; clear hK K; (try simp only [Act.put, List.setIfInBounds_toArray, List.set_cons_zero, List.set_cons_succ])
        refine wpAnyD_one (i := 7) rfl (by kernel_rfl) (fun K hK => ?_)
        obtain ⟨⟨o0, o1, o2⟩, p0, p1, p2⟩ := r3_cells BA.out
        go_simp
        have hlA := BA.out.lt
        have rCG : ∀ q, (Value.slice S' n' c').ownBlock = some q ∨ (Value.slice D' m' d').ownBlock = some q → q ≠ G := fun q e => by have := rC.out q e; omega
        replace hB := ((hB.setCell (p := ⟨G, 0, none⟩) (by show w.heap.size ≤ G; omega) (.slice S' n' c')).setCell (p := ⟨G, 1, none⟩) (by show w.heap.size ≤ G; omega) (.slice D' m' d')).setCell (p := ⟨G, 2, none⟩) (by show w.heap.size ≤ G; omega) (.int .i64 ch)
        replace BB := Lib.hid (((BB.out.far (p := ⟨G, 0, none⟩) (by show w.heap.size ≠ G; omega) (.slice S' n' c')).far (p := ⟨G, 1, none⟩) (by show w.heap.size ≠ G; omega) (.slice D' m' d')).far (p := ⟨G, 2, none⟩) (by show w.heap.size ≠ G; omega) (.int .i64 ch))
        replace BR := Lib.hid (((BR.out.far (p := ⟨G, 0, none⟩) (by show w.heap.size + 1 ≠ G; omega) (.slice S' n' c')).far (p := ⟨G, 1, none⟩) (by show w.heap.size + 1 ≠ G; omega) (.slice D' m' d')).far (p := ⟨G, 2, none⟩) (by show w.heap.size + 1 ≠ G; omega) (.int .i64 ch))
        replace BM := Lib.hid (((BM.out.far (p := ⟨G, 0, none⟩) (by show GP ≠ G; omega) (.slice S' n' c')).far (p := ⟨G, 1, none⟩) (by show GP ≠ G; omega) (.slice D' m' d')).far (p := ⟨G, 2, none⟩) (by show GP ≠ G; omega) (.int .i64 ch))
        replace BA : Hid (Blk (((Wo15.setCell ⟨G, 0, none⟩ (.slice S' n' c')).setCell ⟨G, 1, none⟩ (.slice D' m' d')).setCell ⟨G, 2, none⟩ (.int .i64 ch)) G 26 #[.slice S' n' c', .slice D' m' d', .int .i64 ch]) := Lib.hid (((BA.out.set_ 0 _).set_ 1 _).set_ 2 _)
        replace OC := Lib.hid (((OC.out.off (grownBy_one _ ⟨G, 0, none⟩ (.slice S' n' c')) rCG).off (grownBy_one _ ⟨G, 1, none⟩ (.slice D' m' d')) rCG).off (grownBy_one _ ⟨G, 2, none⟩ (.int .i64 ch)) rCG)
        replace hC2 : _ ≤ (((Wo15.setCell ⟨G, 0, none⟩ (.slice S' n' c')).setCell ⟨G, 1, none⟩ (.slice D' m' d')).setCell ⟨G, 2, none⟩ (.int .i64 ch)).heap.size := Nat.le_trans hC2 (by simp [World.setCell])
        have hS := (show (fun W' : World => W'.cell? ⟨w.heap.size, 0, none⟩ = some (.slice S n c) ∧ W'.cell? ⟨w.heap.size, 1, none⟩ = some (.slice D m d) ∧ W'.cell? ⟨w.heap.size, 2, none⟩ = some (.int .i64 ch)) (((Wo15.setCell ⟨G, 0, none⟩ (.slice S' n' c')).setCell ⟨G, 1, none⟩ (.slice D' m' d')).setCell ⟨G, 2, none⟩ (.int .i64 ch)) from ⟨BB.out.cell 0, BB.out.cell 1, BB.out.cell 2⟩)
        refine hK _ _ (fun _ => hS) ?_; clear hK K; (try simp only [Act.put, List.setIfInBounds_toArray, List.set_cons_zero, List.set_cons_succ])
        clear o0 o1 o2 p0 p1 p2
        generalize ((Wo15.setCell ⟨G, 0, none⟩ (.slice S' n' c')).setCell ⟨G, 1, none⟩ (.slice D' m' d')).setCell ⟨G, 2, none⟩ (.int .i64 ch) = Wo16 at *
        refine wpAnyD_one (i := 8) rfl (by kernel_rfl) (fun K hK => ?_)
        go_simp
        refine hK _ _ (fun h => absurd rfl h) ?_; clear hK K
        refine wpAnyD_done (by kernel_rfl) ?_ _
        go_wp2_with fail
        go_meet
        case rel => exact ⟨G, GP, S', n', c', D', m', d', rfl, rfl, hB, BB, BR, Lib.hid ⟨⟨by omega, by omega, by omega⟩, BA.out, ⟨cs0, BM.out, hz.out⟩, OC.out, fun q e => by have := rC.out q e; omega⟩⟩
    · go_simp
      have hb := al_ Wd (.cells #[.slice none 0 0, .slice none 0 0, .int .i64 0] 26)
      have BA : Hid (Blk (Wd.alloc (.cells #[.slice none 0 0, .slice none 0 0, .int .i64 0] 26)) Wd.heap.size 26 #[.slice none 0 0, .slice none 0 0, .int .i64 0]) := Lib.hid (Blk.new _ _ _)
      have kG := BR.out.lt
      replace hB := bel_step hB hb
      replace BB := Lib.hid (blk_later BB.out hb)
      replace BR := Lib.hid (blk_later BR.out hb)
      clear hb
      have hS := (show (fun W' : World => W'.cell? ⟨w.heap.size, 0, none⟩ = some (.slice S n c) ∧ W'.cell? ⟨w.heap.size, 1, none⟩ = some (.slice D m d) ∧ W'.cell? ⟨w.heap.size, 2, none⟩ = some (.int .i64 ch)) (Wd.alloc (.cells #[.slice none 0 0, .slice none 0 0, .int .i64 0] 26)) from ⟨BB.out.cell 0, BB.out.cell 1, BB.out.cell 2⟩)
      refine hK _ _ (fun _ => hS) ?_; clear hK K; (try simp only [Act.put, List.setIfInBounds_toArray, List.set_cons_zero, List.set_cons_succ])
      generalize Wd.alloc (.cells #[.slice none 0 0, .slice none 0 0, .int .i64 0] 26) = Wo17 at *
      generalize hgG : Wd.heap.size = G at *
      refine wpAnyD_two (i := 1) (j := 5) rfl rfl (by kernel_rfl) (fun K hK => ?_) (fun K hK => ?_)
      · have kA := BA.out.lt
        go_simp
        (with_reducible refine Calls.mono (H1.out _ hB) ?_)
        rintro ee Wo18 ⟨S', n', c', D', m', d', rfl, ho, hb⟩
        dsimp only
        have rC := Lib.hid ho.rowsB
        have OC := Lib.hid (ho.mono (show w.heap.size + 2 ≤ _ from BR.out.lt))
        have hC2 : Wo18.heap.size ≤ Wo18.heap.size := Nat.le_refl _
        replace hB := bel_step hB hb
        replace BB := Lib.hid (blk_later BB.out hb)
        replace BR := Lib.hid (blk_later BR.out hb)
        replace BA := Lib.hid (blk_later BA.out hb)
        clear ho hb
        have hS := (show (fun W' : World => W'.cell? ⟨w.heap.size, 0, none⟩ = some (.slice S n c) ∧ W'.cell? ⟨w.heap.size, 1, none⟩ = some (.slice D m d) ∧ W'.cell? ⟨w.heap.size, 2, none⟩ = some (.int .i64 ch)) Wo18 from ⟨BB.out.cell 0, BB.out.cell 1, BB.out.cell 2⟩)
        refine hK _ _ (fun _ => hS) ?_; clear hK K; (try simp only [Act.put, List.setIfInBounds_toArray, List.set_cons_zero, List.set_cons_succ])
        refine wpAnyD_two (i := 5) (j := 7) rfl rfl (by kernel_rfl) (fun K hK => ?_) (fun K hK => ?_)
        · have kGA := BA.out.lt
          go_simp
          have hb := al_ Wo18 (.cells cs0 2)
          have BM : Hid (Blk (Wo18.alloc (.cells cs0 2)) Wo18.heap.size 2 cs0) := Lib.hid (Blk.new _ _ _)
          have kGP := BR.out.lt
          have kCGP := hC2
          replace hB := bel_step hB hb
          replace BB := Lib.hid (blk_later BB.out hb)
          replace BR := Lib.hid (blk_later BR.out hb)
          replace BA := Lib.hid (blk_later BA.out hb)
          replace OC := Lib.hid (OC.out.later hb)
          replace hC2 := Nat.le_trans hC2 hb.size
          clear hb
          have hS := (show (fun W' : World => W'.cell? ⟨w.heap.size, 0, none⟩ = some (.slice S n c) ∧ W'.cell? ⟨w.heap.size, 1, none⟩ = some (.slice D m d) ∧ W'.cell? ⟨w.heap.size, 2, none⟩ = some (.int .i64 ch)) (Wo18.alloc (.cells cs0 2)) from ⟨BB.out.cell 0, BB.out.cell 1, BB.out.cell 2⟩)
          refine hK _ _ (fun _ => hS) ?_; clear hK K; (try simp only [Act.put, List.setIfInBounds_toArray, List.set_cons_zero, List.set_cons_succ])
          generalize Wo18.alloc (.cells cs0 2) = Wo19 at *
          generalize hgGP : Wo18.heap.size = GP at *
          refine wpAnyD_one (i := 7) rfl (by kernel_rfl) (fun K hK => ?_)
          obtain ⟨⟨o0, o1, o2⟩, p0, p1, p2⟩ := r3_cells BA.out
          go_simp
          have hlA := BA.out.lt
          have rCG : ∀ q, (Value.slice S' n' c').ownBlock = some q ∨ (Value.slice D' m' d').ownBlock = some q → q ≠ G := fun q e => by have := rC.out q e; omega
          replace hB := ((hB.setCell (p := ⟨G, 0, none⟩) (by show w.heap.size ≤ G; omega) (.slice S' n' c')).setCell (p := ⟨G, 1, none⟩) (by show w.heap.size ≤ G; omega) (.slice D' m' d')).setCell (p := ⟨G, 2, none⟩) (by show w.heap.size ≤ G; omega) (.int .i64 ch)
          replace BB := Lib.hid (((BB.out.far (p := ⟨G, 0, none⟩) (by show w.heap.size ≠ G; omega) (.slice S' n' c')).far (p := ⟨G, 1, none⟩) (by show w.heap.size ≠ G; omega) (.slice D' m' d')).far (p := ⟨G, 2, none⟩) (by show w.heap.size ≠ G; omega) (.int .i64 ch))
          replace BR := Lib.hid (((BR.out.far (p := ⟨G, 0, none⟩) (by show w.heap.size + 1 ≠ G; omega) (.slice S' n' c')).far (p := ⟨G, 1, none⟩) (by show w.heap.size + 1 ≠ G; omega) (.slice D' m' d')).far (p := ⟨G, 2, none⟩) (by show w.heap.size + 1 ≠ G; omega) (.int .i64 ch))
          replace BM := Lib.hid (((BM.out.far (p := ⟨G, 0, none⟩) (by show GP ≠ G; omega) (.slice S' n' c')).far (p := ⟨G, 1, none⟩) (by show GP ≠ G; omega) (.slice D' m' d')).far (p := ⟨G, 2, none⟩) (by show GP ≠ G; omega) (.int .i64 ch))
          replace BA : Hid (Blk (((Wo19.setCell ⟨G, 0, none⟩ (.slice S' n' c')).setCell ⟨G, 1, none⟩ (.slice D' m' d')).setCell ⟨G, 2, none⟩ (.int .i64 ch)) G 26 #[.slice S' n' c', .slice D' m' d', .int .i64 ch]) := Lib.hid (((BA.out.set_ 0 _).set_ 1 _).set_ 2 _)
          replace OC := Lib.hid (((OC.out.off (grownBy_one _ ⟨G, 0, none⟩ (.slice S' n' c')) rCG).off (grownBy_one _ ⟨G, 1, none⟩ (.slice D' m' d')) rCG).off (grownBy_one _ ⟨G, 2, none⟩ (.int .i64 ch)) rCG)
          replace hC2 : _ ≤ (((Wo19.setCell ⟨G, 0, none⟩ (.slice S' n' c')).setCell ⟨G, 1, none⟩ (.slice D' m' d')).setCell ⟨G, 2, none⟩ (.int .i64 ch)).heap.size := Nat.le_trans hC2 (by simp [World.setCell])
          have hS := (show (fun W' : World => W'.cell? ⟨w.heap.size, 0, none⟩ = some (.slice S n c) ∧ W'.cell? ⟨w.heap.size, 1, none⟩ = some (.slice D m d) ∧ W'.cell? ⟨w.heap.size, 2, none⟩ = some (.int .i64 ch)) (((Wo19.setCell ⟨G, 0, none⟩ (.slice S' n' c')).setCell ⟨G, 1, none⟩ (.slice D' m' d')).setCell ⟨G, 2, none⟩ (.int .i64 ch)) from ⟨BB.out.cell 0, BB.out.cell 1, BB.out.cell 2⟩)
          refine hK _ _ (fun _ => hS) ?_; clear hK K; (try simp only [Act.put, List.setIfInBounds_toArray, List.set_cons_zero, List.set_cons_succ])
          clear o0 o1 o2 p0 p1 p2
          generalize ((Wo19.setCell ⟨G, 0, none⟩ (.slice S' n' c')).setCell ⟨G, 1, none⟩ (.slice D' m' d')).setCell ⟨G, 2, none⟩ (.int .i64 ch) = Wo20 at *
          refine wpAnyD_one (i := 8) rfl (by kernel_rfl) (fun K hK => ?_)
          go_simp
          refine hK _ _ (fun h => absurd rfl h) ?_; clear hK K
          refine wpAnyD_done (by kernel_rfl) ?_ _
          go_wp2_with fail
          go_meet
          case rel => exact ⟨G, GP, S', n', c', D', m', d', rfl, rfl, hB, BB, BR, Lib.hid ⟨⟨by omega, by omega, by omega⟩, BA.out, ⟨cs0, BM.out, hz.out⟩, OC.out, fun q e => by have := rC.out q e; omega⟩⟩
        · obtain ⟨⟨o0, o1, o2⟩, p0, p1, p2⟩ := r3_cells BA.out
          go_simp
          have hlA := BA.out.lt
          have rCG : ∀ q, (Value.slice S' n' c').ownBlock = some q ∨ (Value.slice D' m' d').ownBlock = some q → q ≠ G := fun q e => by have := rC.out q e; omega
          replace hB := ((hB.setCell (p := ⟨G, 0, none⟩) (by show w.heap.size ≤ G; omega) (.slice S' n' c')).setCell (p := ⟨G, 1, none⟩) (by show w.heap.size ≤ G; omega) (.slice D' m' d')).setCell (p := ⟨G, 2, none⟩) (by show w.heap.size ≤ G; omega) (.int .i64 ch)
          replace BB := Lib.hid (((BB.out.far (p := ⟨G, 0, none⟩) (by show w.heap.size ≠ G; omega) (.slice S' n' c')).far (p := ⟨G, 1, none⟩) (by show w.heap.size ≠ G; omega) (.slice D' m' d')).far (p := ⟨G, 2, none⟩) (by show w.heap.size ≠ G; omega) (.int .i64 ch))
          replace BR := Lib.hid (((BR.out.far (p := ⟨G, 0, none⟩) (by show w.heap.size + 1 ≠ G; omega) (.slice S' n' c')).far (p := ⟨G, 1, none⟩) (by show w.heap.size + 1 ≠ G; omega) (.slice D' m' d')).far (p := ⟨G, 2, none⟩) (by show w.heap.size + 1 ≠ G; omega) (.int .i64 ch))
          replace BA : Hid (Blk (((Wo18.setCell ⟨G, 0, none⟩ (.slice S' n' c')).setCell ⟨G, 1, none⟩ (.slice D' m' d')).setCell ⟨G, 2, none⟩ (.int .i64 ch)) G 26 #[.slice S' n' c', .slice D' m' d', .int .i64 ch]) := Lib.hid (((BA.out.set_ 0 _).set_ 1 _).set_ 2 _)
          replace OC := Lib.hid (((OC.out.off (grownBy_one _ ⟨G, 0, none⟩ (.slice S' n' c')) rCG).off (grownBy_one _ ⟨G, 1, none⟩ (.slice D' m' d')) rCG).off (grownBy_one _ ⟨G, 2, none⟩ (.int .i64 ch)) rCG)
          replace hC2 : _ ≤ (((Wo18.setCell ⟨G, 0, none⟩ (.slice S' n' c')).setCell ⟨G, 1, none⟩ (.slice D' m' d')).setCell ⟨G, 2, none⟩ (.int .i64 ch)).heap.size := Nat.le_trans hC2 (by simp [World.setCell])
          have hS := (show (fun W' : World => W'.cell? ⟨w.heap.size, 0, none⟩ = some (.slice S n c) ∧ W'.cell? ⟨w.heap.size, 1, none⟩ = some (.slice D m d) ∧ W'.cell? ⟨w.heap.size, 2, none⟩ = some (.int .i64 ch)) (((Wo18.setCell ⟨G, 0, none⟩ (.slice S' n' c')).setCell ⟨G, 1, none⟩ (.slice D' m' d')).setCell ⟨G, 2, none⟩ (.int .i64 ch)) from ⟨BB.out.cell 0, BB.out.cell 1, BB.out.cell 2⟩)
          refine hK _ _ (fun _ => hS) ?_; clear hK K; (try simp only [Act.put, List.setIfInBounds_toArray, List.set_cons_zero, List.set_cons_succ])
          clear o0 o1 o2 p0 p1 p2
          generalize ((Wo18.setCell ⟨G, 0, none⟩ (.slice S' n' c')).setCell ⟨G, 1, none⟩ (.slice D' m' d')).setCell ⟨G, 2, none⟩ (.int .i64 ch) = Wo21 at *
          refine wpAnyD_one (i := 5) rfl (by kernel_rfl) (fun K hK => ?_)
          have kGA := BA.out.lt
          go_simp
          have hb := al_ Wo21 (.cells cs0 2)
          have BM : Hid (Blk (Wo21.alloc (.cells cs0 2)) Wo21.heap.size 2 cs0) := Lib.hid (Blk.new _ _ _)
          have kGP := BR.out.lt
          have kCGP := hC2
          replace hB := bel_step hB hb
          replace BB := Lib.hid (blk_later BB.out hb)
          replace BR := Lib.hid (blk_later BR.out hb)
          replace BA := Lib.hid (blk_later BA.out hb)
          replace OC := Lib.hid (OC.out.later hb)
          replace hC2 := Nat.le_trans hC2 hb.size
          clear hb
          have hS := (show (fun W' : World => W'.cell? ⟨w.heap.size, 0, none⟩ = some (.slice S n c) ∧ W'.cell? ⟨w.heap.size, 1, none⟩ = some (.slice D m d) ∧ W'.cell? ⟨w.heap.size, 2, none⟩ = some (.int .i64 ch)) (Wo21.alloc (.cells cs0 2)) from ⟨BB.out.cell 0, BB.out.cell 1, BB.out.cell 2⟩)
          refine hK _ _ (fun _ => hS) ?_; clear hK K; (try simp only [Act.put, List.setIfInBounds_toArray, List.set_cons_zero, List.set_cons_succ])
          generalize Wo21.alloc (.cells cs0 2) = Wo22 at *
          generalize hgGP : Wo21.heap.size = GP at *
          refine wpAnyD_one (i := 8) rfl (by kernel_rfl) (fun K hK => ?_)
          go_simp
          refine hK _ _ (fun h => absurd rfl h) ?_; clear hK K
          refine wpAnyD_done (by kernel_rfl) ?_ _
          go_wp2_with fail
          go_meet
          case rel => exact ⟨G, GP, S', n', c', D', m', d', rfl, rfl, hB, BB, BR, Lib.hid ⟨⟨by omega, by omega, by omega⟩, BA.out, ⟨cs0, BM.out, hz.out⟩, OC.out, fun q e => by have := rC.out q e; omega⟩⟩
      · have kGA := BA.out.lt
        go_simp
        have hb := al_ Wo17 (.cells cs0 2)
        have BM : Hid (Blk (Wo17.alloc (.cells cs0 2)) Wo17.heap.size 2 cs0) := Lib.hid (Blk.new _ _ _)
        have kGP := BR.out.lt
        replace hB := bel_step hB hb
        replace BB := Lib.hid (blk_later BB.out hb)
        replace BR := Lib.hid (blk_later BR.out hb)
        replace BA := Lib.hid (blk_later BA.out hb)
        clear hb
        have hS := (show (fun W' : World => W'.cell? ⟨w.heap.size, 0, none⟩ = some (.slice S n c) ∧ W'.cell? ⟨w.heap.size, 1, none⟩ = some (.slice D m d) ∧ W'.cell? ⟨w.heap.size, 2, none⟩ = some (.int .i64 ch)) (Wo17.alloc (.cells cs0 2)) from ⟨BB.out.cell 0, BB.out.cell 1, BB.out.cell 2⟩)
        refine hK _ _ (fun _ => hS) ?_; clear hK K; (try simp only [Act.put, List.setIfInBounds_toArray, List.set_cons_zero, List.set_cons_succ])
        generalize Wo17.alloc (.cells cs0 2) = Wo23 at *
        generalize hgGP : Wo17.heap.size = GP at *
        refine wpAnyD_one (i := 1) rfl (by kernel_rfl) (fun K hK => ?_)
        have kM := BM.out.lt
        have kA := BA.out.lt
        go_simp
        (with_reducible refine Calls.mono (H1.out _ hB) ?_)
        rintro ee Wo24 ⟨S', n', c', D', m', d', rfl, ho, hb⟩
        dsimp only
        have rC := Lib.hid ho.rowsB
        have OC := Lib.hid (ho.mono (show w.heap.size + 2 ≤ _ from BR.out.lt))
        have hC2 : Wo24.heap.size ≤ Wo24.heap.size := Nat.le_refl _
        replace hB := bel_step hB hb
        replace BB := Lib.hid (blk_later BB.out hb)
        replace BR := Lib.hid (blk_later BR.out hb)
        replace BM := Lib.hid (blk_later BM.out hb)
        replace BA := Lib.hid (blk_later BA.out hb)
        clear ho hb
        have hS := (show (fun W' : World => W'.cell? ⟨w.heap.size, 0, none⟩ = some (.slice S n c) ∧ W'.cell? ⟨w.heap.size, 1, none⟩ = some (.slice D m d) ∧ W'.cell? ⟨w.heap.size, 2, none⟩ = some (.int .i64 ch)) Wo24 from ⟨BB.out.cell 0, BB.out.cell 1, BB.out.cell 2⟩)
        refine hK _ _ (fun _ => hS) ?_; clear hK K; (try simp only [Act.put, List.setIfInBounds_toArray, List.set_cons_zero, List.set_cons_succ])
        refine wpAnyD_one (i := 7) rfl (by kernel_rfl) (fun K hK => ?_)
        obtain ⟨⟨o0, o1, o2⟩, p0, p1, p2⟩ := r3_cells BA.out
        go_simp
        have hlA := BA.out.lt
        have rCG : ∀ q, (Value.slice S' n' c').ownBlock = some q ∨ (Value.slice D' m' d').ownBlock = some q → q ≠ G := fun q e => by have := rC.out q e; omega
        replace hB := ((hB.setCell (p := ⟨G, 0, none⟩) (by show w.heap.size ≤ G; omega) (.slice S' n' c')).setCell (p := ⟨G, 1, none⟩) (by show w.heap.size ≤ G; omega) (.slice D' m' d')).setCell (p := ⟨G, 2, none⟩) (by show w.heap.size ≤ G; omega) (.int .i64 ch)
        replace BB := Lib.hid (((BB.out.far (p := ⟨G, 0, none⟩) (by show w.heap.size ≠ G; omega) (.slice S' n' c')).far (p := ⟨G, 1, none⟩) (by show w.heap.size ≠ G; omega) (.slice D' m' d')).far (p := ⟨G, 2, none⟩) (by show w.heap.size ≠ G; omega) (.int .i64 ch))
        replace BR := Lib.hid (((BR.out.far (p := ⟨G, 0, none⟩) (by show w.heap.size + 1 ≠ G; omega) (.slice S' n' c')).far (p := ⟨G, 1, none⟩) (by show w.heap.size + 1 ≠ G; omega) (.slice D' m' d')).far (p := ⟨G, 2, none⟩) (by show w.heap.size + 1 ≠ G; omega) (.int .i64 ch))
        replace BM := Lib.hid (((BM.out.far (p := ⟨G, 0, none⟩) (by show GP ≠ G; omega) (.slice S' n' c')).far (p := ⟨G, 1, none⟩) (by show GP ≠ G; omega) (.slice D' m' d')).far (p := ⟨G, 2, none⟩) (by show GP ≠ G; omega) (.int .i64 ch))
        replace BA : Hid (Blk (((Wo24.setCell ⟨G, 0, none⟩ (.slice S' n' c')).setCell ⟨G, 1, none⟩ (.slice D' m' d')).setCell ⟨G, 2, none⟩ (.int .i64 ch)) G 26 #[.slice S' n' c', .slice D' m' d', .int .i64 ch]) := Lib.hid (((BA.out.set_ 0 _).set_ 1 _).set_ 2 _)
        replace OC := Lib.hid (((OC.out.off (grownBy_one _ ⟨G, 0, none⟩ (.slice S' n' c')) rCG).off (grownBy_one _ ⟨G, 1, none⟩ (.slice D' m' d')) rCG).off (grownBy_one _ ⟨G, 2, none⟩ (.int .i64 ch)) rCG)
        replace hC2 : _ ≤ (((Wo24.setCell ⟨G, 0, none⟩ (.slice S' n' c')).setCell ⟨G, 1, none⟩ (.slice D' m' d')).setCell ⟨G, 2, none⟩ (.int .i64 ch)).heap.size := Nat.le_trans hC2 (by simp [World.setCell])
        have hS := (show (fun W' : World => W'.cell? ⟨w.heap.size, 0, none⟩ = some (.slice S n c) ∧ W'.cell? ⟨w.heap.size, 1, none⟩ = some (.slice D m d) ∧ W'.cell? ⟨w.heap.size, 2, none⟩ = some (.int .i64 ch)) (((Wo24.setCell ⟨G, 0, none⟩ (.slice S' n' c')).setCell ⟨G, 1, none⟩ (.slice D' m' d')).setCell ⟨G, 2, none⟩ (.int .i64 ch)) from ⟨BB.out.cell 0, BB.out.cell 1, BB.out.cell 2⟩)
        refine hK _ _ (fun _ => hS) ?_; clear hK K; (try simp only [Act.put, List.setIfInBounds_toArray, List.set_cons_zero, List.set_cons_succ])
        clear o0 o1 o2 p0 p1 p2
        generalize ((Wo24.setCell ⟨G, 0, none⟩ (.slice S' n' c')).setCell ⟨G, 1, none⟩ (.slice D' m' d')).setCell ⟨G, 2, none⟩ (.int .i64 ch) = Wo25 at *
        refine wpAnyD_one (i := 8) rfl (by kernel_rfl) (fun K hK => ?_)
        go_simp
        refine hK _ _ (fun h => absurd rfl h) ?_; clear hK K
        refine wpAnyD_done (by kernel_rfl) ?_ _
        go_wp2_with fail
        go_meet
        case rel => exact ⟨G, GP, S', n', c', D', m', d', rfl, rfl, hB, BB, BR, Lib.hid ⟨⟨by omega, by omega, by omega⟩, BA.out, ⟨cs0, BM.out, hz.out⟩, OC.out, fun q e => by have := rC.out q e; omega⟩⟩
  case rest =>
    obtain ⟨G, GP, S', n', c', D', m', d', rfl, rfl, hB, BB, BR, HC⟩ := hcut
    obtain ⟨⟨hG1, hG2, hG3⟩, B7, ⟨cs1, BP, hz1⟩, OC, rowC⟩ := HC.out
    replace B7 := Lib.hid B7
    replace BP := Lib.hid BP
    replace OC := Lib.hid OC
    replace rowC := Lib.hid rowC
    clear HC hz hmk H1
    have hz := Lib.hid hz1
    clear hz1
    (try clear c0 c1 c2); obtain ⟨c0, c1, c2⟩ := c3_cells BB.out; have hlB := BB.out.lt
    (try clear x0 x1 x2 y0 y1 y2); obtain ⟨⟨x0, x1, x2⟩, y0, y1, y2⟩ := r3_cells BR.out; have hlR := BR.out.lt
    (try clear o0 o1 o2 p0 p1 p2); obtain ⟨⟨o0, o1, o2⟩, p0, p1, p2⟩ := r3_cells B7.out; have hl7 := B7.out.lt
    go_wp2_with fail
    obtain ⟨W1, hW1⟩ : ∃ W1, wc.setCell ⟨G, 2, none⟩ (.int .i64 (ch + inc)) = W1 := ⟨_, rfl⟩
    rw [hW1]
    replace hB : Below w.heap.size w W1 := hW1 ▸ hB.setCell (by show w.heap.size ≤ G; omega) _
    replace BB : Hid (Blk W1 w.heap.size 26 #[.slice S n c, .slice D m d, .int .i64 ch]) := hW1 ▸ BB.out.far (by show w.heap.size ≠ G; omega) _
    replace BR : Hid (Blk W1 (w.heap.size + 1) 26 #[.slice none 0 0, .slice none 0 0, .int .i64 0]) := hW1 ▸ BR.out.far (by show w.heap.size + 1 ≠ G; omega) _
    replace B7 : Hid (Blk W1 G 26 #[.slice S' n' c', .slice D' m' d', .int .i64 (ch + inc)]) := hW1 ▸ B7.out.set_ 2 _
    replace BP : Hid (Blk W1 GP 2 cs1) := hW1 ▸ BP.out.far (by show GP ≠ G; omega) _
    replace OC : Hid (OwC W1 (w.heap.size + 2) (.slice S' n' c') (.slice D' m' d') ss ds) := hW1 ▸ OC.out.off (grownBy_one _ _ _) (fun q e => by have := rowC.out q e; show q ≠ G; omega)
    clear hW1
    (try clear c0 c1 c2); obtain ⟨c0, c1, c2⟩ := c3_cells BB.out; have hlB := BB.out.lt
    (try clear x0 x1 x2 y0 y1 y2); obtain ⟨⟨x0, x1, x2⟩, y0, y1, y2⟩ := r3_cells BR.out; have hlR := BR.out.lt
    (try clear o0 o1 o2 p0 p1 p2); obtain ⟨⟨o0, o1, o2⟩, p0, p1, p2⟩ := r3_cells B7.out; have hl7 := B7.out.lt
    have hmix : Hid (holdsL cs1 (mix (paV ss ds (ch + inc)) (fun _ => 0) n 0)) := Lib.hid (by rw [mix_0, range_zero]; exact hz.out)
    have hq1 : IntKind.i64.wrap ((ch + inc).tdiv (lvS ss ds n)) = (ch + inc) / lvS ss ds n := by rw [Int.tdiv_eq_ediv_of_nonneg (by omega)]; exact IntWalk.i64_in _ (by omega)
    have hEL : 0 ≤ (ch + inc) / lvS ss ds n * lvS ss ds n ∧ (ch + inc) / lvS ss ds n * lvS ss ds n ≤ ch + inc := by have h1 := hCm.out; have h2 := Int.mul_nonneg hEb.1 hLb.1; omega
    have hC0 : Hid (lvS ss ds n = 0 → paC ss ds (ch + inc) = ch + inc) := Lib.hid (fun h => by rw [hCm.out, h]; simp)
    have hCv : Hid ((ch + inc) - (ch + inc) / lvS ss ds n * lvS ss ds n = paC ss ds (ch + inc)) := Lib.hid hCm.out.symm
    clear hCm
    generalize hcv0 : paC ss ds (ch + inc) = cv at *
    replace hcv0 := Lib.hid hcv0
    generalize hE : (ch + inc) / lvS ss ds n = E at *
    generalize lvS ss ds n = L at *
    clear hE
    by_cases hL0 : 0 < L
    · have hL1 : ¬ L = 0 := by omega
      have q3 := IntWalk.i64_in (E * L) (by omega)
      go_wp2_with (go_at_call 53; (with_reducible refine Calls.mono (H2.out _ hB) ?_); rintro ee w7 ⟨rfl, hb⟩; replace hB := bel_step hB hb; replace BB := Lib.hid (blk_later BB.out hb); replace BR := Lib.hid (blk_later BR.out hb); replace B7 := Lib.hid (blk_later B7.out hb); replace BP := Lib.hid (blk_later BP.out hb); replace OC := Lib.hid (OC.out.later hb); clear hb; (try clear c0 c1 c2); obtain ⟨c0, c1, c2⟩ := c3_cells BB.out; have hlB := BB.out.lt; (try clear x0 x1 x2 y0 y1 y2); obtain ⟨⟨x0, x1, x2⟩, y0, y1, y2⟩ := r3_cells BR.out; have hlR := BR.out.lt; (try clear o0 o1 o2 p0 p1 p2); obtain ⟨⟨o0, o1, o2⟩, p0, p1, p2⟩ := r3_cells B7.out; have hl7 := B7.out.lt)
      go_loopw [11, 12, 35] (fun _ _ i wr => ∃ (k : Nat) (cs : Array Value), i = .int .i64 k ∧ k ≤ n ∧ Below w.heap.size w wr ∧ Hid (Blk wr w.heap.size 26 #[.slice S n c, .slice D m d, .int .i64 ch]) ∧ Hid (Blk wr (w.heap.size + 1) 26 #[.slice none 0 0, .slice none 0 0, .int .i64 0]) ∧ Hid (Blk wr G 26 #[.slice S' n' c', .slice D' m' d', .int .i64 (ch + inc)]) ∧ Hid (Blk wr GP 2 cs) ∧ Hid (holdsL cs (mix (paV ss ds (ch + inc)) (fun _ => 0) n k)) ∧ Hid (OwC wr (w.heap.size + 2) (.slice S' n' c') (.slice D' m' d') ss ds)) (fun _ _ i _ => n - (intOf i).toNat)
      case atStart => exact ⟨0, cs1, rfl, Nat.zero_le _, hB, BB, BR, B7, BP, hmix, OC⟩
      case round =>
        clear hB BB BR B7 BP hmix OC c0 c1 c2 x0 x1 x2 y0 y1 y2 o0 o1 o2 p0 p1 p2
        obtain ⟨k, cs, rfl, hk, hB, BB, BR, B7, BP, HL, OC⟩ := hrel
        (try clear c0 c1 c2); obtain ⟨c0, c1, c2⟩ := c3_cells BB.out; have hlB := BB.out.lt
        (try clear x0 x1 x2 y0 y1 y2); obtain ⟨⟨x0, x1, x2⟩, y0, y1, y2⟩ := r3_cells BR.out; have hlR := BR.out.lt
        (try clear o0 o1 o2 p0 p1 p2); obtain ⟨⟨o0, o1, o2⟩, p0, p1, p2⟩ := r3_cells B7.out; have hl7 := B7.out.lt
        have hlP := BP.out.lt
        by_cases hlt : k < n
        · obtain ⟨ad, rfl, hb1, k1⟩ := RdI.atZ (HSr.out _ hB) hlt
          have hg := HG.out k (by have := hn.out; omega)
          have HD := fun W hB => H3.out k W hB
          have hpv := hPV.out k
          have hsz := Lib.hid (show cs.size = n by rw [HL.out.size, mix_len])
          cases hd : hs ds k with
          | true =>
            rw [hd] at HD
            rw [hd, if_pos rfl] at hpv
            have HL2 : Hid (holdsL cs (mix (paV ss ds (ch + inc)) (fun _ => 0) n (k + 1))) := Lib.hid (by rw [← mix_skip _ _ hpv]; exact HL.out)
            replace HD := Lib.hid HD
            clear hd hpv
            generalize gz ss k = gk at *
            go_wp2_with (go_at_call 63; (with_reducible refine Calls.mono (HD.out _ hB) ?_); rintro ee w7 ⟨rfl, hb⟩; replace hB := bel_step hB hb; replace BB := Lib.hid (blk_later BB.out hb); replace BR := Lib.hid (blk_later BR.out hb); replace B7 := Lib.hid (blk_later B7.out hb); replace BP := Lib.hid (blk_later BP.out hb); replace OC := Lib.hid (OC.out.later hb); clear hb; (try clear c0 c1 c2); obtain ⟨c0, c1, c2⟩ := c3_cells BB.out; have hlB := BB.out.lt; (try clear x0 x1 x2 y0 y1 y2); obtain ⟨⟨x0, x1, x2⟩, y0, y1, y2⟩ := r3_cells BR.out; have hlR := BR.out.lt; (try clear o0 o1 o2 p0 p1 p2); obtain ⟨⟨o0, o1, o2⟩, p0, p1, p2⟩ := r3_cells B7.out; have hl7 := B7.out.lt)
            go_roundw
            case rel => exact ⟨k + 1, cs, by go_num, by omega, hB, BB, BR, B7, BP, HL2, OC⟩
            case measure => simp [intOf]; omega
          | false =>
            rw [hd] at HD
            rw [hd, if_neg (by decide)] at hpv
            have HL2 : Hid (holdsL (cs.setIfInBounds k (.int .i64 (E * gz ss k))) (mix (paV ss ds (ch + inc)) (fun _ => 0) n (k + 1))) := Lib.hid (by rw [← mix_set _ _ hlt, hpv]; exact HL.out.set k _)
            replace HD := Lib.hid HD
            have hmb := mul_bdP hEb (show 0 ≤ gz ss k ∧ gz ss k ≤ 1000 by omega)
            have q5 := IntWalk.i64_in (E * gz ss k) (by omega)
            clear hd hpv
            generalize gz ss k = gk at *
            go_wp2_with (go_at_call 63; (with_reducible refine Calls.mono (HD.out _ hB) ?_); rintro ee w7 ⟨rfl, hb⟩; replace hB := bel_step hB hb; replace BB := Lib.hid (blk_later BB.out hb); replace BR := Lib.hid (blk_later BR.out hb); replace B7 := Lib.hid (blk_later B7.out hb); replace BP := Lib.hid (blk_later BP.out hb); replace OC := Lib.hid (OC.out.later hb); clear hb; (try clear c0 c1 c2); obtain ⟨c0, c1, c2⟩ := c3_cells BB.out; have hlB := BB.out.lt; (try clear x0 x1 x2 y0 y1 y2); obtain ⟨⟨x0, x1, x2⟩, y0, y1, y2⟩ := r3_cells BR.out; have hlR := BR.out.lt; (try clear o0 o1 o2 p0 p1 p2); obtain ⟨⟨o0, o1, o2⟩, p0, p1, p2⟩ := r3_cells B7.out; have hl7 := B7.out.lt; obtain ⟨v1, g1⟩ : ∃ v, w7.cell? ⟨GP, k, none⟩ = some v := ⟨_, (BP.out.cell _).trans (Array.getElem?_eq_getElem (by have := hsz.out; omega))⟩; have g3 := BP.out.frozen k; have hlP := BP.out.lt)
            go_roundw
            case rel => exact ⟨k + 1, _, by go_num, by omega, hB.setCell (by show w.heap.size ≤ GP; omega) _, BB.out.far (by show w.heap.size ≠ GP; omega) _, BR.out.far (by show w.heap.size + 1 ≠ GP; omega) _, B7.out.far (by show G ≠ GP; omega) _, BP.out.set_ k _, HL2, OC.out.off (grownBy_one _ _ _) (fun q e => by have := rowC.out q e; show q ≠ GP; omega)⟩
            case measure => simp [intOf]; omega
        · obtain rfl : k = n := by omega
          have HP : Hid (holdsL cs (paL ss ds (ch + inc))) := Lib.hid (by have h1 := HL.out; rw [mix_n] at h1; rw [hPL.out]; exact h1)
          have e := hCv.out
          clear HG HSr H2 H3 hPV
          go_wp2_with fail
          go_region
          (try simp only [Exit.then])
          go_wp2
          (try simp only [Exit.inBlock, Exit.then]); refine bodyPost_ret (v := .tuple #[.agg #[.slice S' n' c', .slice D' m' d', .int .i64 cv], .slice (some ⟨GP, 0, none⟩) k k, .bool (decide (cv ≤ 1000000000000))]) (by simp [results, Try.results46, go_sem, x0, x1, x2, hlR]; done) rfl ?_
          rw [hcv0.out]
          have OP : OwI wr (w.heap.size + 2) (.slice (some ⟨GP, 0, none⟩) k k) (paL ss ds (ch + inc)) := by
            have h1 := holdsL.own (base := w.heap.size + 2) BP.out HP.out (by rw [paL_len, hn.out]; omega) (by omega)
            rw [paL_len, hn.out] at h1
            exact h1
          refine ⟨S', n', c', D', m', d', _, _, _, rfl, ?_, ?_, by go_grown⟩
          · refine OwC.mono (base := w.heap.size + 2) ?_ (by omega)
            (repeat (first | with_reducible refine OwC.drew ?_ | with_reducible refine OwC.store ?_ (by first | (simp; done) | (simp; omega) | omega) _ | with_reducible refine OwC.off ?_ (grownBy_one _ _ _) (fun q e => by have := rowC.out q e; show q ≠ G; omega))); exact OC.out
          · refine OwI.mono (base := w.heap.size + 2) ?_ (by omega)
            (repeat (first | with_reducible refine OwI.drew ?_ | with_reducible refine OwI.store ?_ (by first | (simp; done) | (simp; omega) | omega) _ | with_reducible refine OwI.off ?_ (grownBy_one _ _ _) (fun q e => by simp only [Value.ownBlock, Option.some.injEq] at e; show q ≠ G; omega))); exact OP
    · obtain rfl : L = 0 := by omega
      have hcv : cv = ch + inc := hC0.out rfl
      have HP : Hid (holdsL cs1 (paL ss ds (ch + inc))) := Lib.hid (by rw [hPZ.out rfl]; exact hz.out)
      clear hq1 hEL hC0 hPZ HG HSr H3 hPV hmix hCv
      subst hcv
      have hlP := BP.out.lt
      go_wp2_with (go_at_call 53; (with_reducible refine Calls.mono (H2.out _ hB) ?_); rintro ee w7 ⟨rfl, hb⟩; replace hB := bel_step hB hb; replace BB := Lib.hid (blk_later BB.out hb); replace BR := Lib.hid (blk_later BR.out hb); replace B7 := Lib.hid (blk_later B7.out hb); replace BP := Lib.hid (blk_later BP.out hb); replace OC := Lib.hid (OC.out.later hb); clear hb; (try clear c0 c1 c2); obtain ⟨c0, c1, c2⟩ := c3_cells BB.out; have hlB := BB.out.lt; (try clear x0 x1 x2 y0 y1 y2); obtain ⟨⟨x0, x1, x2⟩, y0, y1, y2⟩ := r3_cells BR.out; have hlR := BR.out.lt; (try clear o0 o1 o2 p0 p1 p2); obtain ⟨⟨o0, o1, o2⟩, p0, p1, p2⟩ := r3_cells B7.out; have hl7 := B7.out.lt)
      go_region
      (try simp only [Exit.then])
      go_wp2
      (try simp only [Exit.inBlock, Exit.then]); refine bodyPost_ret (v := .tuple #[.agg #[.slice S' n' c', .slice D' m' d', .int .i64 (ch + inc)], .slice (some ⟨GP, 0, none⟩) n n, .bool (decide ((ch + inc) ≤ 1000000000000))]) (by simp [results, Try.results46, go_sem, x0, x1, x2, hlR]; done) rfl ?_
      rw [hcv0.out]
      have OP : OwI w7 (w.heap.size + 2) (.slice (some ⟨GP, 0, none⟩) n n) (paL ss ds (ch + inc)) := by
        have h1 := holdsL.own (base := w.heap.size + 2) BP.out HP.out (by rw [paL_len, hn.out]; omega) (by omega)
        rw [paL_len, hn.out] at h1
        exact h1
      refine ⟨S', n', c', D', m', d', _, _, _, rfl, ?_, ?_, by go_grown⟩
      · refine OwC.mono (base := w.heap.size + 2) ?_ (by omega)
        (repeat (first | with_reducible refine OwC.drew ?_ | with_reducible refine OwC.store ?_ (by first | (simp; done) | (simp; omega) | omega) _ | with_reducible refine OwC.off ?_ (grownBy_one _ _ _) (fun q e => by have := rowC.out q e; show q ≠ G; omega))); exact OC.out
      · refine OwI.mono (base := w.heap.size + 2) ?_ (by omega)
        (repeat (first | with_reducible refine OwI.drew ?_ | with_reducible refine OwI.store ?_ (by first | (simp; done) | (simp; omega) | omega) _ | with_reducible refine OwI.off ?_ (grownBy_one _ _ _) (fun q e => by simp only [Value.ownBlock, Option.some.injEq] at e; show q ≠ G; omega))); exact OP
end Go.Proofs.Ytmhbkabdiciakaa
