/-
  Contracts of chapter 13: pay, the reference's side.
-/
import Derived.Test.YtmhbkabdiciakaaI1
import Derived.Test.YtmhbkabdiciakaaF1
set_option linter.unusedSimpArgs false
set_option linter.unusedVariables false
namespace Go.Proofs.Ytmhbkabdiciakaa
open Go.RowKit
theorem OwC.off {w w' : World} {base p : Nat} {vs vd : Value} {ss ds : List Int} (h : OwC w base vs vd ss ds) (hg : w.grownBy w' (some p)) (hq : ∀ q, vs.ownBlock = some q ∨ vd.ownBlock = some q → q ≠ p) : OwC w' base vs vd ss ds := by
  obtain ⟨mid, h1, h2, h3, h4⟩ := h
  exact ⟨mid, ⟨h1.1, Nat.le_trans h1.2 hg.size⟩, h2.off hg (fun q e => hq q (.inl e)), h3, h4.off hg (fun q e => hq q (.inr e))⟩
theorem OwC.rowsB {w : World} {base : Nat} {vs vd : Value} {ss ds : List Int} (h : OwC w base vs vd ss ds) : ∀ q, vs.ownBlock = some q ∨ vd.ownBlock = some q → base ≤ q ∧ q < w.heap.size := by
  obtain ⟨mid, h1, h2, h3, h4⟩ := h
  intro q e
  rcases e with e | e
  · exact own_rowI h2 q e
  · exact ⟨Nat.le_trans h1.1 (own_rowI h4 q e).1, (own_rowI h4 q e).2⟩
/-- the code of pay -/
def payK (ss ds : List Int) (t : Int) : Int := if paC ss ds t ≤ 1000000000000 then 0 else 3
/-- what pay gives -/
def payP (w w' : World) (e : Ending) (k : Int) (ss ds : List Int) (cv : Int) (ps : List Int) : Prop := ∃ S' n' c' D' m' d' P p pc, e = .returned (.tuple #[.agg #[.slice S' n' c', .slice D' m' d', .int .i64 (kI k cv)], .slice P p pc, .int .i64 k]) ∧ OwC w' w.heap.size (.slice S' n' c') (.slice D' m' d') (kL k ss) (kL k ds) ∧ OwI w' w.heap.size (.slice P p pc) (kL k ps) ∧ Below w.heap.size w w'
theorem paL_zero {ss ds : List Int} {t : Int} (h : lvS ss ds ss.length = 0) : paL ss ds t = List.replicate ss.length 0 := by
  unfold paL
  rw [← range_zero]
  refine List.map_congr_left fun i _ => ?_
  unfold paV
  rw [h, Int.ediv_zero, Int.zero_mul]
  split <;> rfl
set_option maxHeartbeats 2000000 in
set_option maxRecDepth 100000 in
theorem sPay_any (S : Option Addr) (n c : Nat) (ss : List Int) (D : Option Addr) (m d : Nat) (ds : List Int) (ch inc : Int) (w : World) (hS : RdI w w.heap.size S n ss) (hD : RdI w w.heap.size D m ds) (hcS : S = none → c = 0) (hcD : D = none → d = 0) (hok : okC ss ds ch = true) (hin : 0 ≤ inc ∧ inc ≤ 100000000) : Calls Try.prog 51 #[.agg #[.slice S n c, .slice D m d, .int .i64 ch], .int .i64 inc] w fun ee w' => payP w w' ee (payK ss ds (ch + inc)) ss ds (paC ss ds (ch + inc)) (paL ss ds (ch + inc)) := by
  have hk := okC_iff.1 hok
  have hn := hS.len
  have hm := hD.len
  have hmn := inc_len hk.2.2.2.2 hk.2.2.1
  have hch := hk.2.2.2.1
  have H1 := Lib.hid (fun W (hB : Below w.heap.size w W) => sOwnC_any S n c ss D m d ds ch W ((hS.below hB).more hB.size) ((hD.below hB).more hB.size) hcS hcD (by omega) (by omega))
  have H2 := Lib.hid (fun W (hB : Below w.heap.size w W) => sLiv_any S n c ss D m d ds ch W ((hS.below hB).more hB.size) ((hD.below hB).more hB.size) (by omega) (by omega) hk.2.1)
  have H3 := Lib.hid (fun (x : Int) W (hB : Below w.heap.size w W) => has_any D m d ds x W ((hD.below hB).more hB.size) (by omega))
  have HSr := Lib.hid (fun W (hB : Below w.heap.size w W) => (hS.below hB).more hB.size)
  have HG := Lib.hid (fun k (hk2 : k < ss.length) => inR_iff.1 (List.all_eq_true.1 hk.2.1 _ (gz_mem hk2)))
  have hLb := lvS_bd (ds := ds) hk.2.1 n (by omega)
  have hEb := each_bd (ds := ds) (t := ch + inc) hk.2.1 (by omega)
  have hCb := paC_bd (ds := ds) (t := ch + inc) hk.2.1 (by omega)
  have q0 := IntWalk.i64_in (ch + inc) (by omega)
  have hCm : Hid (paC ss ds (ch + inc) = (ch + inc) % lvS ss ds n) := Lib.hid (by rw [paC_mod, hn])
  have hPV : Hid (∀ i, paV ss ds (ch + inc) i = if hs ds i = true then 0 else (ch + inc) / lvS ss ds n * gz ss i) := Lib.hid (fun i => by unfold paV; rw [hn])
  have hPL : Hid (paL ss ds (ch + inc) = (List.range n).map (paV ss ds (ch + inc))) := Lib.hid (by unfold paL; rw [hn])
  have hPZ : Hid (lvS ss ds n = 0 → paL ss ds (ch + inc) = List.replicate n 0) := Lib.hid (fun h => by rw [← hn] at h ⊢; exact paL_zero h)
  rw [hn] at hEb
  have HN : (Try.prog.info? 2).map (fun i => (i.zero, i.size, i.bytes)) = some (some (.int .i64 0), 1, 8) := by kernel_rfl
  obtain ⟨i0, hi, hz0, hz1, hz2⟩ := info_parts HN
  have hmk := fun W => run_make_rowN (P := Try.prog) 24 2 i0 _ Try.underlying24 hi hz0 .i64 .i64 n n (Nat.le_refl _) (by rw [hz2]; omega) (by omega) W
  rw [hz1, Nat.mul_one] at hmk
  have hz := Lib.hid (holdsL_made n)
  obtain ⟨cs0, hcs0⟩ : ∃ cs0, madeCells (Value.int .i64 0).cells n = cs0 := ⟨_, rfl⟩
  rw [hcs0] at hmk hz
  have BB := Lib.hid ((Blk.new w 26 #[.slice S n c, .slice D m d, .int .i64 ch]).alloc (.cells #[.slice none 0 0, .slice none 0 0, .int .i64 0] 26))
  have BR := Lib.hid (Blk.new (w.alloc (.cells #[.slice S n c, .slice D m d, .int .i64 ch] 26)) 26 #[.slice none 0 0, .slice none 0 0, .int .i64 0])
  rw [World.size_alloc] at BR
  have hB : Below w.heap.size w ((w.alloc (.cells #[.slice S n c, .slice D m d, .int .i64 ch] 26)).alloc (.cells #[.slice none 0 0, .slice none 0 0, .int .i64 0] 26)) := (al_ _ _).alloc (by simp) _
  have hnB : n ≤ 60 := by omega
  have hmB : m ≤ 60 := by omega
  replace hn := Lib.hid hn
  replace hm := Lib.hid hm
  clear hS hD hok hk HN hi hz0 hz1 hz2 hcs0
  go_enter Try.func51, Try.ntmps51
  go_wp2_with (go_at_call 49; (with_reducible refine Calls.mono (H1.out _ hB) ?_); rintro ee w6 ⟨S', n', c', D', m', d', rfl, ho, hb⟩; have OC := Lib.hid (ho.mono (show w.heap.size + 2 ≤ _ from BR.out.lt)); have rowC := Lib.hid ho.rowsB; replace hB := bel_step hB hb; replace BB := Lib.hid (blk_later BB.out hb); replace BR := Lib.hid (blk_later BR.out hb); clear ho hb; (try clear c0 c1 c2); obtain ⟨c0, c1, c2⟩ := c3_cells BB.out; have hlB := BB.out.lt; (try clear x0 x1 x2 y0 y1 y2); obtain ⟨⟨x0, x1, x2⟩, y0, y1, y2⟩ := r3_cells BR.out; have hlR := BR.out.lt)
  obtain ⟨G, hG⟩ : ∃ G, w6.heap.size = G := ⟨_, rfl⟩
  have B7 := Lib.hid ((Blk.new w6 26 #[.slice S' n' c', .slice D' m' d', .int .i64 (ch + inc)]).alloc (.cells cs0 2))
  have BP := Lib.hid (Blk.new (w6.alloc (.cells #[.slice S' n' c', .slice D' m' d', .int .i64 (ch + inc)] 26)) 2 cs0)
  have hb : Below w6.heap.size w6 ((w6.alloc (.cells #[.slice S' n' c', .slice D' m' d', .int .i64 (ch + inc)] 26)).alloc (.cells cs0 2)) := (al_ _ _).alloc (by simp) _
  rw [World.size_alloc, hG] at BP
  rw [hG] at B7 ⊢
  have hwG : w.heap.size + 1 < G := by omega
  replace rowC : Hid (∀ q, (Value.slice S' n' c').ownBlock = some q ∨ (Value.slice D' m' d').ownBlock = some q → q < G) := Lib.hid (fun q e => by have := rowC.out q e; omega)
  generalize (w6.alloc (.cells #[.slice S' n' c', .slice D' m' d', .int .i64 (ch + inc)] 26)).alloc (.cells cs0 2) = W1 at *
  replace hB := bel_step hB hb
  replace BB := Lib.hid (blk_later BB.out hb)
  replace BR := Lib.hid (blk_later BR.out hb)
  replace OC := Lib.hid (OC.out.later hb)
  clear hb hG hmk
  (try clear c0 c1 c2); obtain ⟨c0, c1, c2⟩ := c3_cells BB.out; have hlB := BB.out.lt
  (try clear x0 x1 x2 y0 y1 y2); obtain ⟨⟨x0, x1, x2⟩, y0, y1, y2⟩ := r3_cells BR.out; have hlR := BR.out.lt
  (try clear o0 o1 o2 p0 p1 p2); obtain ⟨⟨o0, o1, o2⟩, p0, p1, p2⟩ := r3_cells B7.out; have hl7 := B7.out.lt
  have hmix : Hid (holdsL cs0 (mix (paV ss ds (ch + inc)) (fun _ => 0) n 0)) := Lib.hid (by rw [mix_0, range_zero]; exact hz.out)
  have hq1 : IntKind.i64.wrap ((ch + inc).tdiv (lvS ss ds n)) = (ch + inc) / lvS ss ds n := by rw [Int.tdiv_eq_ediv_of_nonneg (by omega)]; exact IntWalk.i64_in _ (by omega)
  have hq2 : IntKind.i64.wrap ((ch + inc).tmod (lvS ss ds n)) = paC ss ds (ch + inc) := by rw [Int.tmod_eq_emod_of_nonneg (by omega), ← hCm.out]; exact IntWalk.i64_in _ (by omega)
  have hq3 : (ch + inc).tmod (lvS ss ds n) = paC ss ds (ch + inc) := by rw [Int.tmod_eq_emod_of_nonneg (by omega), ← hCm.out]
  have hC0 : Hid (lvS ss ds n = 0 → paC ss ds (ch + inc) = ch + inc) := Lib.hid (fun h => by rw [hCm.out, h, Int.emod_zero])
  have hkc : (Hid (payK ss ds (ch + inc) = 0) ∧ paC ss ds (ch + inc) ≤ 1000000000000) ∨ (Hid (payK ss ds (ch + inc) = 3) ∧ ¬ paC ss ds (ch + inc) ≤ 1000000000000) := by
    unfold payK
    by_cases h : paC ss ds (ch + inc) ≤ 1000000000000
    · exact .inl ⟨(by show _ = _; rw [if_pos h]), h⟩
    · exact .inr ⟨(by show _ = _; rw [if_neg h]), h⟩
  clear hCm
  generalize hcv0 : paC ss ds (ch + inc) = cv at *
  generalize hkp0 : payK ss ds (ch + inc) = kp at *
  replace hcv0 := Lib.hid hcv0
  replace hkp0 := Lib.hid hkp0
  generalize hE : (ch + inc) / lvS ss ds n = E at *
  generalize lvS ss ds n = L at *
  clear hE
  replace hkc := Lib.hid hkc
  by_cases hL0 : 0 < L
  · have hL1 : ¬ L = 0 := by omega
    go_wp2_with (go_at_call 64; (with_reducible refine Calls.mono (H2.out _ hB) ?_); rintro ee w7 ⟨rfl, hb⟩; replace hB := bel_step hB hb; replace BB := Lib.hid (blk_later BB.out hb); replace BR := Lib.hid (blk_later BR.out hb); (try replace B7 := Lib.hid (blk_later B7.out hb)); (try replace BP := Lib.hid (blk_later BP.out hb)); (try replace OC := Lib.hid (OC.out.later hb)); clear hb; (try clear c0 c1 c2); obtain ⟨c0, c1, c2⟩ := c3_cells BB.out; have hlB := BB.out.lt; (try clear x0 x1 x2 y0 y1 y2); obtain ⟨⟨x0, x1, x2⟩, y0, y1, y2⟩ := r3_cells BR.out; have hlR := BR.out.lt; (try clear o0 o1 o2 p0 p1 p2); obtain ⟨⟨o0, o1, o2⟩, p0, p1, p2⟩ := r3_cells B7.out; have hl7 := B7.out.lt)
    go_loopw [11] (fun i wr => ∃ (k : Nat) (cs : Array Value), i = .int .i64 k ∧ k ≤ n ∧ Below w.heap.size w wr ∧ Hid (Blk wr w.heap.size 26 #[.slice S n c, .slice D m d, .int .i64 ch]) ∧ Hid (Blk wr (w.heap.size + 1) 26 #[.slice none 0 0, .slice none 0 0, .int .i64 0]) ∧ Hid (Blk wr G 26 #[.slice S' n' c', .slice D' m' d', .int .i64 (ch + inc)]) ∧ Hid (Blk wr (G + 1) 2 cs) ∧ Hid (holdsL cs (mix (paV ss ds (ch + inc)) (fun _ => 0) n k)) ∧ Hid (OwC wr (w.heap.size + 2) (.slice S' n' c') (.slice D' m' d') ss ds)) (fun i _ => n - (intOf i).toNat)
    case atStart => exact ⟨0, cs0, rfl, Nat.zero_le _, hB, BB, BR, B7, BP, hmix, OC⟩
    case round =>
      clear hB BB BR B7 BP hmix OC c0 c1 c2 x0 x1 x2 y0 y1 y2 o0 o1 o2 p0 p1 p2
      obtain ⟨k, cs, rfl, hk, hB, BB, BR, B7, BP, HL, OC⟩ := hrel
      (try clear c0 c1 c2); obtain ⟨c0, c1, c2⟩ := c3_cells BB.out; have hlB := BB.out.lt
      (try clear x0 x1 x2 y0 y1 y2); obtain ⟨⟨x0, x1, x2⟩, y0, y1, y2⟩ := r3_cells BR.out; have hlR := BR.out.lt
      (try clear o0 o1 o2 p0 p1 p2); obtain ⟨⟨o0, o1, o2⟩, p0, p1, p2⟩ := r3_cells B7.out; have hl7 := B7.out.lt
      have hlP := BP.out.lt
      by_cases hlt : k < n
      · obtain ⟨ad, rfl, hb1, k1⟩ := RdI.atZ (HSr.out _ hB) hlt
        have hg := HG.out k (by have := hn.out; omega)
        have hsz := HL.out.size
        rw [mix_len] at hsz
        obtain ⟨v1, g1⟩ : ∃ v, wr.cell? ⟨G + 1, k, none⟩ = some v := ⟨_, (BP.out.cell _).trans (Array.getElem?_eq_getElem (by omega))⟩
        have g3 := BP.out.frozen k
        have HD := fun W hB => H3.out k W hB
        have hpv := hPV.out k
        cases hd : hs ds k with
        | true =>
          rw [hd] at HD
          rw [hd, if_pos rfl] at hpv
          have HL2 : Hid (holdsL cs (mix (paV ss ds (ch + inc)) (fun _ => 0) n (k + 1))) := Lib.hid (by rw [← mix_skip _ _ hpv]; exact HL.out)
          replace HD := Lib.hid HD
          clear hd hpv hsz
          go_wp2_with (go_at_call 57; (with_reducible refine Calls.mono (HD.out _ hB) ?_); rintro ee wz ⟨rfl, rfl⟩)
          go_roundw
          case rel => exact ⟨k + 1, cs, by go_num, by omega, hB, BB, BR, B7, BP, HL2, OC⟩
          case measure => simp [intOf]; omega
        | false =>
          rw [hd] at HD
          rw [hd, if_neg (by decide)] at hpv
          have HL2 : Hid (holdsL (cs.setIfInBounds k (.int .i64 (E * gz ss k))) (mix (paV ss ds (ch + inc)) (fun _ => 0) n (k + 1))) := Lib.hid (by rw [← mix_set _ _ hlt, hpv]; exact HL.out.set k _)
          replace HD := Lib.hid HD
          have hmb := mul_bdP hEb (show 0 ≤ gz ss k ∧ gz ss k ≤ 1000 by omega)
          have q5 := IntWalk.i64_in (E * gz ss k) (by omega)
          clear hd hpv hsz
          generalize gz ss k = gk at *
          go_wp2_with (go_at_call 57; (with_reducible refine Calls.mono (HD.out _ hB) ?_); rintro ee wz ⟨rfl, rfl⟩)
          go_roundw
          case rel => exact ⟨k + 1, _, by go_num, by omega, hB.setCell (by show w.heap.size ≤ G + 1; omega) _, BB.out.far (by show w.heap.size ≠ G + 1; omega) _, BR.out.far (by show w.heap.size + 1 ≠ G + 1; omega) _, B7.out.far (by show G ≠ G + 1; omega) _, BP.out.set_ k _, HL2, OC.out.off (grownBy_one _ _ _) (fun q e => by have := rowC.out q e; show q ≠ G + 1; omega)⟩
          case measure => simp [intOf]; omega
      · obtain rfl : k = n := by omega
        have HP : Hid (holdsL cs (paL ss ds (ch + inc))) := Lib.hid (by have h1 := HL.out; rw [mix_n] at h1; rw [hPL.out]; exact h1)
        clear HG HSr H1 H2 H3 hPV
        rcases hkc.out with ⟨hK, hle⟩ | ⟨hK, hle⟩
        · go_wp2
          (try simp only [Exit.inBlock, Exit.then]); refine bodyPost_ret (v := .tuple #[.agg #[.slice S' n' c', .slice D' m' d', .int .i64 cv], .slice (some ⟨G + 1, 0, none⟩) k k, .int .i64 0]) (by simp [results, Try.results51, go_sem, x0, x1, x2, hlR]; done) rfl ?_
          rw [hkp0.out, hK.out, hcv0.out]
          have OP : OwI wr (G + 1) (.slice (some ⟨G + 1, 0, none⟩) k k) (paL ss ds (ch + inc)) := by
            have h1 := holdsL.own (base := G + 1) BP.out HP.out (by rw [paL_len, hn.out]; omega) (Nat.le_refl _)
            rw [paL_len, hn.out] at h1
            exact h1
          refine ⟨S', n', c', D', m', d', _, _, _, rfl, ?_, ?_, by go_grown⟩
          · refine OwC.mono (base := w.heap.size + 2) ?_ (by omega)
            (repeat (first | with_reducible refine OwC.store ?_ (by first | (simp; done) | (simp; omega) | omega) _ | with_reducible refine OwC.off ?_ (grownBy_one _ _ _) (fun q e => by have := rowC.out q e; show q ≠ G; omega))); exact OC.out
          · refine OwI.mono (base := G + 1) ?_ (by omega)
            (repeat (first | with_reducible refine OwI.store ?_ (by first | (simp; done) | (simp; omega) | omega) _)); exact OP
        · go_wp2
          (try simp only [Exit.inBlock, Exit.then]); refine bodyPost_ret (v := .tuple #[.agg #[.slice none 0 0, .slice none 0 0, .int .i64 0], .slice none 0 0, .int .i64 3]) (by simp [results, Try.results51, go_sem, x0, x1, x2, hlR]; done) rfl ?_
          rw [hkp0.out, hK.out, hcv0.out]
          exact ⟨none, 0, 0, none, 0, 0, none, 0, 0, rfl, OwC.nil (by simp [World.setCell]; omega), World.ownsRow_nil _ _ _ _, by go_grown⟩
  · obtain rfl : L = 0 := by omega
    have hcv : cv = ch + inc := hC0.out rfl
    have HP : Hid (holdsL cs0 (paL ss ds (ch + inc))) := Lib.hid (by rw [hPZ.out rfl]; exact hz.out)
    clear hq1 hq2 hq3 hC0 hPZ HG HSr H1 H3 hPV hmix
    subst hcv
    have hlP := BP.out.lt
    rcases hkc.out with ⟨hK, hle⟩ | ⟨hK, hle⟩
    · go_wp2_with (go_at_call 64; (with_reducible refine Calls.mono (H2.out _ hB) ?_); rintro ee w7 ⟨rfl, hb⟩; replace hB := bel_step hB hb; replace BB := Lib.hid (blk_later BB.out hb); replace BR := Lib.hid (blk_later BR.out hb); (try replace B7 := Lib.hid (blk_later B7.out hb)); (try replace BP := Lib.hid (blk_later BP.out hb)); (try replace OC := Lib.hid (OC.out.later hb)); clear hb; (try clear c0 c1 c2); obtain ⟨c0, c1, c2⟩ := c3_cells BB.out; have hlB := BB.out.lt; (try clear x0 x1 x2 y0 y1 y2); obtain ⟨⟨x0, x1, x2⟩, y0, y1, y2⟩ := r3_cells BR.out; have hlR := BR.out.lt; (try clear o0 o1 o2 p0 p1 p2); obtain ⟨⟨o0, o1, o2⟩, p0, p1, p2⟩ := r3_cells B7.out; have hl7 := B7.out.lt)
      (try simp only [Exit.inBlock, Exit.then]); refine bodyPost_ret (v := .tuple #[.agg #[.slice S' n' c', .slice D' m' d', .int .i64 (ch + inc)], .slice (some ⟨G + 1, 0, none⟩) n n, .int .i64 0]) (by simp [results, Try.results51, go_sem, x0, x1, x2, hlR]; done) rfl ?_
      rw [hkp0.out, hK.out, hcv0.out]
      have OP : OwI w7 (G + 1) (.slice (some ⟨G + 1, 0, none⟩) n n) (paL ss ds (ch + inc)) := by
        have h1 := holdsL.own (base := G + 1) BP.out HP.out (by rw [paL_len, hn.out]; omega) (Nat.le_refl _)
        rw [paL_len, hn.out] at h1
        exact h1
      refine ⟨S', n', c', D', m', d', _, _, _, rfl, ?_, ?_, by go_grown⟩
      · refine OwC.mono (base := w.heap.size + 2) ?_ (by omega)
        (repeat (first | with_reducible refine OwC.store ?_ (by first | (simp; done) | (simp; omega) | omega) _ | with_reducible refine OwC.off ?_ (grownBy_one _ _ _) (fun q e => by have := rowC.out q e; show q ≠ G; omega))); exact OC.out
      · refine OwI.mono (base := G + 1) ?_ (by omega)
        (repeat (first | with_reducible refine OwI.store ?_ (by first | (simp; done) | (simp; omega) | omega) _)); exact OP
    · go_wp2_with (go_at_call 64; (with_reducible refine Calls.mono (H2.out _ hB) ?_); rintro ee w7 ⟨rfl, hb⟩; replace hB := bel_step hB hb; replace BB := Lib.hid (blk_later BB.out hb); replace BR := Lib.hid (blk_later BR.out hb); (try replace B7 := Lib.hid (blk_later B7.out hb)); (try replace BP := Lib.hid (blk_later BP.out hb)); (try replace OC := Lib.hid (OC.out.later hb)); clear hb; (try clear c0 c1 c2); obtain ⟨c0, c1, c2⟩ := c3_cells BB.out; have hlB := BB.out.lt; (try clear x0 x1 x2 y0 y1 y2); obtain ⟨⟨x0, x1, x2⟩, y0, y1, y2⟩ := r3_cells BR.out; have hlR := BR.out.lt; (try clear o0 o1 o2 p0 p1 p2); obtain ⟨⟨o0, o1, o2⟩, p0, p1, p2⟩ := r3_cells B7.out; have hl7 := B7.out.lt)
      (try simp only [Exit.inBlock, Exit.then]); refine bodyPost_ret (v := .tuple #[.agg #[.slice none 0 0, .slice none 0 0, .int .i64 0], .slice none 0 0, .int .i64 3]) (by simp [results, Try.results51, go_sem, x0, x1, x2, hlR]; done) rfl ?_
      rw [hkp0.out, hK.out, hcv0.out]
      exact ⟨none, 0, 0, none, 0, 0, none, 0, 0, rfl, OwC.nil (by simp [World.setCell]; omega), World.ownsRow_nil _ _ _ _, by go_grown⟩
end Go.Proofs.Ytmhbkabdiciakaa
