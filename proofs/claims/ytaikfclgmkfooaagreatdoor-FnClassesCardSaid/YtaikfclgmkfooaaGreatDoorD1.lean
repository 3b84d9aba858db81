/-
  Contracts of chapter 13: burying, the program's side.
-/
import Derived.Test.YtaikfclgmkfooaaGreatDoorC1
import Derived.Test.YtaikfclgmkfooaaGreatDoorS1
import Derived.Test.YtaikfclgmkfooaaGreatDoorO1
set_option linter.unusedSimpArgs false
set_option linter.unusedVariables false
namespace Go.Proofs.YtaikfclgmkfooaaGreatDoor
open Go.RowKit
theorem buC_2 {ss ds ms : List Int} (h : ¬ (ms.length ≤ 120 ∧ ms.all (inR 0 ((ss.length : Int) - 1)) = true)) : Hid (buC ss ds ms = 2) := by show _ = _; unfold buC; rw [if_neg h]
theorem buC_5 {ss ds ms : List Int} (h : ms.length ≤ 120 ∧ ms.all (inR 0 ((ss.length : Int) - 1)) = true) (h2 : incB (srt (ds ++ ms)) = false) : Hid (buC ss ds ms = 5) := by show _ = _; unfold buC; rw [if_pos h, if_neg (by rw [h2]; decide)]
theorem buC_0 {ss ds ms : List Int} (h : ms.length ≤ 120 ∧ ms.all (inR 0 ((ss.length : Int) - 1)) = true) (h2 : incB (srt (ds ++ ms)) = true) : Hid (buC ss ds ms = 0) := by show _ = _; unfold buC; rw [if_pos h, if_pos h2]
/-- what burying gives: class, code, and who owns it -/
def buP (w w' : World) (e : Ending) (k : Int) (ss ds : List Int) (ch : Int) : Prop := ∃ S' n' c' D' m' d', e = .returned (.tuple #[.agg #[.slice S' n' c', .slice D' m' d', .int .i64 (kI k ch)], .int .i64 k]) ∧ OwC w' w.heap.size (.slice S' n' c') (.slice D' m' d') (kL k ss) (kL k ds) ∧ Below w.heap.size w w'
theorem buP_no {w w' : World} {k : Int} {ss ds : List Int} {ch : Int} (hk : k ≠ 0) (hb : Below w.heap.size w w') : buP w w' (.returned (.tuple #[.agg #[.slice none 0 0, .slice none 0 0, .int .i64 0], .int .i64 k])) k ss ds ch := by
  refine ⟨none, 0, 0, none, 0, 0, ?_, ?_, hb⟩
  · rw [show kI k ch = 0 from if_neg hk]
  · rw [show kL k ss = [] from if_neg hk, show kL k ds = [] from if_neg hk]
    exact OwC.nil hb.size
theorem okC_bury {ss ds ms : List Int} {ch : Int} (h : okC ss ds ch = true) (hm : ms.all (inR 0 ((ss.length : Int) - 1)) = true) : okC ss (srt (ds ++ ms)) ch = incB (srt (ds ++ ms)) := by
  have h1 := okC_iff.1 h
  rw [Bool.eq_iff_iff, okC_iff]
  refine ⟨fun e => e.2.2.2.2, fun e => ⟨h1.1, h1.2.1, ?_, h1.2.2.2.1, e⟩⟩
  rw [srt_all, List.all_append, h1.2.2.1, hm]
  rfl
set_option maxHeartbeats 2000000 in
set_option maxRecDepth 100000 in
theorem iBury_any (S : Option Addr) (n c : Nat) (ss : List Int) (D : Option Addr) (m d : Nat) (ds : List Int) (ch : Int) (M : Option Addr) (l e : Nat) (ms : List Int) (w : World) (hS : RdI w w.heap.size S n ss) (hD : RdI w w.heap.size D m ds) (hM : RdI w w.heap.size M l ms) (hcS : S = none → c = 0) (hcD : D = none → d = 0) (hcM : M = none → e = 0) (hl : l ≤ 3000000) (hok : okC ss ds ch = true) : Calls Tryz.prog 33 #[.agg #[.slice S n c, .slice D m d, .int .i64 ch], .slice M l e] w fun ee w' => buP w w' ee (buC ss ds ms) ss (srt (ds ++ ms)) ch := by
  have hk := okC_iff.1 hok
  have hn := hS.len
  have hm := hD.len
  have hlm := hM.len
  have hmn := inc_len hk.2.2.2.2 hk.2.2.1
  have H1 := Lib.hid (fun W => lengthI_any S n c W (by omega))
  have H2 := fun W (hB : Below w.heap.size w W) => allIn_any M l e ms 0 ((n : Int) - 1) W ((hM.below hB).more hB.size) (by unfold maxLen; omega)
  have H3 := Lib.hid (fun W (hB : Below w.heap.size w W) => iClone_any S n c ss D m d ds ch W ((hS.below hB).more hB.size) ((hD.below hB).more hB.size) hcS hcD (by omega) (by omega))
  have HM := Lib.hid (fun W (hB : Below w.heap.size w W) => (hM.below hB).more hB.size)
  have q1 := IntWalk.i64_in ((n : Int) - 1) (by omega)
  have BB := Lib.hid ((Blk.new w 26 #[.slice S n c, .slice D m d, .int .i64 ch]).alloc (.cells #[.slice none 0 0, .slice none 0 0, .int .i64 0] 26))
  have BR := Lib.hid (Blk.new (w.alloc (.cells #[.slice S n c, .slice D m d, .int .i64 ch] 26)) 26 #[.slice none 0 0, .slice none 0 0, .int .i64 0])
  rw [World.size_alloc] at BR
  have hB : Below w.heap.size w ((w.alloc (.cells #[.slice S n c, .slice D m d, .int .i64 ch] 26)).alloc (.cells #[.slice none 0 0, .slice none 0 0, .int .i64 0] 26)) := (al_ _ _).alloc (by simp) _
  by_cases hc1 : l ≤ 120
  · cases hc2 : ms.all (inR 0 ((n : Int) - 1)) with
    | true =>
      rw [hc2] at H2
      replace H2 := Lib.hid H2
      have hin : ms.length ≤ 120 ∧ ms.all (inR 0 ((ss.length : Int) - 1)) = true := ⟨by omega, by rw [hn]; exact hc2⟩
      have HOK := Lib.hid (okC_bury (ds := ds) hok hin.2)
      replace hin := Lib.hid hin
      have hnB : n ≤ 60 := by omega
      have hmB : m ≤ 60 := by omega
      replace hn := Lib.hid hn
      replace hm := Lib.hid hm
      replace hlm := Lib.hid hlm
      clear hS hD hM hok hk hc2
      go_enter Tryz.func33, Tryz.ntmps33
      go_wp2_with (first | (go_at_call 38; (with_reducible refine Calls.mono (H1.out _) ?_); rintro ee wz ⟨rfl, rfl⟩) | (go_at_call 40; (with_reducible refine Calls.mono (H2.out _ hB) ?_); rintro ee wz ⟨rfl, hb⟩; replace hB := bel_step hB hb; replace BB := Lib.hid (blk_later BB.out hb); replace BR := Lib.hid (blk_later BR.out hb); (try clear c0 c1 c2); obtain ⟨c0, c1, c2⟩ := c3_cells BB.out; have hlB := BB.out.lt; (try clear x0 x1 x2 y0 y1 y2); obtain ⟨⟨x0, x1, x2⟩, y0, y1, y2⟩ := r3_cells BR.out; have hlR := BR.out.lt; clear hb) | (go_at_call 50; (with_reducible refine Calls.mono (H3.out _ hB) ?_); rintro ee w6 ⟨S', n', c', D', m', d', rfl, ho, hb⟩; have hzb := hlR; obtain ⟨mid, ⟨hmid, hm6⟩, OS, hsm, OD⟩ := ho; have hmw : w.heap.size + 1 < mid := Nat.lt_of_lt_of_le hlR hmid; replace OS := Lib.hid (OS.mono (show w.heap.size + 2 ≤ _ from hlR)); replace OD := Lib.hid OD; replace hsm := Lib.hid hsm; replace hB := bel_step hB hb; replace BB := Lib.hid (blk_later BB.out hb); replace BR := Lib.hid (blk_later BR.out hb); (try clear c0 c1 c2); obtain ⟨c0, c1, c2⟩ := c3_cells BB.out; have hlB := BB.out.lt; (try clear x0 x1 x2 y0 y1 y2); obtain ⟨⟨x0, x1, x2⟩, y0, y1, y2⟩ := r3_cells BR.out; have hlR := BR.out.lt; clear hb hmid) | (at_builtin; refine wpl_app_intsL rfl _ _ rfl mid ds _ (by rfl) (OD.out.alloc _) _ M l e ms (by rfl) (HM.out _ (hB.alloc hB.size _)) hcM (by have := hm.out; omega) (by simp; omega) ?_; intro A3 m3 c3 w3 ho3 hg3 hq3; have rw3 := own_rowI OD.out; have B6 := Lib.hid ((Blk.new w6 26 #[.slice S' n' c', .slice D' m' d', .int .i64 ch]).grown hg3 (fun e => by have := rw3 _ e.symm; omega)); obtain ⟨⟨o0, o1, o2⟩, p0, p1, p2⟩ := r3_cells B6.out; have hl3 := B6.out.lt))
      replace hB := (hB.alloc hB.size (.cells #[.slice S' n' c', .slice D' m' d', .int .i64 ch] 26)).grown hg3 (by have := hB.size; simp; omega) (fun q e => by have := rw3 q e; omega)
      replace BB := Lib.hid ((BB.out.alloc (.cells #[.slice S' n' c', .slice D' m' d', .int .i64 ch] 26)).grown hg3 (fun e => by have := rw3 _ e.symm; omega))
      replace BR := Lib.hid ((BR.out.alloc (.cells #[.slice S' n' c', .slice D' m' d', .int .i64 ch] 26)).grown hg3 (fun e => by have := rw3 _ e.symm; omega))
      replace OS := Lib.hid ((OS.out.alloc (.cells #[.slice S' n' c', .slice D' m' d', .int .i64 ch] 26)).other hg3 (fun q e e2 => by have h1 := hsm.out q e; have h2 := rw3 q e2; omega))
      have Q3 : Hid (∀ q, (Value.slice A3 m3 c3).ownBlock = some q → mid ≤ q ∧ q ≠ w6.heap.size) := Lib.hid (fun q e => ⟨(own_rowI ho3 q e).1, (by rcases hq3 q e with h1 | h1; (have := rw3 q h1; omega); (simp at h1; omega))⟩)
      have OD3 := Lib.hid ho3
      clear ho3 hg3 hq3 rw3 OD hzb
      obtain ⟨w4, hw4⟩ : ∃ w4, w3.setCell ⟨w6.heap.size, 1, none⟩ (.slice A3 m3 c3) = w4 := ⟨_, rfl⟩
      rw [hw4]
      replace hB : Below w.heap.size w w4 := hw4 ▸ hB.setCell (by show w.heap.size ≤ w6.heap.size; omega) _
      replace BB : Hid (Blk w4 w.heap.size 26 #[.slice S n c, .slice D m d, .int .i64 ch]) := hw4 ▸ BB.out.far (by show w.heap.size ≠ w6.heap.size; omega) _
      replace BR : Hid (Blk w4 (w.heap.size + 1) 26 #[.slice none 0 0, .slice none 0 0, .int .i64 0]) := hw4 ▸ BR.out.far (by show w.heap.size + 1 ≠ w6.heap.size; omega) _
      replace B6 : Hid (Blk w4 w6.heap.size 26 #[.slice S' n' c', .slice A3 m3 c3, .int .i64 ch]) := hw4 ▸ B6.out.set_ 1 _
      replace OS : Hid (OwI w4 (w.heap.size + 2) (.slice S' n' c') ss) := hw4 ▸ OS.out.off (grownBy_one _ _ _) (fun q e => (by have h1 := hsm.out q e; show q ≠ w6.heap.size; omega))
      replace OD3 : Hid (OwI w4 mid (.slice A3 m3 c3) (ds ++ ms)) := hw4 ▸ OD3.out.off (grownBy_one _ _ _) (fun q e => (Q3.out q e).2)
      clear hw4 c0 c1 c2 x0 x1 x2 y0 y1 y2 o0 o1 o2 p0 p1 p2
      (with_reducible refine Calls.mono (sort_own A3 m3 c3 (ds ++ ms) w4 OD3.out (by have := hm.out; have := hlm.out; rw [List.length_append]; omega)) ?_)
      rintro ee w5 ⟨rfl, ho5, hg5⟩
      have hz5 := hg5.size
      have hz4 := B6.out.lt
      replace BB := Lib.hid (BB.out.grown hg5 (fun e => by have := (Q3.out _ e.symm); omega))
      replace BR := Lib.hid (BR.out.grown hg5 (fun e => by have := (Q3.out _ e.symm); omega))
      replace B6 := Lib.hid (B6.out.grown hg5 (fun e => (Q3.out _ e.symm).2 rfl))
      replace OS := Lib.hid (OS.out.other hg5 (fun q e e2 => by have h1 := hsm.out q e; have h2 := Q3.out q e2; omega))
      replace hB := hB.grown hg5 hB.size (fun q e => by have := Q3.out q e; omega)
      have OD5 := Lib.hid ho5
      obtain ⟨⟨x0, x1, x2⟩, y0, y1, y2⟩ := r3_cells BR.out
      obtain ⟨⟨o0, o1, o2⟩, p0, p1, p2⟩ := r3_cells B6.out
      have hlR := BR.out.lt
      have hl6 := B6.out.lt
      obtain ⟨en, RS⟩ := OS.out.rd
      obtain ⟨em, RD⟩ := OD5.out.rd
      have hen : n' ≤ 3000000 := by have := hn.out; omega
      have hem : m3 ≤ 3000000 := by have := hm.out; have := hlm.out; rw [srt_len, List.length_append] at em; omega
      have HI := iIsC_any S' n' c' ss A3 m3 c3 (srt (ds ++ ms)) ch w5 RS RD hen hem
      rw [HOK.out] at HI
      clear ho5 hg5 OD3 RS RD en em hz5 hz4 HOK
      cases hi : incB (srt (ds ++ ms)) with
      | false =>
        have hQ := buC_5 (ss := ss) hin.out hi
        rw [hi] at HI
        replace HI := Lib.hid HI
        clear hi
        dsimp only
        go_wp2_with (go_at_call 18; (with_reducible refine Calls.mono HI.out ?_); rintro ee w8 ⟨rfl, hb⟩; replace hB := bel_step hB hb; replace BR := Lib.hid (blk_later BR.out hb); replace B6 := Lib.hid (blk_later B6.out hb); replace OS := Lib.hid (OS.out.later hb); replace OD5 := Lib.hid (OD5.out.later hb); clear x0 x1 x2 y0 y1 y2 o0 o1 o2 p0 p1 p2; obtain ⟨⟨x0, x1, x2⟩, y0, y1, y2⟩ := r3_cells BR.out; obtain ⟨⟨o0, o1, o2⟩, p0, p1, p2⟩ := r3_cells B6.out; have hlR := BR.out.lt; have hl6 := B6.out.lt; clear hb)
        (try simp only [Exit.inBlock, Exit.then]); refine bodyPost_ret (v := .tuple #[.agg #[.slice none 0 0, .slice none 0 0, .int .i64 0], .int .i64 5]) (by simp [results, Tryz.results33, go_sem, x0, x1, x2, hlR]; done) rfl ?_
        rw [hQ.out]
        exact buP_no (by decide) (by go_grown)
      | true =>
        have hQ := buC_0 (ss := ss) hin.out hi
        rw [hi] at HI
        replace HI := Lib.hid HI
        clear hi
        dsimp only
        go_wp2_with (go_at_call 18; (with_reducible refine Calls.mono HI.out ?_); rintro ee w8 ⟨rfl, hb⟩; replace hB := bel_step hB hb; replace BR := Lib.hid (blk_later BR.out hb); replace B6 := Lib.hid (blk_later B6.out hb); replace OS := Lib.hid (OS.out.later hb); replace OD5 := Lib.hid (OD5.out.later hb); clear x0 x1 x2 y0 y1 y2 o0 o1 o2 p0 p1 p2; obtain ⟨⟨x0, x1, x2⟩, y0, y1, y2⟩ := r3_cells BR.out; obtain ⟨⟨o0, o1, o2⟩, p0, p1, p2⟩ := r3_cells B6.out; have hlR := BR.out.lt; have hl6 := B6.out.lt; clear hb)
        (try simp only [Exit.inBlock, Exit.then]); refine bodyPost_ret (v := .tuple #[.agg #[.slice S' n' c', .slice A3 m3 c3, .int .i64 ch], .int .i64 0]) (by simp [results, Tryz.results33, go_sem, x0, x1, x2, hlR]; done) rfl ?_
        rw [hQ.out]
        have OC : OwC w8 (w.heap.size + 2) (.slice S' n' c') (.slice A3 m3 c3) ss (srt (ds ++ ms)) := ⟨mid, ⟨by omega, by omega⟩, OS.out, hsm.out, OD5.out⟩
        exact ⟨S', n', c', A3, m3, c3, rfl, (((OC.store (by show w.heap.size + 1 < _; omega) _).store (by show w.heap.size + 1 < _; omega) _).store (by show w.heap.size + 1 < _; omega) _).mono (by omega), by go_grown⟩
    | false =>
      rw [hc2] at H2
      replace H2 := Lib.hid H2
      have hQ := buC_2 (ss := ss) (ds := ds) (ms := ms) (fun h => by rw [hn, hc2] at h; cases h.2)
      clear hS hD hM hok hk hc2
      go_enter Tryz.func33, Tryz.ntmps33
      go_wp2_with (first | (go_at_call 38; (with_reducible refine Calls.mono (H1.out _) ?_); rintro ee wz ⟨rfl, rfl⟩) | (go_at_call 40; (with_reducible refine Calls.mono (H2.out _ hB) ?_); rintro ee wz ⟨rfl, hb⟩; replace hB := bel_step hB hb; replace BB := Lib.hid (blk_later BB.out hb); replace BR := Lib.hid (blk_later BR.out hb); (try clear c0 c1 c2); obtain ⟨c0, c1, c2⟩ := c3_cells BB.out; have hlB := BB.out.lt; (try clear x0 x1 x2 y0 y1 y2); obtain ⟨⟨x0, x1, x2⟩, y0, y1, y2⟩ := r3_cells BR.out; have hlR := BR.out.lt; clear hb))
      (try simp only [Exit.inBlock, Exit.then]); refine bodyPost_ret (v := .tuple #[.agg #[.slice none 0 0, .slice none 0 0, .int .i64 0], .int .i64 2]) (by simp [results, Tryz.results33, go_sem, x0, x1, x2, hlR]; done) rfl ?_
      rw [hQ.out]
      exact buP_no (by decide) (by go_grown)
  · have hQ := buC_2 (ss := ss) (ds := ds) (ms := ms) (fun h => by omega)
    clear hS hD hM hok hk H2
    obtain ⟨⟨x0, x1, x2⟩, y0, y1, y2⟩ := r3_cells BR.out
    have hlR := BR.out.lt
    go_enter Tryz.func33, Tryz.ntmps33
    go_wp2_with fail
    (try simp only [Exit.inBlock, Exit.then]); refine bodyPost_ret (v := .tuple #[.agg #[.slice none 0 0, .slice none 0 0, .int .i64 0], .int .i64 2]) (by simp [results, Tryz.results33, go_sem, x0, x1, x2, hlR]; done) rfl ?_
    rw [hQ.out]
    exact buP_no (by decide) (by go_grown)
end Go.Proofs.YtaikfclgmkfooaaGreatDoor
