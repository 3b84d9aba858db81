/-
  Walks of ReadClass: the program's side.
-/
import Derived.Test.YtaikfclgmkfooaaGreatDoorDI2
set_option linter.unusedSimpArgs false
set_option linter.unusedVariables false
namespace Go.Proofs.YtaikfclgmkfooaaGreatDoor
open Go Go.RowKit
theorem shI_app (r : List Int) (x : Int) : shI (r ++ [x]) = shI r ++ [if x < 0 then wrap64 (-x) else x] := by unfold shI; rw [List.map_append]; simp only [List.map_cons, List.map_nil, IntWalk.i64_left]
theorem okC_in {ss ds : List Int} {ch : Int} (h : okC ss ds ch = true) : (∀ z ∈ ss, I64' z) ∧ I64' ch := by
  have h1 := okC_iff.1 h
  refine ⟨fun z hz => ?_, ?_⟩
  · have := inR_iff.1 (List.all_eq_true.1 h1.2.1 z hz)
    unfold I64'
    omega
  · unfold I64'
    omega
theorem OwW.other {w w' : World} {base : Nat} {v : Value} {zs : List ByteArray} {row : Option Nat} (h : OwW w base v zs) (hg : w.grownBy w' row) (hq : ∀ q, v.ownBlock = some q → row ≠ some q) : OwW w' base v zs := by
  refine World.ownsRow.kept h hg ?_
  cases hv : v.ownBlock with
  | none => exact .inl rfl
  | some q => exact .inr (fun e => hq q hv e.symm)
/-- a text while it is read: the words vw lie below w1, the class's cells are cs, its rows oS, oD lie from w1 on -/
structure RS (w w1 wr : World) (vw : Value) (ws : List ByteArray) (cs : Array Value) (oS oD : Value) (ss ds : List Int) : Prop where
  hB : Below w.heap.size w wr
  hz : w1.heap.size ≤ wr.heap.size
  hw : w.heap.size + 2 ≤ w1.heap.size
  BR : Blk wr w.heap.size 26 #[.slice none 0 0, .slice none 0 0, .int .i64 0]
  BC : Blk wr (w.heap.size + 1) 26 cs
  OW : OwW wr (w.heap.size + 2) vw ws
  qW : ∀ q, vw.ownBlock = some q → q < w1.heap.size
  OC : OwD wr w1.heap.size oS oD ss ds
section
variable {w w1 wr wz : World} {vw : Value} {ws : List ByteArray} {cs : Array Value} {oS oD : Value} {ss ds : List Int}
theorem RS.later (h : RS w w1 wr vw ws cs oS oD ss ds) (hb : Below wr.heap.size wr wz) : RS w w1 wz vw ws cs oS oD ss ds :=
  ⟨bel_step h.hB hb, Nat.le_trans h.hz hb.size, h.hw, blk_later h.BR hb, blk_later h.BC hb, h.OW.later hb, h.qW, h.OC.later hb⟩
theorem RS.store (h : RS w w1 wr vw ws cs oS oD ss ds) (i : Nat) (u : Value) : RS w w1 (wr.setCell ⟨w.heap.size + 1, i, none⟩ u) vw ws (cs.setIfInBounds i u) oS oD ss ds :=
  ⟨h.hB.setCell (by show w.heap.size ≤ w.heap.size + 1; omega) _, by have := h.hz; simpa [World.setCell] using this, h.hw, h.BR.far (by show w.heap.size ≠ w.heap.size + 1; omega) _, h.BC.set_ i u,
    h.OW.off (grownBy_one _ ⟨w.heap.size + 1, i, none⟩ u) (fun q e => by have := (own_rowW h.OW q e).1; show q ≠ w.heap.size + 1; omega), h.qW, h.OC.store (by show w.heap.size + 1 < w1.heap.size; have := h.hw; omega) u⟩
theorem RS.grow (h : RS w w1 wr vw ws cs oS oD ss ds) {row : Option Nat} (hg : wr.grownBy wz row) (hr : ∀ q, row = some q → w1.heap.size ≤ q) : Below w.heap.size w wz ∧ w1.heap.size ≤ wz.heap.size ∧ Blk wz w.heap.size 26 #[.slice none 0 0, .slice none 0 0, .int .i64 0] ∧ Blk wz (w.heap.size + 1) 26 cs ∧ OwW wz (w.heap.size + 2) vw ws :=
  have hw := h.hw
  have hz := h.hz
  ⟨h.hB.grown hg (by omega) (fun q e => by have := hr q e; omega), Nat.le_trans hz hg.size, h.BR.grown hg (fun e => by have := hr _ e.symm; omega), h.BC.grown hg (fun e => by have := hr _ e.symm; omega), h.OW.other hg (fun q e e2 => by have := hr q e2; have := h.qW q e; omega)⟩
theorem RS.appS (h : RS w w1 wr vw ws cs oS oD ss ds) {v : Value} {xs : List Int} (hg : wr.grownBy wz oS.ownBlock) (ho : OwI wz w1.heap.size v xs) (hq : ∀ q, v.ownBlock = some q → oS.ownBlock = some q ∨ q = wr.heap.size) : RS w w1 wz vw ws cs v oD xs ds := by
  obtain ⟨h1, h2, h3, h4, h5⟩ := h.grow hg (fun q e => (own_rowI h.OC.1 q e).1)
  refine ⟨h1, h2, h.hw, h3, h4, h5, h.qW, ho, h.OC.2.1.other hg (fun q e e2 => h.OC.2.2 q q e2 e rfl), fun q p e1 e2 => ?_⟩
  rcases hq q e1 with h6 | h6
  · exact h.OC.2.2 q p h6 e2
  · have := (own_rowI h.OC.2.1 p e2).2
    omega
theorem RS.appD (h : RS w w1 wr vw ws cs oS oD ss ds) {v : Value} {xs : List Int} (hg : wr.grownBy wz oD.ownBlock) (ho : OwI wz w1.heap.size v xs) (hq : ∀ q, v.ownBlock = some q → oD.ownBlock = some q ∨ q = wr.heap.size) : RS w w1 wz vw ws cs oS v ss xs := by
  obtain ⟨h1, h2, h3, h4, h5⟩ := h.grow hg (fun q e => (own_rowI h.OC.2.1 q e).1)
  refine ⟨h1, h2, h.hw, h3, h4, h5, h.qW, h.OC.1.other hg (fun q e e2 => h.OC.2.2 q q e e2 rfl), ho, fun q p e1 e2 => ?_⟩
  rcases hq p e2 with h6 | h6
  · exact h.OC.2.2 q p e1 h6
  · have := (own_rowI h.OC.1 q e1).2
    omega
end
set_option maxHeartbeats 4000000 in
set_option maxRecDepth 100000 in
theorem iRead_any (s : ByteArray) (w : World) (hs : s.size ≤ 1048576) (hL : Lb w) : Calls Tryz.prog 9 #[.string s] w fun e w' => RcP (rcT (rdI s.data.toList)) w w' e := by
  have HL := Lib.hid (fun W (hB : Below w.heap.size w W) => hL.later hB)
  have H1 := Lib.hid (fun W hW => fSplit_any s W hs hW)
  have hwl := spl_len s.data.toList
  rw [size_list] at hwl
  have HWL := Lib.hid hwl
  have BR : Hid (Blk ((w.alloc (.cells #[.slice none 0 0, .slice none 0 0, .int .i64 0] 26)).alloc (.cells #[.slice none 0 0, .slice none 0 0, .int .i64 0] 26)) w.heap.size 26 #[.slice none 0 0, .slice none 0 0, .int .i64 0]) := Lib.hid ((Blk.new w 26 #[.slice none 0 0, .slice none 0 0, .int .i64 0]).alloc _)
  have BC : Hid (Blk ((w.alloc (.cells #[.slice none 0 0, .slice none 0 0, .int .i64 0] 26)).alloc (.cells #[.slice none 0 0, .slice none 0 0, .int .i64 0] 26)) (w.heap.size + 1) 26 #[.slice none 0 0, .slice none 0 0, .int .i64 0]) := Lib.hid (by have h := Blk.new (w.alloc (.cells #[.slice none 0 0, .slice none 0 0, .int .i64 0] 26)) 26 #[.slice none 0 0, .slice none 0 0, .int .i64 0]; rw [World.size_alloc] at h; exact h)
  have hB : Below w.heap.size w ((w.alloc (.cells #[.slice none 0 0, .slice none 0 0, .int .i64 0] 26)).alloc (.cells #[.slice none 0 0, .slice none 0 0, .int .i64 0] 26)) := (al_ _ _).alloc (by simp) _
  obtain ⟨L, hLL⟩ : ∃ L, L = s.data.toList := ⟨_, rfl⟩
  rw [← hLL] at HWL ⊢
  replace hLL := Lib.hid hLL
  clear hL hwl
  go_enter Tryz.func9, Tryz.ntmps9
  go_wp2_with (first | (go_at_call 28; (with_reducible refine Calls.mono (H1.out _ (HL.out _ hB)) ?_); rintro ee w1 ⟨hb, A, nw, cw, ws, rfl, ho, hw, hz⟩; refine Hid.out ?_))
  obtain rfl : nw = ws.length := ho.rd.1
  have hnl : ws.length ≤ 1048577 := by have h1 := congrArg List.length hw; rw [bts_len, ← hLL.out] at h1; have := HWL.out; omega
  have R : Hid (RS w w1 w1 (.slice A ws.length cw) ws #[.slice none 0 0, .slice none 0 0, .int .i64 0] (.slice none 0 0) (.slice none 0 0) [] []) := Lib.hid ⟨bel_step hB hb, Nat.le_refl _, by have := hb.size; simp at this; omega, blk_later BR.out hb, blk_later BC.out hb, by have h := ho; simp only [World.size_alloc] at h; exact h, fun q e => (own_rowW ho q e).2, OwD.nil⟩
  rw [← hLL.out] at hw
  have HW := Lib.hid hw
  have HP := Lib.hid (fun x W hx hW => parse_any x W (Nat.le_trans (hz x hx) hs) hW)
  refine Lib.hid ?_
  clear hB hb ho hw hz H1 BR BC
  (try clear x0 x1 x2 y0 y1 y2 hlR); obtain ⟨⟨x0, x1, x2⟩, y0, y1, y2⟩ := r3_cells R.out.BR; have hlR := R.out.BR.lt; (try clear o0 o1 o2 p0 p1 p2 hlC); obtain ⟨⟨o0, o1, o2⟩, p0, p1, p2⟩ := r3_cells R.out.BC; have hlC := R.out.BC.lt
  go_wp2
  go_loopw [13] (fun i wr => ∃ (k : Nat) (ns : List Int) (S : Option Addr) (n c : Nat) (D : Option Addr) (m d : Nat), i = .int .i64 k ∧ k ≤ ws.length ∧ ns.length = k ∧ Hid (nums prs (bts (ws.take k)) = some ns) ∧ Hid (RS w w1 wr (.slice A ws.length cw) ws #[.slice S n c, .slice D m d, .int .i64 (ns.headD 0)] (.slice S n c) (.slice D m d) (shI ns.tail) (deadOf 0 ns.tail))) (fun i _ => ws.length - (intOf i).toNat)
  case atStart => exact ⟨0, [], none, 0, 0, none, 0, 0, rfl, Nat.zero_le _, rfl, Lib.hid rfl, R⟩
  case round =>
    clear R x0 x1 x2 y0 y1 y2 hlR o0 o1 o2 p0 p1 p2 hlC
    obtain ⟨k, ns, S, n, c, D, m, d, rfl, hk, hln, HN, R⟩ := hrel
    (try clear x0 x1 x2 y0 y1 y2 hlR); obtain ⟨⟨x0, x1, x2⟩, y0, y1, y2⟩ := r3_cells R.out.BR; have hlR := R.out.BR.lt; (try clear o0 o1 o2 p0 p1 p2 hlC); obtain ⟨⟨o0, o1, o2⟩, p0, p1, p2⟩ := r3_cells R.out.BC; have hlC := R.out.BC.lt
    by_cases hlt : k < ws.length
    · obtain ⟨ad, x, rfl, hb1, hx, hc⟩ := RdW.atW R.out.OW.rd.2 hlt
      have HX := Lib.hid hx
      have HPx := Lib.hid (HP.out x)
      clear hx
      go_wp2_with (go_at_call 29; (with_reducible refine Calls.mono (HPx.out _ (List.mem_of_getElem? HX.out) (HL.out _ R.out.hB)) ?_); rintro ee wz ⟨hb, z, er, rfl, hor⟩; replace R := Lib.hid (R.out.later hb); clear hb; (try clear x0 x1 x2 y0 y1 y2 hlR); obtain ⟨⟨x0, x1, x2⟩, y0, y1, y2⟩ := r3_cells R.out.BR; have hlR := R.out.BR.lt; (try clear o0 o1 o2 p0 p1 p2 hlC); obtain ⟨⟨o0, o1, o2⟩, p0, p1, p2⟩ := r3_cells R.out.BC; have hlC := R.out.BC.lt; refine Hid.out ?_)
      rcases hor with ⟨rfl, hv⟩ | ⟨hv, t, p, rfl⟩
      · have HN2 : Hid (nums prs (bts (ws.take (k + 1))) = some (ns ++ [z])) := Lib.hid (by rw [bts_take HX.out]; exact nums_app _ _ _ _ HN.out hv)
        clear hv HN
        refine Lib.hid ?_
        by_cases hk0 : k = 0
        · obtain rfl : ns = [] := List.eq_nil_of_length_eq_zero (by omega)
          subst hk0
          go_wp2
          exact ⟨⟨1, [z], S, n, c, D, m, d, by go_num, by omega, rfl, HN2, Lib.hid (R.out.store 2 _)⟩, by simp [intOf]; omega⟩
        · have e0 : ((k : Int) == 0) = false := by rw [beq_eq_false_iff_ne]; omega
          obtain ⟨n0, r, rfl⟩ : ∃ n0 r, ns = n0 :: r := by
            cases ns with
            | nil => exact absurd hln (fun e => hk0 e.symm)
            | cons n0 r => exact ⟨n0, r, rfl⟩
          simp only [List.tail_cons, List.headD_cons, List.cons_append] at R HN2 o2
          have hrl : r.length + 1 = k := by simpa using hln
          have qk := IntWalk.i64_in ((k : Int) - 1) (by omega)
          by_cases hz : z < 0
          · have HS : Hid (shI (r ++ [z]) = shI r ++ [wrap64 (-z)]) := Lib.hid (by rw [shI_app, if_pos hz])
            have HD : Hid (deadOf 0 (r ++ [z]) = deadOf 0 r ++ [(k : Int) - 1]) := Lib.hid (by rw [deadOf_app, if_pos hz]; congr 2; omega)
            go_wp2_with (at_builtin; refine wpl_app_intM rfl _ _ rfl w1.heap.size (deadOf 0 r) _ (by rfl) (R.out.OC.2.1.later (al_ _ _)) _ _ 1 (by rfl) ((Blk.new _ _ _).cell 0) (by have h1 := deadOf_len r 0; omega) (by have := R.out.hz; simp; omega) ?_; intro A3 m3 c3 w3 ho3 hg3 hq3; replace R := Lib.hid ((R.out.later (al_ _ _)).appD hg3 ho3 hq3); clear ho3 hg3 hq3; (try clear x0 x1 x2 y0 y1 y2 hlR); obtain ⟨⟨x0, x1, x2⟩, y0, y1, y2⟩ := r3_cells R.out.BR; have hlR := R.out.BR.lt; (try clear o0 o1 o2 p0 p1 p2 hlC); obtain ⟨⟨o0, o1, o2⟩, p0, p1, p2⟩ := r3_cells R.out.BC; have hlC := R.out.BC.lt; refine Hid.out ?_)
            refine Lib.hid ?_
            go_upto_region 13 with fail
            replace R : Hid (RS w w1 (w3.setCell ⟨(w.heap.size + 1), 1, none⟩ (.slice A3 m3 c3)) (.slice (some ad) ws.length cw) ws #[.slice S n c, .slice A3 m3 c3, .int .i64 n0] (.slice S n c) (.slice A3 m3 c3) (shI r) (deadOf 0 r ++ [(k : Int) - 1])) := Lib.hid (R.out.store 1 (.slice A3 m3 c3))
            clear x0 x1 x2 y0 y1 y2 hlR o0 o1 o2 p0 p1 p2 hlC
            generalize w3.setCell ⟨(w.heap.size + 1), 1, none⟩ (.slice A3 m3 c3) = w5 at *
            (try clear x0 x1 x2 y0 y1 y2 hlR); obtain ⟨⟨x0, x1, x2⟩, y0, y1, y2⟩ := r3_cells R.out.BR; have hlR := R.out.BR.lt; (try clear o0 o1 o2 p0 p1 p2 hlC); obtain ⟨⟨o0, o1, o2⟩, p0, p1, p2⟩ := r3_cells R.out.BC; have hlC := R.out.BC.lt
            go_wp2_with (at_builtin; refine wpl_app_intM rfl _ _ rfl w1.heap.size (shI r) _ (by rfl) (R.out.OC.1.later (al_ _ _)) _ _ 1 (by rfl) ((Blk.new _ _ _).cell 0) (by have h1 : (shI r).length = r.length := (by simp [shI]); rw [h1]; omega) (by have := R.out.hz; simp; omega) ?_; intro A4 m4 c4 w4 ho4 hg4 hq4; replace R := Lib.hid ((R.out.later (al_ _ _)).appS hg4 ho4 hq4); clear ho4 hg4 hq4; (try clear x0 x1 x2 y0 y1 y2 hlR); obtain ⟨⟨x0, x1, x2⟩, y0, y1, y2⟩ := r3_cells R.out.BR; have hlR := R.out.BR.lt; (try clear o0 o1 o2 p0 p1 p2 hlC); obtain ⟨⟨o0, o1, o2⟩, p0, p1, p2⟩ := r3_cells R.out.BC; have hlC := R.out.BC.lt; refine Hid.out ?_)
            refine Lib.hid ?_
            go_wp2
            exact ⟨⟨k + 1, n0 :: (r ++ [z]), A4, m4, c4, A3, m3, c3, by go_num, by omega, by simp; omega, HN2, Lib.hid (by rw [List.tail_cons, List.headD_cons, HS.out, HD.out]; exact R.out.store 0 _)⟩, by simp [intOf]; omega⟩
          · have HS : Hid (shI (r ++ [z]) = shI r ++ [z]) := Lib.hid (by rw [shI_app, if_neg hz])
            have HD : Hid (deadOf 0 (r ++ [z]) = deadOf 0 r) := Lib.hid (by rw [deadOf_app, if_neg hz, List.append_nil])
            go_wp2_with (at_builtin; refine wpl_app_intM rfl _ _ rfl w1.heap.size (shI r) _ (by rfl) (R.out.OC.1.later (al_ _ _)) _ _ 1 (by rfl) ((Blk.new _ _ _).cell 0) (by have h1 : (shI r).length = r.length := (by simp [shI]); rw [h1]; omega) (by have := R.out.hz; simp; omega) ?_; intro A3 m3 c3 w3 ho3 hg3 hq3; replace R := Lib.hid ((R.out.later (al_ _ _)).appS hg3 ho3 hq3); clear ho3 hg3 hq3; (try clear x0 x1 x2 y0 y1 y2 hlR); obtain ⟨⟨x0, x1, x2⟩, y0, y1, y2⟩ := r3_cells R.out.BR; have hlR := R.out.BR.lt; (try clear o0 o1 o2 p0 p1 p2 hlC); obtain ⟨⟨o0, o1, o2⟩, p0, p1, p2⟩ := r3_cells R.out.BC; have hlC := R.out.BC.lt; refine Hid.out ?_)
            refine Lib.hid ?_
            go_wp2
            exact ⟨⟨k + 1, n0 :: (r ++ [z]), A3, m3, c3, D, m, d, by go_num, by omega, by simp; omega, HN2, Lib.hid (by rw [List.tail_cons, List.headD_cons, HS.out, HD.out]; exact R.out.store 0 _)⟩, by simp [intOf]; omega⟩
      · have HQ : Hid (rdI L = none) := Lib.hid (by unfold rdI; rw [← HW.out, nums_no _ _ (bts_mem HX.out) hv])
        refine Lib.hid ?_
        clear hv
        go_wp2
        (try simp only [Exit.inBlock, Exit.then]); refine bodyPost_ret (v := .tuple #[.agg #[.slice none 0 0, .slice none 0 0, .int .i64 0], .int .i64 6]) (by simp [results, Tryz.results9, go_sem, x0, x1, x2, hlR]; done) rfl ?_
        exact RcP.no (by rw [HQ.out]; rfl) (by have := R.out.hB; go_grown)
    · obtain rfl : k = ws.length := by omega
      rw [List.take_of_length_le (Nat.le_refl _), HW.out] at HN
      obtain ⟨n0, r, rfl⟩ := nums_ne HN.out
      simp only [List.tail_cons, List.headD_cons] at R o2
      have hcp := R.out.OC.rdS
      have hsl : (shI r).length = r.length := by simp [shI]
      have hdl := deadOf_len r 0
      have hrl : r.length + 1 = ws.length := by simpa using hln
      have HC := Lib.hid (iIsC_any S n c (shI r) D m d (deadOf 0 r) n0 wr hcp.2.1 hcp.2.2 (by omega) (by omega))
      have HE : Hid (rdI L = if okC (shI r) (deadOf 0 r) n0 = true ∧ Lib.join ((n0 :: txL (deadOf 0 r) 0 (shI r)).map Lib.itoa) [32] = L then some (shI r, deadOf 0 r, n0) else none) := Lib.hid (by unfold rdI; rw [HN.out])
      have HT := Lib.hid (fun W (hb : Below wr.heap.size wr W) (hok : okC (shI r) (deadOf 0 r) n0 = true) => text_any S n c (shI r) D m d (deadOf 0 r) n0 W ((hcp.2.1.below hb).more hb.size) ((hcp.2.2.below hb).more hb.size) (by have h1 := (okC_iff.1 hok).1; have h2 := hcp.1.1; omega) (by omega) (okC_in hok).1 (okC_in hok).2 (HL.out _ (bel_step R.out.hB hb)))
      clear hcp hsl hdl
      cases hok : okC (shI r) (deadOf 0 r) n0 with
      | false =>
        rw [hok] at HC
        have HQ : Hid (rdI L = none) := Lib.hid (by rw [HE.out, hok, if_neg (by simp)])
        clear HT
        go_wp2_with (go_at_call 18; (with_reducible refine Calls.mono HC.out ?_); rintro ee w4 ⟨rfl, hb4⟩; replace R := Lib.hid (R.out.later hb4); clear hb4; (try clear x0 x1 x2 y0 y1 y2 hlR); obtain ⟨⟨x0, x1, x2⟩, y0, y1, y2⟩ := r3_cells R.out.BR; have hlR := R.out.BR.lt; (try clear o0 o1 o2 p0 p1 p2 hlC); obtain ⟨⟨o0, o1, o2⟩, p0, p1, p2⟩ := r3_cells R.out.BC; have hlC := R.out.BC.lt)
        (try simp only [Exit.inBlock, Exit.then]); refine bodyPost_ret (v := .tuple #[.agg #[.slice none 0 0, .slice none 0 0, .int .i64 0], .int .i64 6]) (by simp [results, Tryz.results9, go_sem, x0, x1, x2, hlR]; done) rfl ?_
        exact RcP.no (by rw [HQ.out]; rfl) (by have := R.out.hB; go_grown)
      | true =>
        rw [hok] at HC
        have HT2 := Lib.hid (fun W hb => HT.out W hb hok)
        rw [hok] at HE
        simp only [true_and] at HE
        clear HT
        generalize hj : Lib.join ((n0 :: txL (deadOf 0 r) 0 (shI r)).map Lib.itoa) [32] = J at *
        have hb0 := Below.refl wr.heap.size wr
        go_wp2_with (first | (go_at_call 18; (with_reducible refine Calls.mono HC.out ?_); rintro ee w4 ⟨rfl, hb4⟩; replace R := Lib.hid (R.out.later hb4); replace hb0 := bel_step hb0 hb4; clear hb4; (try clear x0 x1 x2 y0 y1 y2 hlR); obtain ⟨⟨x0, x1, x2⟩, y0, y1, y2⟩ := r3_cells R.out.BR; have hlR := R.out.BR.lt; (try clear o0 o1 o2 p0 p1 p2 hlC); obtain ⟨⟨o0, o1, o2⟩, p0, p1, p2⟩ := r3_cells R.out.BC; have hlC := R.out.BC.lt) | (go_at_call 22; (with_reducible refine Calls.mono (HT2.out _ hb0) ?_); rintro ee w5 ⟨rfl, hb5⟩; replace R := Lib.hid (R.out.later hb5); clear hb5; (try clear x0 x1 x2 y0 y1 y2 hlR); obtain ⟨⟨x0, x1, x2⟩, y0, y1, y2⟩ := r3_cells R.out.BR; have hlR := R.out.BR.lt; (try clear o0 o1 o2 p0 p1 p2 hlC); obtain ⟨⟨o0, o1, o2⟩, p0, p1, p2⟩ := r3_cells R.out.BC; have hlC := R.out.BC.lt; refine Hid.out ?_))
        refine Lib.hid ?_
        by_cases hJ : J = L
        · have HQ : Hid (rdI L = some (shI r, deadOf 0 r, n0)) := Lib.hid (by rw [HE.out, if_pos hJ])
          have hJ2 : (J == s.toList) = true := by rw [Lib.toList_data, ← hLL.out, beq_iff_eq]; exact hJ
          clear hJ
          go_wp2
          (try simp only [Exit.inBlock, Exit.then]); refine bodyPost_ret (v := .tuple #[.agg #[.slice S n c, .slice D m d, .int .i64 n0], .int .i64 0]) (by simp [results, Tryz.results9, go_sem, x0, x1, x2, hlR]; done) rfl ?_
          rw [HQ.out]
          exact ⟨(by have := R.out.hB; go_grown), S, n, c, D, m, d, rfl, (((R.out.OC.store (by show w.heap.size < _; have := R.out.hw; omega) _).store (by show w.heap.size < _; have := R.out.hw; omega) _).store (by show w.heap.size < _; have := R.out.hw; omega) _).mono (by have := R.out.hw; omega)⟩
        · have HQ : Hid (rdI L = none) := Lib.hid (by rw [HE.out, if_neg hJ])
          have hJ2 : (J == s.toList) = false := by rw [Lib.toList_data, ← hLL.out, beq_eq_false_iff_ne]; exact hJ
          clear hJ
          go_wp2
          (try simp only [Exit.inBlock, Exit.then]); refine bodyPost_ret (v := .tuple #[.agg #[.slice none 0 0, .slice none 0 0, .int .i64 0], .int .i64 6]) (by simp [results, Tryz.results9, go_sem, x0, x1, x2, hlR]; done) rfl ?_
          exact RcP.no (by rw [HQ.out]; rfl) (by have := R.out.hB; go_grown)
end Go.Proofs.YtaikfclgmkfooaaGreatDoor
