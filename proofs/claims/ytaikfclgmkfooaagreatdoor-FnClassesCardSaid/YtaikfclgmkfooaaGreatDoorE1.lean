/-
  Contracts of chapter 13: burying, the reference's side.
-/
import Derived.Test.YtaikfclgmkfooaaGreatDoorD1
import Derived.Test.YtaikfclgmkfooaaGreatDoorQ
set_option linter.unusedSimpArgs false
set_option linter.unusedVariables false
namespace Go.Proofs.YtaikfclgmkfooaaGreatDoor
open Go.RowKit
/-- two operations may come up -/
theorem wpAnyD_two {P : Program} {ops : Array Oper} {Q : Exit → Act → World → Prop} {S : World → Prop} {md : Region.Mode} {L i j : Nat} {oi oj : Oper} {fuel : Nat} {listed : Array Bool} {a : Act} {w : World} (hi : ops[i]? = some oi) (hj : ops[j]? = some oj) (hr : Region.ready md ops listed = [i, j])
    (h1 : ∀ K : Act → World → Prop, (∀ a' w', (i ≠ L → S w') → wpAnyD P md ops Q S L fuel (listed.setIfInBounds i true) a' w' → K a' w') → if Region.wanted oi (yielded ops a.tmps) = true then oi.wp P a w K Q else K (a.put oi.dst undef) w)
    (h2 : ∀ K : Act → World → Prop, (∀ a' w', (j ≠ L → S w') → wpAnyD P md ops Q S L fuel (listed.setIfInBounds j true) a' w' → K a' w') → if Region.wanted oj (yielded ops a.tmps) = true then oj.wp P a w K Q else K (a.put oj.dst undef) w) : wpAnyD P md ops Q S L (fuel + 1) listed a w := by
  refine ⟨fun h0 => (by rw [hr] at h0; cases h0), fun k hk => ?_⟩
  rw [hr] at hk
  have hk2 : k = i ∨ k = j := by simpa using hk
  rcases hk2 with rfl | rfl
  · have h1 := h1 (fun a' w' => (k ≠ L → S w') ∧ wpAnyD P md ops Q S L fuel (listed.setIfInBounds k true) a' w') (fun a' w' h2 h3 => ⟨h2, h3⟩)
    unfold wpOp
    simp only [hi]
    split
    · next hw => rw [if_pos hw] at h1; exact .inl h1
    · next hw => rw [if_neg hw] at h1; exact h1
  · have h1 := h2 (fun a' w' => (k ≠ L → S w') ∧ wpAnyD P md ops Q S L fuel (listed.setIfInBounds k true) a' w') (fun a' w' h2 h3 => ⟨h2, h3⟩)
    unfold wpOp
    simp only [hj]
    split
    · next hw => rw [if_pos hw] at h1; exact .inl h1
    · next hw => rw [if_neg hw] at h1; exact h1
/-- the code of putting in -/
def bR (ds ms : List Int) : Int := if incB (srt (ds ++ ms)) = true then 0 else 5
theorem bR_none {ds ms : List Int} (hd : ds.Pairwise (· < ·)) (h : buR ds ms = none) : Hid (bR ds ms = 5) := by
  show _ = _
  rw [buR_eq ms ds hd] at h
  unfold bR
  split
  · next h1 => rw [if_pos h1] at h; cases h
  · rfl
theorem bR_some {ds ms cur : List Int} (hd : ds.Pairwise (· < ·)) (h : buR ds ms = some cur) : Hid (bR ds ms = 0) ∧ cur = srt (ds ++ ms) := by
  rw [buR_eq ms ds hd] at h
  have hb : bR ds ms = 0 := by
    unfold bR
    split
    · rfl
    · next h1 => rw [if_neg h1] at h; cases h
  split at h
  · next h1 => injection h with h; exact ⟨hb, h.symm⟩
  · next h1 => cases h
theorem cutI {w : World} {B : Nat} {A : Option Addr} {n cap k : Nat} {xs : List Int} (h : RdI w B A n xs) (hk : k ≤ n) (hc : n ≤ cap) : RdI w B (if cap = k then A else A.map (fun x => x.add k)) (n - k) (xs.drop k) := by
  have h2 := RdS.cut h hk hc
  simp only [Nat.mul_one] at h2
  exact h2
theorem cutI_none {A : Option Addr} {cap k : Nat} (h : A = none → cap = 0) : (if cap = k then A else A.map (fun x => x.add k)) = none → cap - k = 0 := by
  intro e
  by_cases hk : cap = k
  · omega
  · rw [if_neg hk] at e
    cases A with
    | none => have := h rfl; omega
    | some a => cases e
theorem own_cap1 {w : World} {base : Nat} {A : Option Addr} {n c : Nat} {zs : List Int} (h : OwI w base (.slice A n c) zs) : n ≤ c ∧ c ≤ maxLen := by
  rcases h.form with ⟨h1, h2⟩ | ⟨g, cap, h1, _, _, h3, h4⟩
  · injection h1 with h1 h2 h3; subst h2 h3; exact ⟨Nat.le_refl _, Nat.zero_le _⟩
  · injection h1 with h1 h2 h5; subst h2 h5; exact ⟨h3, h4⟩
set_option maxHeartbeats 4000000 in
set_option maxRecDepth 100000 in
theorem sBury_any (S : Option Addr) (n c : Nat) (ss : List Int) (D : Option Addr) (m d : Nat) (ds : List Int) (ch : Int) (M : Option Addr) (l e : Nat) (ms : List Int) (w : World) (hS : RdI w w.heap.size S n ss) (hD : RdI w w.heap.size D m ds) (hM : RdI w w.heap.size M l ms) (hcS : S = none → c = 0) (hcD : D = none → d = 0) (hcM : M = none → e = 0) (hl : l ≤ 3000000) (hok : okC ss ds ch = true) (hl2 : l ≤ 120) : Calls Tryz.prog 35 #[.agg #[.slice S n c, .slice D m d, .int .i64 ch], .slice M l e] w fun ee w' => buP w w' ee (bR ds ms) ss (srt (ds ++ ms)) ch := by
  have hk := okC_iff.1 hok
  have hn := hS.len
  have hm := hD.len
  have hlm := hM.len
  have hmn := inc_len hk.2.2.2.2 hk.2.2.1
  have hinc := Lib.hid (incB_iff.1 hk.2.2.2.2)
  have H3 := Lib.hid (fun W (hB : Below w.heap.size w W) => sOwnC_any S n c ss D m d ds ch W ((hS.below hB).more hB.size) ((hD.below hB).more hB.size) hcS hcD (by omega) (by omega))
  have HM := Lib.hid (fun W (hB : Below w.heap.size w W) => (hM.below hB).more hB.size)
  have BB := Lib.hid ((Blk.new w 26 #[.slice S n c, .slice D m d, .int .i64 ch]).alloc (.cells #[.slice none 0 0, .slice none 0 0, .int .i64 0] 26))
  have BR := Lib.hid (Blk.new (w.alloc (.cells #[.slice S n c, .slice D m d, .int .i64 ch] 26)) 26 #[.slice none 0 0, .slice none 0 0, .int .i64 0])
  rw [World.size_alloc] at BR
  have hB : Below w.heap.size w ((w.alloc (.cells #[.slice S n c, .slice D m d, .int .i64 ch] 26)).alloc (.cells #[.slice none 0 0, .slice none 0 0, .int .i64 0] 26)) := (al_ _ _).alloc (by simp) _
  have hnB : n ≤ 60 := by omega
  have hmB : m ≤ 60 := by omega
  replace hn := Lib.hid hn
  replace hm := Lib.hid hm
  replace hlm := Lib.hid hlm
  clear hS hD hM hok hk
  go_enter Tryz.func35, Tryz.ntmps35
  go_wp2_with (go_at_call 52; (with_reducible refine Calls.mono (H3.out _ hB) ?_); rintro ee w6 ⟨S', n', c', D', m', d', rfl, ho, hb⟩; have hzb := BR.out.lt; obtain ⟨mid, ⟨hmid, hm6⟩, OS, hsm, OD⟩ := ho; have hmw : w.heap.size + 1 < mid := Nat.lt_of_lt_of_le hzb hmid; replace OS := Lib.hid (OS.mono (show w.heap.size + 2 ≤ _ from hzb)); replace OD := Lib.hid OD; replace hsm := Lib.hid hsm; replace hB := bel_step hB hb; replace BR := Lib.hid (blk_later BR.out hb); clear hb hmid hzb BB)
  obtain ⟨G, hG⟩ : ∃ G, w6.heap.size = G := ⟨_, rfl⟩
  have hQ0 : Hid (∀ q, (Value.slice D' m' d').ownBlock = some q → q ≠ G) := Lib.hid (fun q e => by have := (own_rowI OD.out q e).2; omega)
  have B6 := Lib.hid (Blk.new w6 26 #[.slice S' n' c', .slice D' m' d', .int .i64 ch])
  rw [hG] at B6 hm6
  replace BR := Lib.hid (BR.out.alloc (.cells #[.slice S' n' c', .slice D' m' d', .int .i64 ch] 26))
  replace OS := Lib.hid (OS.out.alloc (.cells #[.slice S' n' c', .slice D' m' d', .int .i64 ch] 26))
  replace OD := Lib.hid (OD.out.alloc (.cells #[.slice S' n' c', .slice D' m' d', .int .i64 ch] 26))
  replace hB := hB.alloc hB.size (.cells #[.slice S' n' c', .slice D' m' d', .int .i64 ch] 26)
  have hm0 : m' = m + 0 := by have h1 := OD.out.rd.1; have h2 := hm.out; omega
  rw [hG]
  generalize w6.alloc (.cells #[.slice S' n' c', .slice D' m' d', .int .i64 ch] 26) = W0 at *
  clear hG
  go_loopw [7, 8] (fun i _ wr => ∃ (k : Nat) (cur : List Int) (Dx : Option Addr) (mx dx : Nat), i = .int .i64 k ∧ k ≤ l ∧ Below w.heap.size w wr ∧ Hid (Blk wr (w.heap.size + 1) 26 #[.slice none 0 0, .slice none 0 0, .int .i64 0]) ∧ Hid (Blk wr G 26 #[.slice S' n' c', .slice Dx mx dx, .int .i64 ch]) ∧ Hid (OwI wr (w.heap.size + 2) (.slice S' n' c') ss) ∧ Hid (OwI wr mid (.slice Dx mx dx) cur) ∧ Hid (∀ q, (Value.slice Dx mx dx).ownBlock = some q → q ≠ G) ∧ Hid (buR ds ms = buR cur (ms.drop k)) ∧ Hid (cur.Pairwise (· < ·)) ∧ Hid (mx = m + k)) (fun i _ _ => l - (intOf i).toNat)
  case atStart => exact ⟨0, ds, D', m', d', rfl, Nat.zero_le _, hB, BR, B6, OS, OD, hQ0, rfl, hinc, hm0⟩
  case round =>
    clear hB BR B6 OS OD hQ0 hm0
    obtain ⟨k, cur, Dx, mx, dx, rfl, hk, hB, BR, B6, OS, OD, HQ, HR, HP, hmx⟩ := hrel
    obtain ⟨⟨x0, x1, x2⟩, y0, y1, y2⟩ := r3_cells BR.out
    obtain ⟨⟨o0, o1, o2⟩, p0, p1, p2⟩ := r3_cells B6.out
    have hlR := BR.out.lt
    have hl6 := B6.out.lt
    by_cases hlt : k < l
    · obtain ⟨ad, x, rfl, hb1, hz, hx⟩ := RdI.atI (HM.out _ hB) hlt
      have hdrop : ms.drop k = x :: ms.drop (k + 1) := by
        obtain ⟨h1, h2⟩ := List.getElem?_eq_some_iff.1 hz
        rw [List.drop_eq_getElem_cons h1, h2]
      have hR2 := HR.out
      rw [hdrop] at hR2
      have HH := fun (X : InC wr) => has_any Dx mx dx cur x X.w ((OD.out.rd.2.below X.h).more X.h.size) (by have := hmx.out; omega)
      have z1 := fun X : InC wr => X.cell o1
      have z2 := fun X : InC wr => X.cell hx
      have hb2 : (ad.add k).block < wr.heap.size := by rw [block_of_add]; exact hb1
      clear hdrop hz
      cases hh : hs cur x with
      | true =>
        have hn0 : buR ds ms = none := by rw [hR2]; show (if hs cur x = true then none else _) = none; rw [if_pos hh]
        have hK := bR_none hinc.out hn0
        rw [hh] at HH
        replace HH := Lib.hid HH
        clear hR2 hn0 hh
        go_wp2_with fail
        (refine wp_region_inC (by kernel_rfl) (by kernel_rfl) ?_; (repeat go_big_quiet_step ((go_at_call 24; with_reducible exact Calls.inC_same (HH.out _)))); refine wpQuiet_nil ?_; rintro w7 ⟨⟨_, hb⟩, rfl⟩)
        replace BR := Lib.hid (blk_later BR.out hb)
        clear x0 x1 x2 y0 y1 y2 o0 o1 o2 p0 p1 p2 z1 z2 hx
        obtain ⟨⟨x0, x1, x2⟩, y0, y1, y2⟩ := r3_cells BR.out
        have hlR := BR.out.lt
        replace hB := bel_step hB hb
        clear hb
        go_wp2
        (try simp only [Exit.inBlock, Exit.then]); refine bodyPost_ret (v := .tuple #[.agg #[.slice none 0 0, .slice none 0 0, .int .i64 0], .int .i64 5]) (by simp [results, Tryz.results35, go_sem, x0, x1, x2, hlR]; done) rfl ?_
        rw [hK.out]
        exact buP_no (by decide) (by go_grown)
      | false =>
        have hR3 : Hid (buR ds ms = buR (insL cur x) (ms.drop (k + 1))) := by show _ = _; rw [hR2]; show (if hs cur x = true then none else _) = _; rw [if_neg (by rw [hh]; decide)]
        have hP3 := Lib.hid (insL_inc HP.out (fun e => by rw [hs_iff.2 e] at hh; cases hh))
        rw [hh] at HH
        replace HH := Lib.hid HH
        clear hR2 hh
        go_wp2_with fail
        (refine wp_region_inC (by kernel_rfl) (by kernel_rfl) ?_; (repeat go_big_quiet_step ((go_at_call 24; with_reducible exact Calls.inC_same (HH.out _)))); refine wpQuiet_nil ?_; rintro w7 ⟨⟨_, hb⟩, rfl⟩)
        replace hx := keepC hb hx
        replace BR := Lib.hid (blk_later BR.out hb)
        replace B6 := Lib.hid (blk_later B6.out hb)
        replace OS := Lib.hid (OS.out.later hb)
        replace OD := Lib.hid (OD.out.later hb)
        replace hB := bel_step hB hb
        clear x0 x1 x2 y0 y1 y2 o0 o1 o2 p0 p1 p2 z1 z2 HH hb hb1 hb2 hlR hl6
        obtain ⟨⟨x0, x1, x2⟩, y0, y1, y2⟩ := r3_cells BR.out
        obtain ⟨⟨o0, o1, o2⟩, p0, p1, p2⟩ := r3_cells B6.out
        have hlR := BR.out.lt
        have hl6 := B6.out.lt
        have hdx := own_cap1 OD.out
        have hmxB : mx ≤ 1000 := by have := hmx.out; omega
        have hb2 : (ad.add k).block < w7.heap.size := World.block_lt_of_cell? _ _ hx
        (try simp only [Exit.then])
        go_wp2_with fail
        go_loopw [8] (fun j w2 => ∃ jn : Nat, j = .int .i64 jn ∧ jn ≤ mx ∧ Hid (∀ i, i < jn → gz cur i < x) ∧ ∃ q, w2 = w7.drewN q) (fun j _ => mx - (intOf j).toNat)
        case atStart => exact ⟨0, rfl, Nat.zero_le _, fun i hi => by omega, 0, rfl⟩
        case round =>
          obtain ⟨jn, rfl, hj, HJ, q, rfl⟩ := hrel
          by_cases hjm : jn < mx
          · obtain ⟨ad2, rfl, hb3, hy⟩ := RdI.atZ OD.out.rd.2 hjm
            have hb4 : (ad2.add jn).block < w7.heap.size := by rw [block_of_add]; exact hb3
            by_cases hlx : gz cur jn < x
            · have HJ2 : Hid (∀ i, i < jn + 1 → gz cur i < x) := Lib.hid (fun i hi => by
                rcases Nat.lt_or_ge i jn with h | h
                · exact HJ.out i h
                · obtain rfl : i = jn := by omega
                  exact hlx)
              generalize gz cur jn = y at *
              have hlx2 := decide_eq_true hlx
              go_wp2_with fail
              go_quiet (fail)
              go_wp2
              go_roundw
              case rel => exact ⟨jn + 1, by go_num, by omega, HJ2, _, rfl⟩
              case measure => simp [intOf]; omega
            · have hcut : Hid (cutP cur x = jn) := Lib.hid (cutP_eq (by have := OD.out.rd.1; omega) HJ.out (fun _ => hlx))
              generalize gz cur jn = y at *
              have hlx2 := decide_eq_false hlx
              go_wp2_with fail
              go_quiet (fail)
              go_wp2_with fail
              clear hy hb3 hb4
              generalize (some ad2 : Option Addr) = Dx at *
              have hbq : Below w7.heap.size w7 ((w7.drewN q).drewN nq) := bel_step (belowN _) (belowN _)
              replace hx := keepC hbq hx
              replace BR := Lib.hid (blk_later BR.out hbq)
              replace B6 := Lib.hid (blk_later B6.out hbq)
              replace OS := Lib.hid (OS.out.later hbq)
              replace OD := Lib.hid (OD.out.later hbq)
              replace hB := bel_step hB hbq
              clear x0 x1 x2 y0 y1 y2 o0 o1 o2 p0 p1 p2 hb2 hlR hl6 hbq
              generalize (w7.drewN q).drewN nq = wq at *
              have o1 : wq.cell? ⟨G, 1, none⟩ = some (.slice Dx mx dx) := B6.out.cell 1
              have hl6 := B6.out.lt
              have hjd : jn ≤ dx := by omega
              have SS : Hid (∀ W', Below wq.heap.size wq W' → (fun W' : World => W'.cell? ⟨G, 1, none⟩ = some (.slice Dx mx dx) ∧ W'.cell? (ad.add k) = some (.int .i64 x)) W') := Lib.hid (fun W' hb => ⟨keepC hb o1, keepC hb hx⟩)
              have hS0 : (fun W' : World => W'.cell? ⟨G, 1, none⟩ = some (.slice Dx mx dx) ∧ W'.cell? (ad.add k) = some (.int .i64 x)) wq.drew := SS.out _ (Below.refl _ _).drew
              refine wp_region_D 17 (fun W' : World => W'.cell? ⟨G, 1, none⟩ = some (.slice Dx mx dx) ∧ W'.cell? (ad.add k) = some (.int .i64 x)) (by kernel_rfl) ?_
              refine wpAnyD_take (i := 0) (v := ?_) rfl (by kernel_rfl) (fun _ _ _ h => h) (Or.inl ⟨by rfl, ?_⟩) (by assumption) ?_; rotate_left; (intro w' hSw; (try dsimp only at hSw); go_simp; with_reducible rfl); (try simp only [Act.put, List.setIfInBounds_toArray, List.set_cons_zero, List.set_cons_succ])
              refine wpAnyD_take (i := 1) (v := ?_) rfl (by kernel_rfl) (fun _ _ _ h => h) (Or.inl ⟨by rfl, ?_⟩) (by assumption) ?_; rotate_left; (intro w' hSw; (try dsimp only at hSw); go_simp; with_reducible rfl); (try simp only [Act.put, List.setIfInBounds_toArray, List.set_cons_zero, List.set_cons_succ])
              refine wpAnyD_take (i := 2) (v := ?_) rfl (by kernel_rfl) (fun _ _ _ h => h) (Or.inl ⟨by rfl, ?_⟩) (by assumption) ?_; rotate_left; (intro w' hSw; (try dsimp only at hSw); go_simp; with_reducible rfl); (try simp only [Act.put, List.setIfInBounds_toArray, List.set_cons_zero, List.set_cons_succ])
              refine wpAnyD_take (i := 3) (v := ?_) rfl (by kernel_rfl) (fun _ _ _ h => h) (Or.inl ⟨by rfl, ?_⟩) (by assumption) ?_; rotate_left; (intro w' hSw; (try dsimp only at hSw); go_simp; with_reducible rfl); (try simp only [Act.put, List.setIfInBounds_toArray, List.set_cons_zero, List.set_cons_succ])
              refine wpAnyD_take (i := 5) (v := ?_) rfl (by kernel_rfl) (fun _ _ _ h => h) (Or.inl ⟨by rfl, ?_⟩) (by assumption) ?_; rotate_left; (intro w' hSw; (try dsimp only at hSw); go_simp; with_reducible rfl); (try simp only [Act.put, List.setIfInBounds_toArray, List.set_cons_zero, List.set_cons_succ])
              refine wpAnyD_take (i := 6) (v := ?_) rfl (by kernel_rfl) (fun _ _ _ h => h) (Or.inl ⟨by rfl, ?_⟩) (by assumption) ?_; rotate_left; (intro w' hSw; (try dsimp only at hSw); go_simp; with_reducible rfl); (try simp only [Act.put, List.setIfInBounds_toArray, List.set_cons_zero, List.set_cons_succ])
              refine wpAnyD_take (i := 7) (v := ?_) rfl (by kernel_rfl) (fun _ _ _ h => h) (Or.inl ⟨by rfl, ?_⟩) (by assumption) ?_; rotate_left; (intro w' hSw; (try dsimp only at hSw); go_simp; with_reducible rfl); (try simp only [Act.put, List.setIfInBounds_toArray, List.set_cons_zero, List.set_cons_succ])
              refine wpAnyD_take (i := 8) (v := ?_) rfl (by kernel_rfl) (fun _ _ _ h => h) (Or.inl ⟨by rfl, ?_⟩) (by assumption) ?_; rotate_left; (intro w' hSw; (try dsimp only at hSw); go_simp; with_reducible rfl); (try simp only [Act.put, List.setIfInBounds_toArray, List.set_cons_zero, List.set_cons_succ])
              refine wpAnyD_take (i := 11) (v := ?_) rfl (by kernel_rfl) (fun _ _ _ h => h) (Or.inl ⟨by rfl, ?_⟩) (by assumption) ?_; rotate_left; (intro w' hSw; (try dsimp only at hSw); go_simp; with_reducible rfl); (try simp only [Act.put, List.setIfInBounds_toArray, List.set_cons_zero, List.set_cons_succ])
              refine wpAnyD_take (i := 12) (v := ?_) rfl (by kernel_rfl) (fun _ _ _ h => h) (Or.inl ⟨by rfl, ?_⟩) (by assumption) ?_; rotate_left; (intro w' hSw; (try dsimp only at hSw); go_simp; with_reducible rfl); (try simp only [Act.put, List.setIfInBounds_toArray, List.set_cons_zero, List.set_cons_succ])
              refine wpAnyD_take (i := 13) (v := ?_) rfl (by kernel_rfl) (fun _ _ _ h => h) (Or.inl ⟨by rfl, ?_⟩) (by assumption) ?_; rotate_left; (intro w' hSw; (try dsimp only at hSw); go_simp; with_reducible rfl); (try simp only [Act.put, List.setIfInBounds_toArray, List.set_cons_zero, List.set_cons_succ])
              refine wpAnyD_take (i := 14) (v := ?_) rfl (by kernel_rfl) (fun _ _ _ h => h) (Or.inl ⟨by rfl, ?_⟩) (by assumption) ?_; rotate_left; (intro w' hSw; (try dsimp only at hSw); go_simp; with_reducible rfl); (try simp only [Act.put, List.setIfInBounds_toArray, List.set_cons_zero, List.set_cons_succ])
              have hA0 := Lib.hid (OwI.none_cap OD.out)
              have HW := Lib.hid (fun W (hb : Below wq.heap.size wq W) => sOwn_any Dx jn dx (cur.take jn) W (((OD.out.rd.2.below hb).more hb.size).take hj) hA0.out (by omega))
              refine wpAnyD_two (i := 4) (j := 9) rfl rfl (by kernel_rfl) (fun K hK => ?_) (fun K hK => ?_)
              · go_simp
                (with_reducible refine Calls.mono (HW.out _ (Below.refl _ _).drew) ?_)
                rintro ee w8 ⟨A8, m8, c8, rfl, ho, hb⟩
                replace hb := bel_step (w := wq) (Below.refl _ _).drew hb
                have OA : Hid (OwI w8 wq.heap.size (.slice A8 m8 c8) (cur.take jn)) := ho
                clear ho
                dsimp only
                have hS8 : (fun W' : World => W'.cell? ⟨G, 1, none⟩ = some (.slice Dx mx dx) ∧ W'.cell? (ad.add k) = some (.int .i64 x)) w8 := SS.out _ hb
                refine hK _ _ (fun _ => hS8) ?_; clear hK K; (try simp only [Act.put, List.setIfInBounds_toArray, List.set_cons_zero, List.set_cons_succ])
                refine wpAnyD_one (i := 9) rfl (by kernel_rfl) (fun K hK => ?_)
                go_simp
                have hbv := hb.alloc hb.size (.cells #[.int .i64 x] 2)
                replace OA := Lib.hid (OA.out.alloc (.cells #[.int .i64 x] 2))
                have lit : (w8.alloc (.cells #[.int .i64 x] 2)).cell? ⟨w8.heap.size, 0, none⟩ = some (.int .i64 x) := (Blk.new w8 2 #[.int .i64 x]).cell 0
                have hS9 : (fun W' : World => W'.cell? ⟨G, 1, none⟩ = some (.slice Dx mx dx) ∧ W'.cell? (ad.add k) = some (.int .i64 x)) (w8.alloc (.cells #[.int .i64 x] 2)) := SS.out _ hbv
                refine hK _ _ (fun _ => hS9) ?_; clear hK K; (try simp only [Act.put, List.setIfInBounds_toArray, List.set_cons_zero, List.set_cons_succ])
                clear hb hS8
                generalize w8.heap.size = LX at *
                generalize w8.alloc (.cells #[.int .i64 x] 2) = wv at *
                refine wpAnyD_one (i := 10) rfl (by kernel_rfl) (fun K hK => ?_)
                refine step_app_intL (by rfl) _ _ (by rfl) wq.heap.size (cur.take jn) _ (by rfl) OA.out ⟨LX, 0, none⟩ x 1 (by rfl) lit (by have h1 := OD.out.rd.1; rw [List.length_take]; omega) hbv.size ?_
                intro A9 m9 c9 w9 ho9 hg9 hq9
                have rw9 := own_rowI OA.out
                have hb10 : Below wq.heap.size wq w9 := hbv.grown hg9 hbv.size (fun q e => (rw9 q e).1)
                have OA10 := Lib.hid ho9
                clear ho9 hg9 hq9 rw9 lit hbv OA
                have hS10 : (fun W' : World => W'.cell? ⟨G, 1, none⟩ = some (.slice Dx mx dx) ∧ W'.cell? (ad.add k) = some (.int .i64 x)) w9 := SS.out _ hb10
                refine hK _ _ (fun _ => hS10) ?_; clear hK K; (try simp only [Act.put, List.setIfInBounds_toArray, List.set_cons_zero, List.set_cons_succ])
                refine wpAnyD_one (i := 15) rfl (by kernel_rfl) (fun K hK => ?_)
                refine step_app_intsL (by rfl) _ _ (by rfl) wq.heap.size (cur.take jn ++ [x]) _ (by rfl) OA10.out wq.heap.size _ _ _ (cur.drop jn) (by rfl) (cutI (OD.out.rd.2.below hb10) hj hdx.1) (cutI_none hA0.out) (by have h1 := OD.out.rd.1; rw [List.length_append, List.length_take]; simp; omega) hb10.size ?_
                intro A11 m11 c11 w11 ho11 hg11 hq11
                have rw11 := own_rowI OA10.out
                have hb11 : Below wq.heap.size wq w11 := hb10.grown hg11 hb10.size (fun q e => (rw11 q e).1)
                have hins : cur.take jn ++ [x] ++ cur.drop jn = insL cur x := by unfold insL; rw [hcut.out]; simp
                rw [hins] at ho11
                have OA11 := Lib.hid ho11
                clear ho11 hg11 hq11 rw11 hb10 OA10 hins
                have hS11 : (fun W' : World => W'.cell? ⟨G, 1, none⟩ = some (.slice Dx mx dx) ∧ W'.cell? (ad.add k) = some (.int .i64 x)) w11 := SS.out _ hb11
                replace B6 := Lib.hid (blk_later B6.out hb11)
                obtain ⟨⟨o0', o1', o2'⟩, p0', p1', p2'⟩ := r3_cells B6.out
                have hl6' := B6.out.lt
                refine hK _ _ (fun _ => hS11) ?_; clear hK K; (try simp only [Act.put, List.setIfInBounds_toArray, List.set_cons_zero, List.set_cons_succ])
                refine wpAnyD_take (i := 16) (v := ?_) rfl (by kernel_rfl) (fun _ _ _ h => h) (Or.inl ⟨by rfl, ?_⟩) (by assumption) ?_; rotate_left; (intro w' hSw; (try dsimp only at hSw); go_simp; with_reducible rfl); (try simp only [Act.put, List.setIfInBounds_toArray, List.set_cons_zero, List.set_cons_succ])
                refine wpAnyD_one (i := 17) rfl (by kernel_rfl) (fun K hK => ?_)
                go_simp
                refine hK _ _ (fun h => absurd rfl h) ?_
                clear hK K
                refine wpAnyD_done (by kernel_rfl) ?_ _
                have hm11 : Hid (m11 = m + (k + 1)) := Lib.hid (by have h1 := OA11.out.rd.1; have h2 := OD.out.rd.1; have h3 := hmx.out; rw [insL_len] at h1; omega)
                have rwf := Lib.hid (own_rowI OA11.out)
                clear hS0
                go_wp2
                go_roundw
                case rel => exact ⟨k + 1, insL cur x, A11, m11, c11, by go_num, by omega, (bel_step hB hb11).setCell (by show w.heap.size ≤ G; omega) _, (blk_later BR.out hb11).far (by show w.heap.size + 1 ≠ G; omega) _, B6.out.set_ 1 _, (OS.out.later hb11).off (grownBy_one _ _ _) (fun q e => (by have h1 := hsm.out q e; show q ≠ G; omega)), (OA11.out.mono (by omega)).off (grownBy_one _ _ _) (fun q e => (by have h1 := (rwf.out q e).1; show q ≠ G; omega)), Lib.hid (fun q e => (by have h1 := (rwf.out q e).1; omega)), hR3, hP3, hm11⟩
                case measure => simp [intOf]; omega
              · go_simp
                have hb9 : Below wq.heap.size wq (wq.alloc (.cells #[.int .i64 x] 2)).drew := ((Below.refl _ _).alloc (Nat.le_refl _) _).drew
                have hS9 : (fun W' : World => W'.cell? ⟨G, 1, none⟩ = some (.slice Dx mx dx) ∧ W'.cell? (ad.add k) = some (.int .i64 x)) (wq.alloc (.cells #[.int .i64 x] 2)).drew := SS.out _ hb9
                refine hK _ _ (fun _ => hS9) ?_; clear hK K; (try simp only [Act.put, List.setIfInBounds_toArray, List.set_cons_zero, List.set_cons_succ])
                refine wpAnyD_one (i := 4) rfl (by kernel_rfl) (fun K hK => ?_)
                go_simp
                (with_reducible refine Calls.mono (HW.out _ hb9) ?_)
                rintro ee wv ⟨A8, m8, c8, rfl, ho, hb⟩
                have OA : Hid (OwI wv wq.heap.size (.slice A8 m8 c8) (cur.take jn)) := Lib.hid (ho.mono hb9.size)
                have hbv := bel_step hb9 hb
                have lit : wv.cell? ⟨wq.heap.size, 0, none⟩ = some (.int .i64 x) := keepC hb (show (wq.alloc (.cells #[.int .i64 x] 2)).drew.cell? ⟨wq.heap.size, 0, none⟩ = some (.int .i64 x) from (Blk.new wq 2 #[.int .i64 x]).cell 0)
                clear ho
                dsimp only
                have hS8 : (fun W' : World => W'.cell? ⟨G, 1, none⟩ = some (.slice Dx mx dx) ∧ W'.cell? (ad.add k) = some (.int .i64 x)) wv := SS.out _ hbv
                refine hK _ _ (fun _ => hS8) ?_; clear hK K; (try simp only [Act.put, List.setIfInBounds_toArray, List.set_cons_zero, List.set_cons_succ])
                clear hb hb9 hS9
                refine wpAnyD_one (i := 10) rfl (by kernel_rfl) (fun K hK => ?_)
                refine step_app_intL (by rfl) _ _ (by rfl) wq.heap.size (cur.take jn) _ (by rfl) OA.out ⟨wq.heap.size, 0, none⟩ x 1 (by rfl) lit (by have h1 := OD.out.rd.1; rw [List.length_take]; omega) hbv.size ?_
                intro A9 m9 c9 w9 ho9 hg9 hq9
                have rw9 := own_rowI OA.out
                have hb10 : Below wq.heap.size wq w9 := hbv.grown hg9 hbv.size (fun q e => (rw9 q e).1)
                have OA10 := Lib.hid ho9
                clear ho9 hg9 hq9 rw9 lit hbv OA
                have hS10 : (fun W' : World => W'.cell? ⟨G, 1, none⟩ = some (.slice Dx mx dx) ∧ W'.cell? (ad.add k) = some (.int .i64 x)) w9 := SS.out _ hb10
                refine hK _ _ (fun _ => hS10) ?_; clear hK K; (try simp only [Act.put, List.setIfInBounds_toArray, List.set_cons_zero, List.set_cons_succ])
                refine wpAnyD_one (i := 15) rfl (by kernel_rfl) (fun K hK => ?_)
                refine step_app_intsL (by rfl) _ _ (by rfl) wq.heap.size (cur.take jn ++ [x]) _ (by rfl) OA10.out wq.heap.size _ _ _ (cur.drop jn) (by rfl) (cutI (OD.out.rd.2.below hb10) hj hdx.1) (cutI_none hA0.out) (by have h1 := OD.out.rd.1; rw [List.length_append, List.length_take]; simp; omega) hb10.size ?_
                intro A11 m11 c11 w11 ho11 hg11 hq11
                have rw11 := own_rowI OA10.out
                have hb11 : Below wq.heap.size wq w11 := hb10.grown hg11 hb10.size (fun q e => (rw11 q e).1)
                have hins : cur.take jn ++ [x] ++ cur.drop jn = insL cur x := by unfold insL; rw [hcut.out]; simp
                rw [hins] at ho11
                have OA11 := Lib.hid ho11
                clear ho11 hg11 hq11 rw11 hb10 OA10 hins
                have hS11 : (fun W' : World => W'.cell? ⟨G, 1, none⟩ = some (.slice Dx mx dx) ∧ W'.cell? (ad.add k) = some (.int .i64 x)) w11 := SS.out _ hb11
                replace B6 := Lib.hid (blk_later B6.out hb11)
                obtain ⟨⟨o0', o1', o2'⟩, p0', p1', p2'⟩ := r3_cells B6.out
                have hl6' := B6.out.lt
                refine hK _ _ (fun _ => hS11) ?_; clear hK K; (try simp only [Act.put, List.setIfInBounds_toArray, List.set_cons_zero, List.set_cons_succ])
                refine wpAnyD_take (i := 16) (v := ?_) rfl (by kernel_rfl) (fun _ _ _ h => h) (Or.inl ⟨by rfl, ?_⟩) (by assumption) ?_; rotate_left; (intro w' hSw; (try dsimp only at hSw); go_simp; with_reducible rfl); (try simp only [Act.put, List.setIfInBounds_toArray, List.set_cons_zero, List.set_cons_succ])
                refine wpAnyD_one (i := 17) rfl (by kernel_rfl) (fun K hK => ?_)
                go_simp
                refine hK _ _ (fun h => absurd rfl h) ?_
                clear hK K
                refine wpAnyD_done (by kernel_rfl) ?_ _
                have hm11 : Hid (m11 = m + (k + 1)) := Lib.hid (by have h1 := OA11.out.rd.1; have h2 := OD.out.rd.1; have h3 := hmx.out; rw [insL_len] at h1; omega)
                have rwf := Lib.hid (own_rowI OA11.out)
                clear hS0
                go_wp2
                go_roundw
                case rel => exact ⟨k + 1, insL cur x, A11, m11, c11, by go_num, by omega, (bel_step hB hb11).setCell (by show w.heap.size ≤ G; omega) _, (blk_later BR.out hb11).far (by show w.heap.size + 1 ≠ G; omega) _, B6.out.set_ 1 _, (OS.out.later hb11).off (grownBy_one _ _ _) (fun q e => (by have h1 := hsm.out q e; show q ≠ G; omega)), (OA11.out.mono (by omega)).off (grownBy_one _ _ _) (fun q e => (by have h1 := (rwf.out q e).1; show q ≠ G; omega)), Lib.hid (fun q e => (by have h1 := (rwf.out q e).1; omega)), hR3, hP3, hm11⟩
                case measure => simp [intOf]; omega
          · have hjx : jn = mx := by omega
            replace hjx := Lib.hid hjx
            have hcut : Hid (cutP cur x = jn) := Lib.hid (cutP_eq (by have := OD.out.rd.1; omega) HJ.out (fun h => by have := OD.out.rd.1; have := hjx.out; omega))
            go_wp2_with fail
            go_quiet (fail)
            go_wp2_with fail
            have hbq : Below w7.heap.size w7 ((w7.drewN q).drewN nq) := bel_step (belowN _) (belowN _)
            replace hx := keepC hbq hx
            replace BR := Lib.hid (blk_later BR.out hbq)
            replace B6 := Lib.hid (blk_later B6.out hbq)
            replace OS := Lib.hid (OS.out.later hbq)
            replace OD := Lib.hid (OD.out.later hbq)
            replace hB := bel_step hB hbq
            clear x0 x1 x2 y0 y1 y2 o0 o1 o2 p0 p1 p2 hb2 hlR hl6 hbq
            generalize (w7.drewN q).drewN nq = wq at *
            have o1 : wq.cell? ⟨G, 1, none⟩ = some (.slice Dx mx dx) := B6.out.cell 1
            have hl6 := B6.out.lt
            have hjd : jn ≤ dx := by omega
            have SS : Hid (∀ W', Below wq.heap.size wq W' → (fun W' : World => W'.cell? ⟨G, 1, none⟩ = some (.slice Dx mx dx) ∧ W'.cell? (ad.add k) = some (.int .i64 x)) W') := Lib.hid (fun W' hb => ⟨keepC hb o1, keepC hb hx⟩)
            have hS0 : (fun W' : World => W'.cell? ⟨G, 1, none⟩ = some (.slice Dx mx dx) ∧ W'.cell? (ad.add k) = some (.int .i64 x)) wq.drew := SS.out _ (Below.refl _ _).drew
            refine wp_region_D 17 (fun W' : World => W'.cell? ⟨G, 1, none⟩ = some (.slice Dx mx dx) ∧ W'.cell? (ad.add k) = some (.int .i64 x)) (by kernel_rfl) ?_
            refine wpAnyD_take (i := 0) (v := ?_) rfl (by kernel_rfl) (fun _ _ _ h => h) (Or.inl ⟨by rfl, ?_⟩) (by assumption) ?_; rotate_left; (intro w' hSw; (try dsimp only at hSw); go_simp; with_reducible rfl); (try simp only [Act.put, List.setIfInBounds_toArray, List.set_cons_zero, List.set_cons_succ])
            refine wpAnyD_take (i := 1) (v := ?_) rfl (by kernel_rfl) (fun _ _ _ h => h) (Or.inl ⟨by rfl, ?_⟩) (by assumption) ?_; rotate_left; (intro w' hSw; (try dsimp only at hSw); go_simp; with_reducible rfl); (try simp only [Act.put, List.setIfInBounds_toArray, List.set_cons_zero, List.set_cons_succ])
            refine wpAnyD_take (i := 2) (v := ?_) rfl (by kernel_rfl) (fun _ _ _ h => h) (Or.inl ⟨by rfl, ?_⟩) (by assumption) ?_; rotate_left; (intro w' hSw; (try dsimp only at hSw); go_simp; with_reducible rfl); (try simp only [Act.put, List.setIfInBounds_toArray, List.set_cons_zero, List.set_cons_succ])
            refine wpAnyD_take (i := 3) (v := ?_) rfl (by kernel_rfl) (fun _ _ _ h => h) (Or.inl ⟨by rfl, ?_⟩) (by assumption) ?_; rotate_left; (intro w' hSw; (try dsimp only at hSw); go_simp; with_reducible rfl); (try simp only [Act.put, List.setIfInBounds_toArray, List.set_cons_zero, List.set_cons_succ])
            refine wpAnyD_take (i := 5) (v := ?_) rfl (by kernel_rfl) (fun _ _ _ h => h) (Or.inl ⟨by rfl, ?_⟩) (by assumption) ?_; rotate_left; (intro w' hSw; (try dsimp only at hSw); go_simp; with_reducible rfl); (try simp only [Act.put, List.setIfInBounds_toArray, List.set_cons_zero, List.set_cons_succ])
            refine wpAnyD_take (i := 6) (v := ?_) rfl (by kernel_rfl) (fun _ _ _ h => h) (Or.inl ⟨by rfl, ?_⟩) (by assumption) ?_; rotate_left; (intro w' hSw; (try dsimp only at hSw); go_simp; with_reducible rfl); (try simp only [Act.put, List.setIfInBounds_toArray, List.set_cons_zero, List.set_cons_succ])
            refine wpAnyD_take (i := 7) (v := ?_) rfl (by kernel_rfl) (fun _ _ _ h => h) (Or.inl ⟨by rfl, ?_⟩) (by assumption) ?_; rotate_left; (intro w' hSw; (try dsimp only at hSw); go_simp; with_reducible rfl); (try simp only [Act.put, List.setIfInBounds_toArray, List.set_cons_zero, List.set_cons_succ])
            refine wpAnyD_take (i := 8) (v := ?_) rfl (by kernel_rfl) (fun _ _ _ h => h) (Or.inl ⟨by rfl, ?_⟩) (by assumption) ?_; rotate_left; (intro w' hSw; (try dsimp only at hSw); go_simp; with_reducible rfl); (try simp only [Act.put, List.setIfInBounds_toArray, List.set_cons_zero, List.set_cons_succ])
            refine wpAnyD_take (i := 11) (v := ?_) rfl (by kernel_rfl) (fun _ _ _ h => h) (Or.inl ⟨by rfl, ?_⟩) (by assumption) ?_; rotate_left; (intro w' hSw; (try dsimp only at hSw); go_simp; with_reducible rfl); (try simp only [Act.put, List.setIfInBounds_toArray, List.set_cons_zero, List.set_cons_succ])
            refine wpAnyD_take (i := 12) (v := ?_) rfl (by kernel_rfl) (fun _ _ _ h => h) (Or.inl ⟨by rfl, ?_⟩) (by assumption) ?_; rotate_left; (intro w' hSw; (try dsimp only at hSw); go_simp; with_reducible rfl); (try simp only [Act.put, List.setIfInBounds_toArray, List.set_cons_zero, List.set_cons_succ])
            refine wpAnyD_take (i := 13) (v := ?_) rfl (by kernel_rfl) (fun _ _ _ h => h) (Or.inl ⟨by rfl, ?_⟩) (by assumption) ?_; rotate_left; (intro w' hSw; (try dsimp only at hSw); go_simp; with_reducible rfl); (try simp only [Act.put, List.setIfInBounds_toArray, List.set_cons_zero, List.set_cons_succ])
            refine wpAnyD_take (i := 14) (v := ?_) rfl (by kernel_rfl) (fun _ _ _ h => h) (Or.inl ⟨by rfl, ?_⟩) (by assumption) ?_; rotate_left; (intro w' hSw; (try dsimp only at hSw); go_simp; with_reducible rfl); (try simp only [Act.put, List.setIfInBounds_toArray, List.set_cons_zero, List.set_cons_succ])
            have hA0 := Lib.hid (OwI.none_cap OD.out)
            have HW := Lib.hid (fun W (hb : Below wq.heap.size wq W) => sOwn_any Dx jn dx (cur.take jn) W (((OD.out.rd.2.below hb).more hb.size).take hj) hA0.out (by omega))
            refine wpAnyD_two (i := 4) (j := 9) rfl rfl (by kernel_rfl) (fun K hK => ?_) (fun K hK => ?_)
            · go_simp
              (with_reducible refine Calls.mono (HW.out _ (Below.refl _ _).drew) ?_)
              rintro ee w8 ⟨A8, m8, c8, rfl, ho, hb⟩
              replace hb := bel_step (w := wq) (Below.refl _ _).drew hb
              have OA : Hid (OwI w8 wq.heap.size (.slice A8 m8 c8) (cur.take jn)) := ho
              clear ho
              dsimp only
              have hS8 : (fun W' : World => W'.cell? ⟨G, 1, none⟩ = some (.slice Dx mx dx) ∧ W'.cell? (ad.add k) = some (.int .i64 x)) w8 := SS.out _ hb
              refine hK _ _ (fun _ => hS8) ?_; clear hK K; (try simp only [Act.put, List.setIfInBounds_toArray, List.set_cons_zero, List.set_cons_succ])
              refine wpAnyD_one (i := 9) rfl (by kernel_rfl) (fun K hK => ?_)
              go_simp
              have hbv := hb.alloc hb.size (.cells #[.int .i64 x] 2)
              replace OA := Lib.hid (OA.out.alloc (.cells #[.int .i64 x] 2))
              have lit : (w8.alloc (.cells #[.int .i64 x] 2)).cell? ⟨w8.heap.size, 0, none⟩ = some (.int .i64 x) := (Blk.new w8 2 #[.int .i64 x]).cell 0
              have hS9 : (fun W' : World => W'.cell? ⟨G, 1, none⟩ = some (.slice Dx mx dx) ∧ W'.cell? (ad.add k) = some (.int .i64 x)) (w8.alloc (.cells #[.int .i64 x] 2)) := SS.out _ hbv
              refine hK _ _ (fun _ => hS9) ?_; clear hK K; (try simp only [Act.put, List.setIfInBounds_toArray, List.set_cons_zero, List.set_cons_succ])
              clear hb hS8
              generalize w8.heap.size = LX at *
              generalize w8.alloc (.cells #[.int .i64 x] 2) = wv at *
              refine wpAnyD_one (i := 10) rfl (by kernel_rfl) (fun K hK => ?_)
              refine step_app_intL (by rfl) _ _ (by rfl) wq.heap.size (cur.take jn) _ (by rfl) OA.out ⟨LX, 0, none⟩ x 1 (by rfl) lit (by have h1 := OD.out.rd.1; rw [List.length_take]; omega) hbv.size ?_
              intro A9 m9 c9 w9 ho9 hg9 hq9
              have rw9 := own_rowI OA.out
              have hb10 : Below wq.heap.size wq w9 := hbv.grown hg9 hbv.size (fun q e => (rw9 q e).1)
              have OA10 := Lib.hid ho9
              clear ho9 hg9 hq9 rw9 lit hbv OA
              have hS10 : (fun W' : World => W'.cell? ⟨G, 1, none⟩ = some (.slice Dx mx dx) ∧ W'.cell? (ad.add k) = some (.int .i64 x)) w9 := SS.out _ hb10
              refine hK _ _ (fun _ => hS10) ?_; clear hK K; (try simp only [Act.put, List.setIfInBounds_toArray, List.set_cons_zero, List.set_cons_succ])
              refine wpAnyD_one (i := 15) rfl (by kernel_rfl) (fun K hK => ?_)
              refine step_app_intsL (by rfl) _ _ (by rfl) wq.heap.size (cur.take jn ++ [x]) _ (by rfl) OA10.out wq.heap.size _ _ _ (cur.drop jn) (by rfl) (cutI (OD.out.rd.2.below hb10) hj hdx.1) (cutI_none hA0.out) (by have h1 := OD.out.rd.1; rw [List.length_append, List.length_take]; simp; omega) hb10.size ?_
              intro A11 m11 c11 w11 ho11 hg11 hq11
              have rw11 := own_rowI OA10.out
              have hb11 : Below wq.heap.size wq w11 := hb10.grown hg11 hb10.size (fun q e => (rw11 q e).1)
              have hins : cur.take jn ++ [x] ++ cur.drop jn = insL cur x := by unfold insL; rw [hcut.out]; simp
              rw [hins] at ho11
              have OA11 := Lib.hid ho11
              clear ho11 hg11 hq11 rw11 hb10 OA10 hins
              have hS11 : (fun W' : World => W'.cell? ⟨G, 1, none⟩ = some (.slice Dx mx dx) ∧ W'.cell? (ad.add k) = some (.int .i64 x)) w11 := SS.out _ hb11
              replace B6 := Lib.hid (blk_later B6.out hb11)
              obtain ⟨⟨o0', o1', o2'⟩, p0', p1', p2'⟩ := r3_cells B6.out
              have hl6' := B6.out.lt
              refine hK _ _ (fun _ => hS11) ?_; clear hK K; (try simp only [Act.put, List.setIfInBounds_toArray, List.set_cons_zero, List.set_cons_succ])
              refine wpAnyD_take (i := 16) (v := ?_) rfl (by kernel_rfl) (fun _ _ _ h => h) (Or.inl ⟨by rfl, ?_⟩) (by assumption) ?_; rotate_left; (intro w' hSw; (try dsimp only at hSw); go_simp; with_reducible rfl); (try simp only [Act.put, List.setIfInBounds_toArray, List.set_cons_zero, List.set_cons_succ])
              refine wpAnyD_one (i := 17) rfl (by kernel_rfl) (fun K hK => ?_)
              go_simp
              refine hK _ _ (fun h => absurd rfl h) ?_
              clear hK K
              refine wpAnyD_done (by kernel_rfl) ?_ _
              have hm11 : Hid (m11 = m + (k + 1)) := Lib.hid (by have h1 := OA11.out.rd.1; have h2 := OD.out.rd.1; have h3 := hmx.out; rw [insL_len] at h1; omega)
              have rwf := Lib.hid (own_rowI OA11.out)
              clear hS0
              go_wp2
              go_roundw
              case rel => exact ⟨k + 1, insL cur x, A11, m11, c11, by go_num, by omega, (bel_step hB hb11).setCell (by show w.heap.size ≤ G; omega) _, (blk_later BR.out hb11).far (by show w.heap.size + 1 ≠ G; omega) _, B6.out.set_ 1 _, (OS.out.later hb11).off (grownBy_one _ _ _) (fun q e => (by have h1 := hsm.out q e; show q ≠ G; omega)), (OA11.out.mono (by omega)).off (grownBy_one _ _ _) (fun q e => (by have h1 := (rwf.out q e).1; show q ≠ G; omega)), Lib.hid (fun q e => (by have h1 := (rwf.out q e).1; omega)), hR3, hP3, hm11⟩
              case measure => simp [intOf]; omega
            · go_simp
              have hb9 : Below wq.heap.size wq (wq.alloc (.cells #[.int .i64 x] 2)).drew := ((Below.refl _ _).alloc (Nat.le_refl _) _).drew
              have hS9 : (fun W' : World => W'.cell? ⟨G, 1, none⟩ = some (.slice Dx mx dx) ∧ W'.cell? (ad.add k) = some (.int .i64 x)) (wq.alloc (.cells #[.int .i64 x] 2)).drew := SS.out _ hb9
              refine hK _ _ (fun _ => hS9) ?_; clear hK K; (try simp only [Act.put, List.setIfInBounds_toArray, List.set_cons_zero, List.set_cons_succ])
              refine wpAnyD_one (i := 4) rfl (by kernel_rfl) (fun K hK => ?_)
              go_simp
              (with_reducible refine Calls.mono (HW.out _ hb9) ?_)
              rintro ee wv ⟨A8, m8, c8, rfl, ho, hb⟩
              have OA : Hid (OwI wv wq.heap.size (.slice A8 m8 c8) (cur.take jn)) := Lib.hid (ho.mono hb9.size)
              have hbv := bel_step hb9 hb
              have lit : wv.cell? ⟨wq.heap.size, 0, none⟩ = some (.int .i64 x) := keepC hb (show (wq.alloc (.cells #[.int .i64 x] 2)).drew.cell? ⟨wq.heap.size, 0, none⟩ = some (.int .i64 x) from (Blk.new wq 2 #[.int .i64 x]).cell 0)
              clear ho
              dsimp only
              have hS8 : (fun W' : World => W'.cell? ⟨G, 1, none⟩ = some (.slice Dx mx dx) ∧ W'.cell? (ad.add k) = some (.int .i64 x)) wv := SS.out _ hbv
              refine hK _ _ (fun _ => hS8) ?_; clear hK K; (try simp only [Act.put, List.setIfInBounds_toArray, List.set_cons_zero, List.set_cons_succ])
              clear hb hb9 hS9
              refine wpAnyD_one (i := 10) rfl (by kernel_rfl) (fun K hK => ?_)
              refine step_app_intL (by rfl) _ _ (by rfl) wq.heap.size (cur.take jn) _ (by rfl) OA.out ⟨wq.heap.size, 0, none⟩ x 1 (by rfl) lit (by have h1 := OD.out.rd.1; rw [List.length_take]; omega) hbv.size ?_
              intro A9 m9 c9 w9 ho9 hg9 hq9
              have rw9 := own_rowI OA.out
              have hb10 : Below wq.heap.size wq w9 := hbv.grown hg9 hbv.size (fun q e => (rw9 q e).1)
              have OA10 := Lib.hid ho9
              clear ho9 hg9 hq9 rw9 lit hbv OA
              have hS10 : (fun W' : World => W'.cell? ⟨G, 1, none⟩ = some (.slice Dx mx dx) ∧ W'.cell? (ad.add k) = some (.int .i64 x)) w9 := SS.out _ hb10
              refine hK _ _ (fun _ => hS10) ?_; clear hK K; (try simp only [Act.put, List.setIfInBounds_toArray, List.set_cons_zero, List.set_cons_succ])
              refine wpAnyD_one (i := 15) rfl (by kernel_rfl) (fun K hK => ?_)
              refine step_app_intsL (by rfl) _ _ (by rfl) wq.heap.size (cur.take jn ++ [x]) _ (by rfl) OA10.out wq.heap.size _ _ _ (cur.drop jn) (by rfl) (cutI (OD.out.rd.2.below hb10) hj hdx.1) (cutI_none hA0.out) (by have h1 := OD.out.rd.1; rw [List.length_append, List.length_take]; simp; omega) hb10.size ?_
              intro A11 m11 c11 w11 ho11 hg11 hq11
              have rw11 := own_rowI OA10.out
              have hb11 : Below wq.heap.size wq w11 := hb10.grown hg11 hb10.size (fun q e => (rw11 q e).1)
              have hins : cur.take jn ++ [x] ++ cur.drop jn = insL cur x := by unfold insL; rw [hcut.out]; simp
              rw [hins] at ho11
              have OA11 := Lib.hid ho11
              clear ho11 hg11 hq11 rw11 hb10 OA10 hins
              have hS11 : (fun W' : World => W'.cell? ⟨G, 1, none⟩ = some (.slice Dx mx dx) ∧ W'.cell? (ad.add k) = some (.int .i64 x)) w11 := SS.out _ hb11
              replace B6 := Lib.hid (blk_later B6.out hb11)
              obtain ⟨⟨o0', o1', o2'⟩, p0', p1', p2'⟩ := r3_cells B6.out
              have hl6' := B6.out.lt
              refine hK _ _ (fun _ => hS11) ?_; clear hK K; (try simp only [Act.put, List.setIfInBounds_toArray, List.set_cons_zero, List.set_cons_succ])
              refine wpAnyD_take (i := 16) (v := ?_) rfl (by kernel_rfl) (fun _ _ _ h => h) (Or.inl ⟨by rfl, ?_⟩) (by assumption) ?_; rotate_left; (intro w' hSw; (try dsimp only at hSw); go_simp; with_reducible rfl); (try simp only [Act.put, List.setIfInBounds_toArray, List.set_cons_zero, List.set_cons_succ])
              refine wpAnyD_one (i := 17) rfl (by kernel_rfl) (fun K hK => ?_)
              go_simp
              refine hK _ _ (fun h => absurd rfl h) ?_
              clear hK K
              refine wpAnyD_done (by kernel_rfl) ?_ _
              have hm11 : Hid (m11 = m + (k + 1)) := Lib.hid (by have h1 := OA11.out.rd.1; have h2 := OD.out.rd.1; have h3 := hmx.out; rw [insL_len] at h1; omega)
              have rwf := Lib.hid (own_rowI OA11.out)
              clear hS0
              go_wp2
              go_roundw
              case rel => exact ⟨k + 1, insL cur x, A11, m11, c11, by go_num, by omega, (bel_step hB hb11).setCell (by show w.heap.size ≤ G; omega) _, (blk_later BR.out hb11).far (by show w.heap.size + 1 ≠ G; omega) _, B6.out.set_ 1 _, (OS.out.later hb11).off (grownBy_one _ _ _) (fun q e => (by have h1 := hsm.out q e; show q ≠ G; omega)), (OA11.out.mono (by omega)).off (grownBy_one _ _ _) (fun q e => (by have h1 := (rwf.out q e).1; show q ≠ G; omega)), Lib.hid (fun q e => (by have h1 := (rwf.out q e).1; omega)), hR3, hP3, hm11⟩
              case measure => simp [intOf]; omega
    · obtain rfl : k = l := by omega
      have hR2 := HR.out
      rw [List.drop_eq_nil_of_le (by have := hlm.out; omega)] at hR2
      obtain ⟨hK, hcur⟩ := bR_some hinc.out (show buR ds ms = some cur from hR2)
      replace hcur := Lib.hid hcur
      clear hR2 HR
      go_wp2
      (try simp only [Exit.inBlock, Exit.then]); refine bodyPost_ret (v := .tuple #[.agg #[.slice S' n' c', .slice Dx mx dx, .int .i64 ch], .int .i64 0]) (by simp [results, Tryz.results35, go_sem, x0, x1, x2, hlR]; done) rfl ?_
      rw [hK.out, ← hcur.out]
      have OC : OwC wr (w.heap.size + 2) (.slice S' n' c') (.slice Dx mx dx) ss cur := ⟨mid, ⟨by omega, by omega⟩, OS.out, hsm.out, OD.out⟩
      exact ⟨S', n', c', Dx, mx, dx, rfl, (((OC.store (by show w.heap.size + 1 < _; omega) _).store (by show w.heap.size + 1 < _; omega) _).store (by show w.heap.size + 1 < _; omega) _).mono (by omega), by go_grown⟩
end Go.Proofs.YtaikfclgmkfooaaGreatDoor
