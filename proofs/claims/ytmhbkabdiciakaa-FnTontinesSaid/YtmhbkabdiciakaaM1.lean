/-
  Contracts of chapter 13: RunClass, the reference's side.
-/
import Derived.Test.YtmhbkabdiciakaaM0
set_option linter.unusedSimpArgs false
set_option linter.unusedVariables false
namespace Go.Proofs.Ytmhbkabdiciakaa
open Go.RowKit
set_option maxHeartbeats 8000000 in
set_option maxRecDepth 100000 in
theorem sRun_any (S : Option Addr) (n c : Nat) (ss : List Int) (D : Option Addr) (m d : Nat) (ds : List Int) (ch : Int) (I : Option Addr) (ni ic : Nat) (is : List Int) (E : Option Addr) (ne ec : Nat) (es : List (Option Addr × Nat × Nat)) (dd : List (List Int)) (w : World) (hS : RdI w w.heap.size S n ss) (hD : RdI w w.heap.size D m ds) (hI : RdI w w.heap.size I ni is) (hE : RdLL w w.heap.size E ne es dd) (hcS : S = none → c = 0) (hcD : D = none → d = 0) (hn : n ≤ 1048576) (hm : m ≤ 1048576) (hni : ni ≤ 1048576) (hne : ne ≤ 1048576) (hdl : ∀ l ∈ dd, l.length ≤ 1048576) : Calls Try.prog 9 #[.agg #[.slice S n c, .slice D m d, .int .i64 ch], .slice I ni ic, .slice E ne ec] w fun ee w' => rcP w w' ee (runC ss ds ch is dd) ss (runV ss ds ch (List.replicate ss.length 0) (is.zip dd)).2.1 (runV ss ds ch (List.replicate ss.length 0) (is.zip dd)).2.2.1 (runV ss ds ch (List.replicate ss.length 0) (is.zip dd)).2.2.2 := by
  have H1 := fun W (hB : Below w.heap.size w W) => sIsC_any S n c ss D m d ds ch W ((hS.below hB).more hB.size) ((hD.below hB).more hB.size) (by omega) (by omega)
  have BB := Lib.hid ((Blk.new w 26 #[.slice S n c, .slice D m d, .int .i64 ch]).alloc (.cells #[.slice none 0 0, .slice none 0 0, .int .i64 0] 26))
  have BR := Lib.hid (Blk.new (w.alloc (.cells #[.slice S n c, .slice D m d, .int .i64 ch] 26)) 26 #[.slice none 0 0, .slice none 0 0, .int .i64 0])
  rw [World.size_alloc] at BR
  have hB : Below w.heap.size w ((w.alloc (.cells #[.slice S n c, .slice D m d, .int .i64 ch] 26)).alloc (.cells #[.slice none 0 0, .slice none 0 0, .int .i64 0] 26)) := (al_ _ _).alloc (by simp) _
  cases hok : okC ss ds ch with
  | false =>
    have hQ := runC_1 (is := is) (dd := dd) hok
    rw [hok] at H1
    replace H1 := Lib.hid H1
    clear hS hD hI hE hok hdl
    go_enter Try.func9, Try.ntmps9
    go_wp2_with (go_at_call 47; (with_reducible refine Calls.mono (H1.out _ hB) ?_); rintro ee wz ⟨rfl, hb⟩; replace hB := bel_step hB hb; replace BB := Lib.hid (blk_later BB.out hb); replace BR := Lib.hid (blk_later BR.out hb); clear hb; (try clear c0 c1 c2); obtain ⟨c0, c1, c2⟩ := c3_cells BB.out; have hlB := BB.out.lt; (try clear x0 x1 x2 y0 y1 y2); obtain ⟨⟨x0, x1, x2⟩, y0, y1, y2⟩ := r3_cells BR.out; have hlR := BR.out.lt)
    (try simp only [Exit.inBlock, Exit.then]); refine bodyPost_ret (v := .tuple #[.agg #[.slice none 0 0, .slice none 0 0, .int .i64 0], .slice none 0 0, .int .i64 1]) (res_run Try.results9 rfl rfl rfl (((BR.out.set_ 0 _).set_ 1 _).set_ 2 _)) rfl ?_
    rw [hQ.out]
    exact rcP_no (by decide) (by go_grown)
  | true =>
    rw [hok] at H1
    replace H1 := Lib.hid H1
    have hkc := okC_iff.1 hok
    have hnl := hS.len
    have hml := hD.len
    have hnil := hI.len
    have hnel := hE.2.1
    have hmn := inc_len hkc.2.2.2.2 hkc.2.2.1
    have H2 := fun W (hB : Below w.heap.size w W) => within_any I ni ic is 100 0 100000000 W ((hI.below hB).more hB.size) (by unfold maxLen; omega)
    have HE := Lib.hid (fun W (hB : Below w.heap.size w W) => (hE.below hB).more hB.size)
    have HI := Lib.hid (fun W (hB : Below w.heap.size w W) => (hI.below hB).more hB.size)
    have H3 := Lib.hid (fun W (hB : Below w.heap.size w W) => sOwnC_any S n c ss D m d ds ch W ((hS.below hB).more hB.size) ((hD.below hB).more hB.size) hcS hcD hn hm)
    have hnB : n ≤ 60 := by omega
    have hmB : m ≤ 60 := by omega
    have hrOK : Hid (runOK ss.length is dd = (is.all (inR 0 100000000) && decide ((ni : Int) ≤ 100) && decide (ni = ne) && dd.all (dthB n))) := Lib.hid (by unfold runOK; rw [hnl, hnil, hnel])
    have HDL := Lib.hid hdl
    have HN : (Try.prog.info? 2).map (fun i => (i.zero, i.size, i.bytes)) = some (some (.int .i64 0), 1, 8) := by kernel_rfl
    obtain ⟨i0, hi, hz0, hz1, hz2⟩ := info_parts HN
    have hmk := fun W => run_make_rowN (P := Try.prog) 24 2 i0 _ Try.underlying24 hi hz0 .i64 .i64 n n (Nat.le_refl _) (by rw [hz2]; omega) (by omega) W
    rw [hz1, Nat.mul_one] at hmk
    have hz := Lib.hid (holdsL_made n)
    obtain ⟨cs0, hcs0⟩ : ∃ cs0, madeCells (Value.int .i64 0).cells n = cs0 := ⟨_, rfl⟩
    rw [hcs0] at hmk hz
    replace hmk := Lib.hid hmk
    replace hnl := Lib.hid hnl
    replace hml := Lib.hid hml
    replace hnil := Lib.hid hnil
    replace hnel := Lib.hid hnel
    replace hok := Lib.hid hok
    have q1 := IntWalk.i64_in ((n : Int) - 1) (by omega)
    clear hS hD hI hE hdl hmn HN hi hz0 hz1 hz2 hcs0 hkc
    go_enter Try.func9, Try.ntmps9
    go_upto_region 3 with (go_at_call 47; (with_reducible refine Calls.mono (H1.out _ hB) ?_); rintro ee wz ⟨rfl, hb⟩; replace hB := bel_step hB hb; replace BB := Lib.hid (blk_later BB.out hb); replace BR := Lib.hid (blk_later BR.out hb); clear hb; (try clear c0 c1 c2); obtain ⟨c0, c1, c2⟩ := c3_cells BB.out; have hlB := BB.out.lt; (try clear x0 x1 x2 y0 y1 y2); obtain ⟨⟨x0, x1, x2⟩, y0, y1, y2⟩ := r3_cells BR.out; have hlR := BR.out.lt)
    go_cut [9] (fun s9 wx => ∃ b, s9 = .bool b ∧ Hid (b = (is.all (inR 0 100000000) && decide ((ni : Int) ≤ 100) && decide (ni = ne))) ∧ Below w.heap.size w wx ∧ Hid (Blk wx w.heap.size 26 #[.slice S n c, .slice D m d, .int .i64 ch]) ∧ Hid (Blk wx (w.heap.size + 1) 26 #[.slice none 0 0, .slice none 0 0, .int .i64 0]))
    case first =>
      cases h2 : (is.all (inR 0 100000000) && decide ((ni : Int) ≤ 100)) with
      | false =>
        rw [h2] at H2
        replace H2 := Lib.hid H2
        replace h2 := Lib.hid h2
        go_wp2_with (go_at_call 48; (with_reducible refine Calls.mono (H2.out _ hB) ?_); rintro ee wz ⟨rfl, rfl⟩)
        go_meet
        case rel => exact ⟨false, rfl, Lib.hid (by rw [h2.out]; rfl), hB, BB, BR⟩
      | true =>
        rw [h2] at H2
        replace H2 := Lib.hid H2
        replace h2 := Lib.hid h2
        by_cases hnn : ni = ne
        · have hnn2 : ((ni : Int) == (ne : Int)) = true := by rw [beq_iff_eq]; omega
          have hnn3 := Lib.hid hnn
          clear hnn
          go_wp2_with (go_at_call 48; (with_reducible refine Calls.mono (H2.out _ hB) ?_); rintro ee wz ⟨rfl, rfl⟩)
          go_meet
          case rel => exact ⟨true, rfl, Lib.hid (by rw [h2.out, decide_eq_true hnn3.out]; rfl), hB, BB, BR⟩
        · have hnn2 : ((ni : Int) == (ne : Int)) = false := by rw [beq_eq_false_iff_ne]; omega
          have hnn3 := Lib.hid hnn
          clear hnn
          go_wp2_with (go_at_call 48; (with_reducible refine Calls.mono (H2.out _ hB) ?_); rintro ee wz ⟨rfl, rfl⟩)
          go_meet
          case rel => exact ⟨false, rfl, Lib.hid (by rw [h2.out, decide_eq_false hnn3.out]; rfl), hB, BB, BR⟩
    case rest =>
      clear hB BB BR c0 c1 c2 x0 x1 x2 y0 y1 y2 hlB hlR H1 H2
      obtain ⟨b, rfl, hb0, hB, BB, BR⟩ := hcut
      (try clear c0 c1 c2); obtain ⟨c0, c1, c2⟩ := c3_cells BB.out; have hlB := BB.out.lt
      (try clear x0 x1 x2 y0 y1 y2); obtain ⟨⟨x0, x1, x2⟩, y0, y1, y2⟩ := r3_cells BR.out; have hlR := BR.out.lt
      go_wp2_with fail
      go_loopw [9, 10] (fun s9 s10 wr => ∃ (k : Nat) (b : Bool), s9 = .bool b ∧ s10 = .int .i64 k ∧ k ≤ ne ∧ Below w.heap.size w wr ∧ Hid (Blk wr w.heap.size 26 #[.slice S n c, .slice D m d, .int .i64 ch]) ∧ Hid (Blk wr (w.heap.size + 1) 26 #[.slice none 0 0, .slice none 0 0, .int .i64 0]) ∧ Hid ((b = true ∧ (is.all (inR 0 100000000) && decide ((ni : Int) ≤ 100) && decide (ni = ne)) = true ∧ ∀ j, j < k → ∀ l, dd[j]? = some l → dthB n l = true) ∨ (b = false ∧ runOK ss.length is dd = false))) (fun _ i _ => ne - (intOf i).toNat)
      case atStart =>
        refine ⟨0, b, rfl, rfl, Nat.zero_le _, hB, BB, BR, Lib.hid ?_⟩
        cases hbv : b with
        | true => exact .inl ⟨rfl, by rw [← hb0.out, hbv], fun j hj => by omega⟩
        | false => exact .inr ⟨rfl, by rw [hrOK.out, ← hb0.out, hbv]; rfl⟩
      case round =>
        clear hB BB BR c0 c1 c2 x0 x1 x2 y0 y1 y2 hlB hlR hb0
        obtain ⟨k, b, rfl, rfl, hk, hB, BB, BR, HD⟩ := hrel
        (try clear c0 c1 c2); obtain ⟨c0, c1, c2⟩ := c3_cells BB.out; have hlB := BB.out.lt
        (try clear x0 x1 x2 y0 y1 y2); obtain ⟨⟨x0, x1, x2⟩, y0, y1, y2⟩ := r3_cells BR.out; have hlR := BR.out.lt
        rcases HD.out with ⟨rfl, hb1, hall⟩ | ⟨rfl, hno⟩
        · by_cases hlt : k < ne
          · obtain ⟨ad, Sl, ml, cl, l, rfl, hbl, hz1, hc1, hr1, _⟩ := (HE.out _ hB).at_ hlt
            have hml2 := hr1.len
            have hlB2 := HDL.out l (List.mem_of_getElem? hz1)
            have hW := fun (X : InC wr) => within_any Sl ml cl l 120 0 ((n : Int) - 1) X.w ((hr1.below X.h).more X.h.size) (by unfold maxLen; omega)
            have z1 := fun X : InC wr => X.cell hc1
            have z2 := fun X : InC wr => X.cell c0
            have hHD : Hid ((l.all (inR 0 ((n : Int) - 1)) && decide ((ml : Int) ≤ 120)) = dthB n l) := Lib.hid (by unfold dthB; rw [hml2])
            rw [hHD.out] at hW
            have hb1' := Lib.hid hb1
            have hall' := Lib.hid hall
            have hz1' := Lib.hid hz1
            have hbl2 : (ad.add k).block < wr.heap.size := by rw [block_of_add]; exact hbl
            clear hb1 hall hz1 hr1 HD hml2
            cases hv : dthB n l with
            | true =>
              rw [hv] at hW
              replace hW := Lib.hid hW
              have hall2 : Hid (∀ j, j < k + 1 → ∀ l, dd[j]? = some l → dthB n l = true) := Lib.hid (step_le hall'.out hz1'.out hv)
              clear hv
              go_wp2_with fail
              (refine wp_region_inC (by kernel_rfl) (by kernel_rfl) ?_; (repeat go_big_quiet_step ((go_at_call 48; with_reducible exact Calls.inC_same (hW.out _)))); refine wpQuiet_nil ?_; rintro w7 ⟨⟨_, hb⟩, rfl⟩)
              replace hB := bel_step hB hb; replace BB := Lib.hid (blk_later BB.out hb); replace BR := Lib.hid (blk_later BR.out hb)
              clear hb z1 z2
              go_wp2
              go_roundw
              case rel => exact ⟨k + 1, true, rfl, by go_num, by omega, hB, BB, BR, Lib.hid (.inl ⟨rfl, hb1'.out, hall2.out⟩)⟩
              case measure => simp [intOf]; omega
            | false =>
              rw [hv] at hW
              replace hW := Lib.hid hW
              have hno2 : Hid (runOK ss.length is dd = false) := Lib.hid (by rw [hrOK.out, all_no hz1'.out hv, Bool.and_false])
              clear hv
              go_wp2_with fail
              (refine wp_region_inC (by kernel_rfl) (by kernel_rfl) ?_; (repeat go_big_quiet_step ((go_at_call 48; with_reducible exact Calls.inC_same (hW.out _)))); refine wpQuiet_nil ?_; rintro w7 ⟨⟨_, hb⟩, rfl⟩)
              replace hB := bel_step hB hb; replace BB := Lib.hid (blk_later BB.out hb); replace BR := Lib.hid (blk_later BR.out hb)
              clear hb z1 z2
              go_wp2
              go_roundw
              case rel => exact ⟨k + 1, false, rfl, by go_num, by omega, hB, BB, BR, Lib.hid (.inr ⟨rfl, hno2.out⟩)⟩
              case measure => simp [intOf]; omega
          · have hkne : k = ne := by omega
            have HDT : Hid (∀ l ∈ dd, dthB n l = true) := Lib.hid (List.all_eq_true.1 (all_of_steps (fun j hj y hy => hall j (by have := hnel.out; omega) y hy)))
            have hOK : Hid (runOK ss.length is dd = true) := Lib.hid (by rw [hrOK.out, hb1, Bool.true_and]; exact all_of_steps (fun j hj y hy => hall j (by have := hnel.out; omega) y hy))
            simp only [Bool.and_eq_true, decide_eq_true_eq] at hb1
            have HIR := Lib.hid (List.all_eq_true.1 hb1.1.1)
            have hni100 : ni ≤ 100 := by have := hb1.1.2; omega
            have hnine := Lib.hid hb1.2
            clear hb1 hall HD hkne hk
            have hmk1 := hmk.out
            go_wp2_with (go_at_call 49; (with_reducible refine Calls.mono (H3.out _ (hB.alloc hB.size (.cells cs0 2))) ?_); rintro ee w6 ⟨So, no, co, Do, mo, od, rfl, ho, hb⟩; have hsz0 : w.heap.size + 1 < wr.heap.size := hlR; have BT := Lib.hid (blk_later (Blk.new wr 2 cs0) hb); have rO := Lib.hid ho.rowsB; have OC := Lib.hid (ho.mono (show w.heap.size + 2 ≤ _ by simp; omega)); replace hb := bel_step (al_ wr (.cells cs0 2)) hb; replace hB := bel_step hB hb; replace BB := Lib.hid (blk_later BB.out hb); replace BR := Lib.hid (blk_later BR.out hb); clear ho hb)
            have B7 := Lib.hid (Blk.new w6 26 #[.slice So no co, .slice Do mo od, .int .i64 ch])
            have hb := al_ w6 (.cells #[.slice So no co, .slice Do mo od, .int .i64 ch] 26)
            have hTO := BT.out.lt
            replace BT := Lib.hid (blk_later BT.out hb)
            replace OC := Lib.hid (OC.out.later hb)
            replace hB := bel_step hB hb; replace BB := Lib.hid (blk_later BB.out hb); replace BR := Lib.hid (blk_later BR.out hb)
            obtain ⟨GT, hGT⟩ : ∃ GT, wr.heap.size = GT := ⟨_, rfl⟩
            obtain ⟨GO, hGO⟩ : ∃ GO, w6.heap.size = GO := ⟨_, rfl⟩
            have hsz1 : w.heap.size + 1 < GT := by omega
            have hsz2 : GT < GO := by omega
            have rowO : Hid (∀ q, (Value.slice So no co).ownBlock = some q ∨ (Value.slice Do mo od).ownBlock = some q → q ≠ GO ∧ q ≠ GT) := Lib.hid (fun q e => by have h1 := rO.out q e; simp only [World.size_alloc] at h1; omega)
            rw [hGT] at BT ⊢
            rw [hGO] at B7 ⊢
            generalize w6.alloc (.cells #[.slice So no co, .slice Do mo od, .int .i64 ch] 26) = W0 at *
            have HR : Hid (runI w W0 GO GT So no co Do mo od ch cs0 ss ds (List.replicate ss.length 0)) := Lib.hid ⟨hB, BR.out, B7.out, ⟨BT.out, by rw [hnl.out]; exact hz.out⟩, OC.out, rowO.out⟩
            have hV0 : Hid (runV ss ds ch (List.replicate ss.length 0) (is.zip dd) = runV ss ds ch (List.replicate ss.length 0) ((is.zip dd).drop 0)) := Lib.hid (by rw [List.drop_zero])
            have hg0 : Hid (∀ i, i < n → 0 ≤ gz (List.replicate ss.length 0) i ∧ gz (List.replicate ss.length 0) i ≤ 0 * 1001000000000000) := Lib.hid (fun i hi => by have h1 : gz (List.replicate ss.length (0 : Int)) i = 0 := gz_at (by rw [List.getElem?_replicate, if_pos (by have := hnl.out; omega)]); rw [h1]; omega)
            clear hb rO hTO hGT hGO BT OC B7 BB BR hB rowO hmk hmk1 hz c0 c1 c2 x0 x1 x2 y0 y1 y2 hlB hlR hsz0 H3 hrOK
            go_loopw [13, 14, 15, 16, 17, 18, 19] (fun i _ _ _ _ _ _ wr => ∃ (k : Nat) (So : Option Addr) (no co : Nat) (Do : Option Addr) (mo od : Nat) (cha : Int) (cs : Array Value) (da got : List Int), i = .int .i64 k ∧ k ≤ ni ∧ Hid (runI w wr GO GT So no co Do mo od cha cs ss da got) ∧ Hid (runV ss ds ch (List.replicate ss.length 0) (is.zip dd) = runV ss da cha got ((is.zip dd).drop k)) ∧ Hid (okC ss da cha = true) ∧ Hid (got.length = ss.length) ∧ Hid (∀ i, i < n → 0 ≤ gz got i ∧ gz got i ≤ (k : Int) * 1001000000000000)) (fun i _ _ _ _ _ _ _ => ni - (intOf i).toNat)
            case atStart => exact ⟨0, So, no, co, Do, mo, od, ch, cs0, ds, _, rfl, Nat.zero_le _, HR, hV0, hok, Lib.hid (by simp), hg0⟩
            case round =>
              clear HR hV0 hg0
              obtain ⟨k, So, no, co, Do, mo, od, cha, cs, da, got, rfl, hk, HR, hV, hoka, hgl, hgb⟩ := hrel
              obtain ⟨hB, BR, B7, ⟨BT, hBT⟩, OC, rowO⟩ := HR.out
              replace BR := Lib.hid BR
              replace B7 := Lib.hid B7
              replace BT := Lib.hid BT
              replace hBT := Lib.hid hBT
              replace OC := Lib.hid OC
              replace rowO := Lib.hid rowO
              clear HR
              (try clear x0 x1 x2 y0 y1 y2); obtain ⟨⟨x0, x1, x2⟩, y0, y1, y2⟩ := r3_cells BR.out; have hlR := BR.out.lt
              (try clear o0 o1 o2 p0 p1 p2); obtain ⟨⟨o0, o1, o2⟩, p0, p1, p2⟩ := r3_cells B7.out; have hl7 := B7.out.lt
              by_cases hlt : k < ni
              · obtain ⟨adI, inc, rfl, hbI, hzI, hcI⟩ := RdI.atI (HI.out _ hB) hlt
                obtain ⟨adE, Sl, ml, cl, l, rfl, hbE, hzE, hcE, hrE, hnE⟩ := (HE.out _ hB).at_ (show k < ne by have := hnine.out; omega)
                have hir := inR_iff.1 (HIR.out inc (List.mem_of_getElem? hzI))
                have hdt := HDT.out l (List.mem_of_getElem? hzE)
                unfold dthB at hdt
                rw [Bool.and_eq_true, decide_eq_true_eq] at hdt
                have hlml := hrE.len
                have HU := Lib.hid (fun W (hb : Below wr.heap.size wr W) => sBury_any So no co ss Do mo od da cha Sl ml cl l W (OC.out.later hb).rdS.2.1 (OC.out.later hb).rdS.2.2 ((hrE.below hb).more hb.size) OC.out.caps.1 OC.out.caps.2 hnE (by omega) hoka.out (by omega))
                have SS : Hid (∀ W', Below wr.heap.size wr W' → (fun W' : World => W'.cell? ⟨GO, 0, none⟩ = some (.slice So no co) ∧ W'.cell? ⟨GO, 1, none⟩ = some (.slice Do mo od) ∧ W'.cell? ⟨GO, 2, none⟩ = some (.int .i64 cha) ∧ W'.cell? (adE.add k) = some (.slice Sl ml cl)) W') := Lib.hid (fun W' hb => ⟨keepC hb o0, keepC hb o1, keepC hb o2, keepC hb hcE⟩)
                have hbE2 : (adE.add k).block < wr.heap.size := by rw [block_of_add]; exact hbE
                have hzip := Lib.hid (zip_at hzI hzE)
                replace hdt := Lib.hid hdt
                have hl120 : ml ≤ 120 := by have := hdt.out.2; omega
                have hkne : k < ne := by have := hnine.out; omega
                clear hzI hzE hrE hlml
                go_wp2_with fail
                go_cut [14, 15] from 60 to 111 (fun s14 s15 wx => ∃ (G1 : Nat) (S1 : Option Addr) (n1 c1 : Nat) (D1 : Option Addr) (m1 d1 : Nat), s14 = .pointer (some ⟨G1, 0, none⟩) ∧ s15 = .int .i64 (bR da l) ∧ Hid (nxP wr wx G1 S1 n1 c1 D1 m1 d1 (kI (bR da l) cha) (kL (bR da l) ss) (kL (bR da l) (srt (da ++ l)))))
                case first =>
                  have hbd : Below wr.heap.size wr wr.drew := (Below.refl _ _).drew
                  have hsd : wr.heap.size ≤ wr.drew.heap.size := Nat.le_refl _
                  have hS0 := SS.out _ hbd
                  refine wp_region_D 11 (fun W' : World => W'.cell? ⟨GO, 0, none⟩ = some (.slice So no co) ∧ W'.cell? ⟨GO, 1, none⟩ = some (.slice Do mo od) ∧ W'.cell? ⟨GO, 2, none⟩ = some (.int .i64 cha) ∧ W'.cell? (adE.add k) = some (.slice Sl ml cl)) (by kernel_rfl) ?_
                  generalize wr.drew = Wd at *
                  refine wpAnyD_take (i := 0) (v := ?_) rfl (by kernel_rfl) (fun _ _ _ h => h) (Or.inl ⟨by rfl, ?_⟩) (by assumption) ?_; rotate_left; (intro w' hSw; (try dsimp only at hSw); go_simp; with_reducible rfl); (try simp only [Act.put, List.setIfInBounds_toArray, List.set_cons_zero, List.set_cons_succ])
                  refine wpAnyD_take (i := 1) (v := ?_) rfl (by kernel_rfl) (fun _ _ _ h => h) (Or.inl ⟨by rfl, ?_⟩) (by assumption) ?_; rotate_left; (intro w' hSw; (try dsimp only at hSw); go_simp; with_reducible rfl); (try simp only [Act.put, List.setIfInBounds_toArray, List.set_cons_zero, List.set_cons_succ])
                  refine wpAnyD_take (i := 2) (v := ?_) rfl (by kernel_rfl) (fun _ _ _ h => h) (Or.inl ⟨by rfl, ?_⟩) (by assumption) ?_; rotate_left; (intro w' hSw; (try dsimp only at hSw); go_simp; with_reducible rfl); (try simp only [Act.put, List.setIfInBounds_toArray, List.set_cons_zero, List.set_cons_succ])
                  refine wpAnyD_take (i := 3) (v := ?_) rfl (by kernel_rfl) (fun _ _ _ h => h) (Or.inl ⟨by rfl, ?_⟩) (by assumption) ?_; rotate_left; (intro w' hSw; (try dsimp only at hSw); go_simp; with_reducible rfl); (try simp only [Act.put, List.setIfInBounds_toArray, List.set_cons_zero, List.set_cons_succ])
                  refine wpAnyD_take (i := 4) (v := ?_) rfl (by kernel_rfl) (fun _ _ _ h => h) (Or.inl ⟨by rfl, ?_⟩) (by assumption) ?_; rotate_left; (intro w' hSw; (try dsimp only at hSw); go_simp; with_reducible rfl); (try simp only [Act.put, List.setIfInBounds_toArray, List.set_cons_zero, List.set_cons_succ])
                  refine wpAnyD_two (i := 5) (j := 9) rfl rfl (by kernel_rfl) (fun K hK => ?_) (fun K hK => ?_)
                  · go_simp
                    (with_reducible refine Calls.mono (HU.out _ hbd) ?_)
                    rintro ee Wc ⟨S1, n1, c1, D1, m1, d1, rfl, ho, hb⟩
                    dsimp only
                    have hbn := bel_step hbd hb
                    have rC := ho.rowsB
                    have OCn := Lib.hid (ho.mono hsd)
                    clear ho hb
                    clear hS0
                    have hS := SS.out _ hbn
                    refine hK _ _ (fun _ => hS) ?_; clear hK K; (try simp only [Act.put, List.setIfInBounds_toArray, List.set_cons_zero, List.set_cons_succ])
                    refine wpAnyD_take (i := 6) (v := ?_) rfl (by kernel_rfl) (fun _ _ _ h => h) (Or.inl ⟨by rfl, ?_⟩) (by assumption) ?_; rotate_left; (intro w' hSw; (try dsimp only at hSw); go_simp; with_reducible rfl); (try simp only [Act.put, List.setIfInBounds_toArray, List.set_cons_zero, List.set_cons_succ])
                    refine wpAnyD_take (i := 7) (v := ?_) rfl (by kernel_rfl) (fun _ _ _ h => h) (Or.inl ⟨by rfl, ?_⟩) (by assumption) ?_; rotate_left; (intro w' hSw; (try dsimp only at hSw); go_simp; with_reducible rfl); (try simp only [Act.put, List.setIfInBounds_toArray, List.set_cons_zero, List.set_cons_succ])
                    refine wpAnyD_take (i := 8) (v := ?_) rfl (by kernel_rfl) (fun _ _ _ h => h) (Or.inl ⟨by rfl, ?_⟩) (by assumption) ?_; rotate_left; (intro w' hSw; (try dsimp only at hSw); go_simp; with_reducible rfl); (try simp only [Act.put, List.setIfInBounds_toArray, List.set_cons_zero, List.set_cons_succ])
                    clear hS
                    refine wpAnyD_one (i := 9) rfl (by kernel_rfl) (fun K hK => ?_)
                    go_simp
                    obtain ⟨GA, hGA⟩ : ∃ GA, Wc.heap.size = GA := ⟨_, rfl⟩
                    have BA : Hid (Blk (Wc.alloc (.cells #[.slice none 0 0, .slice none 0 0, .int .i64 0] 26)) GA 26 #[.slice none 0 0, .slice none 0 0, .int .i64 0]) := Lib.hid (hGA ▸ Blk.new _ _ _)
                    have hGr : wr.heap.size ≤ GA := hGA ▸ hbn.size
                    have rCn : ∀ q, (Value.slice S1 n1 c1).ownBlock = some q ∨ (Value.slice D1 m1 d1).ownBlock = some q → q ≠ GA := fun q e => by have := rC q e; omega
                    replace hbn := hbn.alloc hbn.size (.cells #[.slice none 0 0, .slice none 0 0, .int .i64 0] 26)
                    replace OCn := Lib.hid (OCn.out.alloc (.cells #[.slice none 0 0, .slice none 0 0, .int .i64 0] 26))
                    have hS := SS.out _ hbn
                    refine hK _ _ (fun _ => hS) ?_; clear hK K; (try simp only [Act.put, List.setIfInBounds_toArray, List.set_cons_zero, List.set_cons_succ])
                    clear hS
                    rw [hGA]
                    generalize Wc.alloc (.cells #[.slice none 0 0, .slice none 0 0, .int .i64 0] 26) = Wm at *
                    refine wpAnyD_one (i := 10) rfl (by kernel_rfl) (fun K hK => ?_)
                    have r3 := r3_cells BA.out
                    have n0 := r3.1.1
                    have n1x := r3.1.2.1
                    have n2x := r3.1.2.2
                    have f0 := r3.2.1
                    have f1 := r3.2.2.1
                    have f2 := r3.2.2.2
                    clear r3
                    have hlA := BA.out.lt
                    go_simp
                    replace hbn := ((hbn.setCell (p := ⟨GA, 0, none⟩) (by show wr.heap.size ≤ GA; omega) (.slice S1 n1 c1)).setCell (p := ⟨GA, 1, none⟩) (by show wr.heap.size ≤ GA; omega) (.slice D1 m1 d1)).setCell (p := ⟨GA, 2, none⟩) (by show wr.heap.size ≤ GA; omega) (.int .i64 (kI (bR da l) cha))
                    replace BA : Hid (Blk (((Wm.setCell ⟨GA, 0, none⟩ (.slice S1 n1 c1)).setCell ⟨GA, 1, none⟩ (.slice D1 m1 d1)).setCell ⟨GA, 2, none⟩ (.int .i64 (kI (bR da l) cha))) GA 26 #[(.slice S1 n1 c1), (.slice D1 m1 d1), (.int .i64 (kI (bR da l) cha))]) := Lib.hid (((BA.out.set_ 0 _).set_ 1 _).set_ 2 _)
                    replace OCn := Lib.hid (((OCn.out.off (grownBy_one _ ⟨GA, 0, none⟩ (.slice S1 n1 c1)) rCn).off (grownBy_one _ ⟨GA, 1, none⟩ (.slice D1 m1 d1)) rCn).off (grownBy_one _ ⟨GA, 2, none⟩ (.int .i64 (kI (bR da l) cha))) rCn)
                    have hS := SS.out _ hbn
                    refine hK _ _ (fun _ => hS) ?_; clear hK K; (try simp only [Act.put, List.setIfInBounds_toArray, List.set_cons_zero, List.set_cons_succ])
                    clear n0 n1x n2x f0 f1 f2 hS
                    generalize ((Wm.setCell ⟨GA, 0, none⟩ (.slice S1 n1 c1)).setCell ⟨GA, 1, none⟩ (.slice D1 m1 d1)).setCell ⟨GA, 2, none⟩ (.int .i64 (kI (bR da l) cha)) = Wn at *
                    refine wpAnyD_one (i := 11) rfl (by kernel_rfl) (fun K hK => ?_)
                    go_simp
                    refine hK _ _ (fun h => absurd rfl h) ?_; clear hK K
                    refine wpAnyD_done (by kernel_rfl) ?_ _
                    go_wp2_with fail
                    go_meet
                    case rel => exact ⟨GA, S1, n1, c1, D1, m1, d1, rfl, rfl, Lib.hid ⟨hbn, hGr, BA.out, OCn.out, rCn⟩⟩
                  · go_simp
                    obtain ⟨GA, hGA⟩ : ∃ GA, Wd.heap.size = GA := ⟨_, rfl⟩
                    have BA : Hid (Blk (Wd.alloc (.cells #[.slice none 0 0, .slice none 0 0, .int .i64 0] 26)) GA 26 #[.slice none 0 0, .slice none 0 0, .int .i64 0]) := Lib.hid (hGA ▸ Blk.new _ _ _)
                    have hGr : wr.heap.size ≤ GA := hGA ▸ hsd
                    have hbn := hbd.alloc hbd.size (.cells #[.slice none 0 0, .slice none 0 0, .int .i64 0] 26)
                    have hS := SS.out _ hbn
                    refine hK _ _ (fun _ => hS) ?_; clear hK K; (try simp only [Act.put, List.setIfInBounds_toArray, List.set_cons_zero, List.set_cons_succ])
                    clear hS
                    rw [hGA]
                    generalize Wd.alloc (.cells #[.slice none 0 0, .slice none 0 0, .int .i64 0] 26) = Wm at *
                    refine wpAnyD_one (i := 5) rfl (by kernel_rfl) (fun K hK => ?_)
                    go_simp
                    (with_reducible refine Calls.mono (HU.out _ hbn) ?_)
                    rintro ee Wc ⟨S1, n1, c1, D1, m1, d1, rfl, ho, hb⟩
                    dsimp only
                    have hlm := BA.out.lt
                    have rC := ho.rowsB
                    have rCn : ∀ q, (Value.slice S1 n1 c1).ownBlock = some q ∨ (Value.slice D1 m1 d1).ownBlock = some q → q ≠ GA := fun q e => by have := rC q e; omega
                    have OCn := Lib.hid (ho.mono hbn.size)
                    replace hbn := bel_step hbn hb
                    replace BA : Hid (Blk Wc GA 26 #[.slice none 0 0, .slice none 0 0, .int .i64 0]) := Lib.hid (blk_later BA.out hb)
                    clear ho hb
                    clear hS0
                    have hS := SS.out _ hbn
                    refine hK _ _ (fun _ => hS) ?_; clear hK K; (try simp only [Act.put, List.setIfInBounds_toArray, List.set_cons_zero, List.set_cons_succ])
                    refine wpAnyD_take (i := 6) (v := ?_) rfl (by kernel_rfl) (fun _ _ _ h => h) (Or.inl ⟨by rfl, ?_⟩) (by assumption) ?_; rotate_left; (intro w' hSw; (try dsimp only at hSw); go_simp; with_reducible rfl); (try simp only [Act.put, List.setIfInBounds_toArray, List.set_cons_zero, List.set_cons_succ])
                    refine wpAnyD_take (i := 7) (v := ?_) rfl (by kernel_rfl) (fun _ _ _ h => h) (Or.inl ⟨by rfl, ?_⟩) (by assumption) ?_; rotate_left; (intro w' hSw; (try dsimp only at hSw); go_simp; with_reducible rfl); (try simp only [Act.put, List.setIfInBounds_toArray, List.set_cons_zero, List.set_cons_succ])
                    refine wpAnyD_take (i := 8) (v := ?_) rfl (by kernel_rfl) (fun _ _ _ h => h) (Or.inl ⟨by rfl, ?_⟩) (by assumption) ?_; rotate_left; (intro w' hSw; (try dsimp only at hSw); go_simp; with_reducible rfl); (try simp only [Act.put, List.setIfInBounds_toArray, List.set_cons_zero, List.set_cons_succ])
                    clear hS
                    refine wpAnyD_one (i := 10) rfl (by kernel_rfl) (fun K hK => ?_)
                    have r3 := r3_cells BA.out
                    have n0 := r3.1.1
                    have n1x := r3.1.2.1
                    have n2x := r3.1.2.2
                    have f0 := r3.2.1
                    have f1 := r3.2.2.1
                    have f2 := r3.2.2.2
                    clear r3
                    have hlA := BA.out.lt
                    go_simp
                    replace hbn := ((hbn.setCell (p := ⟨GA, 0, none⟩) (by show wr.heap.size ≤ GA; omega) (.slice S1 n1 c1)).setCell (p := ⟨GA, 1, none⟩) (by show wr.heap.size ≤ GA; omega) (.slice D1 m1 d1)).setCell (p := ⟨GA, 2, none⟩) (by show wr.heap.size ≤ GA; omega) (.int .i64 (kI (bR da l) cha))
                    replace BA : Hid (Blk (((Wc.setCell ⟨GA, 0, none⟩ (.slice S1 n1 c1)).setCell ⟨GA, 1, none⟩ (.slice D1 m1 d1)).setCell ⟨GA, 2, none⟩ (.int .i64 (kI (bR da l) cha))) GA 26 #[(.slice S1 n1 c1), (.slice D1 m1 d1), (.int .i64 (kI (bR da l) cha))]) := Lib.hid (((BA.out.set_ 0 _).set_ 1 _).set_ 2 _)
                    replace OCn := Lib.hid (((OCn.out.off (grownBy_one _ ⟨GA, 0, none⟩ (.slice S1 n1 c1)) rCn).off (grownBy_one _ ⟨GA, 1, none⟩ (.slice D1 m1 d1)) rCn).off (grownBy_one _ ⟨GA, 2, none⟩ (.int .i64 (kI (bR da l) cha))) rCn)
                    have hS := SS.out _ hbn
                    refine hK _ _ (fun _ => hS) ?_; clear hK K; (try simp only [Act.put, List.setIfInBounds_toArray, List.set_cons_zero, List.set_cons_succ])
                    clear n0 n1x n2x f0 f1 f2 hS
                    generalize ((Wc.setCell ⟨GA, 0, none⟩ (.slice S1 n1 c1)).setCell ⟨GA, 1, none⟩ (.slice D1 m1 d1)).setCell ⟨GA, 2, none⟩ (.int .i64 (kI (bR da l) cha)) = Wn at *
                    refine wpAnyD_one (i := 11) rfl (by kernel_rfl) (fun K hK => ?_)
                    go_simp
                    refine hK _ _ (fun h => absurd rfl h) ?_; clear hK K
                    refine wpAnyD_done (by kernel_rfl) ?_ _
                    go_wp2_with fail
                    go_meet
                    case rel => exact ⟨GA, S1, n1, c1, D1, m1, d1, rfl, rfl, Lib.hid ⟨hbn, hGr, BA.out, OCn.out, rCn⟩⟩
                case rest =>
                  obtain ⟨G1, S1, n1, c1, D1, m1, d1, rfl, rfl, HN⟩ := hcut
                  obtain ⟨hb, hG1, B1, OC1, row1⟩ := HN.out
                  clear HN HU SS hcE o0 o1 o2 p0 p1 p2 x0 x1 x2 y0 y1 y2 hbE2
                  have hcI2 := keepC hb hcI
                  have hsw := hb.size
                  replace hB := bel_step hB hb
                  replace BR := Lib.hid (blk_later BR.out hb)
                  replace B7 := Lib.hid (blk_later B7.out hb)
                  replace BT := Lib.hid (blk_later BT.out hb)
                  (try clear x0 x1 x2 y0 y1 y2); obtain ⟨⟨x0, x1, x2⟩, y0, y1, y2⟩ := r3_cells BR.out; have hlR := BR.out.lt
                  (try clear o0 o1 o2 p0 p1 p2); obtain ⟨⟨o0, o1, o2⟩, p0, p1, p2⟩ := r3_cells B7.out; have hl7 := B7.out.lt
                  rcases bR_cases da l with hbr | hbr
                  · rw [hbr, kI_0] at B1
                    rw [hbr, kL_0, kL_0] at OC1
                    have hokb : okC ss (srt (da ++ l)) cha = true := by
                      rw [okC_bury hoka.out (by rw [hnl.out]; exact hdt.out.1)]
                      unfold bR at hbr
                      split at hbr
                      · next e => exact e
                      · cases hbr
                    have hbr2 := Lib.hid hbr
                    replace B1 := Lib.hid B1
                    replace OC1 := Lib.hid OC1
                    replace row1 := Lib.hid row1
                    obtain ⟨db, hdb⟩ : ∃ db, srt (da ++ l) = db := ⟨_, rfl⟩
                    rw [hdb] at OC1 hokb
                    replace hdb := Lib.hid hdb
                    have HU := Lib.hid (fun W (hb : Below wc.heap.size wc W) => sPay_any S1 n1 c1 ss D1 m1 d1 db cha inc W (OC1.out.later hb).rdS.2.1 (OC1.out.later hb).rdS.2.2 OC1.out.caps.1 OC1.out.caps.2 hokb hir)
                    obtain ⟨⟨n0, n1x, n2x⟩, f0, f1, f2⟩ := r3_cells B1.out
                    have hl1 := B1.out.lt
                    have SS : Hid (∀ W', Below wc.heap.size wc W' → (fun W' : World => W'.cell? ⟨G1, 0, none⟩ = some (.slice S1 n1 c1) ∧ W'.cell? ⟨G1, 1, none⟩ = some (.slice D1 m1 d1) ∧ W'.cell? ⟨G1, 2, none⟩ = some (.int .i64 cha) ∧ W'.cell? (adI.add k) = some (.int .i64 inc)) W') := Lib.hid (fun W' hb => ⟨keepC hb n0, keepC hb n1x, keepC hb n2x, keepC hb hcI2⟩)
                    replace hokb := Lib.hid hokb
                    clear hcI hb
                    go_wp2_with fail
                    go_cut [16, 17, 18] from 60 to 111 (fun s16 s17 s18 wx => ∃ (G2 : Nat) (S2 : Option Addr) (n2 c2 : Nat) (D2 : Option Addr) (m2 d2 : Nat) (P : Option Addr) (p pc : Nat), s16 = .pointer (some ⟨G2, 0, none⟩) ∧ s17 = .slice P p pc ∧ s18 = .int .i64 (payK ss db (cha + inc)) ∧ Hid (nxP wc wx G2 S2 n2 c2 D2 m2 d2 (kI (payK ss db (cha + inc)) (paC ss db (cha + inc))) (kL (payK ss db (cha + inc)) ss) (kL (payK ss db (cha + inc)) db)) ∧ Hid (OwI wx wc.heap.size (.slice P p pc) (kL (payK ss db (cha + inc)) (paL ss db (cha + inc))) ∧ ∀ q, (Value.slice P p pc).ownBlock = some q → q ≠ G2))
                    case first =>
                      clear n0 n1x n2x f0 f1 f2
                      have hbd : Below wc.heap.size wc wc.drew := (Below.refl _ _).drew
                      have hsd : wc.heap.size ≤ wc.drew.heap.size := Nat.le_refl _
                      have hS0 := SS.out _ hbd
                      refine wp_region_D 13 (fun W' : World => W'.cell? ⟨G1, 0, none⟩ = some (.slice S1 n1 c1) ∧ W'.cell? ⟨G1, 1, none⟩ = some (.slice D1 m1 d1) ∧ W'.cell? ⟨G1, 2, none⟩ = some (.int .i64 cha) ∧ W'.cell? (adI.add k) = some (.int .i64 inc)) (by kernel_rfl) ?_
                      generalize wc.drew = Wd at *
                      refine wpAnyD_take (i := 0) (v := ?_) rfl (by kernel_rfl) (fun _ _ _ h => h) (Or.inl ⟨by rfl, ?_⟩) (by assumption) ?_; rotate_left; (intro w' hSw; (try dsimp only at hSw); go_simp; with_reducible rfl); (try simp only [Act.put, List.setIfInBounds_toArray, List.set_cons_zero, List.set_cons_succ])
                      refine wpAnyD_take (i := 1) (v := ?_) rfl (by kernel_rfl) (fun _ _ _ h => h) (Or.inl ⟨by rfl, ?_⟩) (by assumption) ?_; rotate_left; (intro w' hSw; (try dsimp only at hSw); go_simp; with_reducible rfl); (try simp only [Act.put, List.setIfInBounds_toArray, List.set_cons_zero, List.set_cons_succ])
                      refine wpAnyD_take (i := 2) (v := ?_) rfl (by kernel_rfl) (fun _ _ _ h => h) (Or.inl ⟨by rfl, ?_⟩) (by assumption) ?_; rotate_left; (intro w' hSw; (try dsimp only at hSw); go_simp; with_reducible rfl); (try simp only [Act.put, List.setIfInBounds_toArray, List.set_cons_zero, List.set_cons_succ])
                      refine wpAnyD_take (i := 3) (v := ?_) rfl (by kernel_rfl) (fun _ _ _ h => h) (Or.inl ⟨by rfl, ?_⟩) (by assumption) ?_; rotate_left; (intro w' hSw; (try dsimp only at hSw); go_simp; with_reducible rfl); (try simp only [Act.put, List.setIfInBounds_toArray, List.set_cons_zero, List.set_cons_succ])
                      refine wpAnyD_take (i := 4) (v := ?_) rfl (by kernel_rfl) (fun _ _ _ h => h) (Or.inl ⟨by rfl, ?_⟩) (by assumption) ?_; rotate_left; (intro w' hSw; (try dsimp only at hSw); go_simp; with_reducible rfl); (try simp only [Act.put, List.setIfInBounds_toArray, List.set_cons_zero, List.set_cons_succ])
                      refine wpAnyD_two (i := 5) (j := 10) rfl rfl (by kernel_rfl) (fun K hK => ?_) (fun K hK => ?_)
                      · go_simp
                        (with_reducible refine Calls.mono (HU.out _ hbd) ?_)
                        rintro ee Wc ⟨S2, n2, c2, D2, m2, d2, P, p, pc, rfl, ho, hop, hb⟩
                        dsimp only
                        have hbn := bel_step hbd hb
                        have rC := ho.rowsB
                        have OCn := Lib.hid (ho.mono hsd)
                        have OPn := Lib.hid (hop.mono hsd)
                        clear ho hb
                        clear hS0
                        have hS := SS.out _ hbn
                        refine hK _ _ (fun _ => hS) ?_; clear hK K; (try simp only [Act.put, List.setIfInBounds_toArray, List.set_cons_zero, List.set_cons_succ])
                        refine wpAnyD_take (i := 6) (v := ?_) rfl (by kernel_rfl) (fun _ _ _ h => h) (Or.inl ⟨by rfl, ?_⟩) (by assumption) ?_; rotate_left; (intro w' hSw; (try dsimp only at hSw); go_simp; with_reducible rfl); (try simp only [Act.put, List.setIfInBounds_toArray, List.set_cons_zero, List.set_cons_succ])
                        refine wpAnyD_take (i := 7) (v := ?_) rfl (by kernel_rfl) (fun _ _ _ h => h) (Or.inl ⟨by rfl, ?_⟩) (by assumption) ?_; rotate_left; (intro w' hSw; (try dsimp only at hSw); go_simp; with_reducible rfl); (try simp only [Act.put, List.setIfInBounds_toArray, List.set_cons_zero, List.set_cons_succ])
                        refine wpAnyD_take (i := 8) (v := ?_) rfl (by kernel_rfl) (fun _ _ _ h => h) (Or.inl ⟨by rfl, ?_⟩) (by assumption) ?_; rotate_left; (intro w' hSw; (try dsimp only at hSw); go_simp; with_reducible rfl); (try simp only [Act.put, List.setIfInBounds_toArray, List.set_cons_zero, List.set_cons_succ])
                        refine wpAnyD_take (i := 9) (v := ?_) rfl (by kernel_rfl) (fun _ _ _ h => h) (Or.inl ⟨by rfl, ?_⟩) (by assumption) ?_; rotate_left; (intro w' hSw; (try dsimp only at hSw); go_simp; with_reducible rfl); (try simp only [Act.put, List.setIfInBounds_toArray, List.set_cons_zero, List.set_cons_succ])
                        clear hS
                        refine wpAnyD_one (i := 10) rfl (by kernel_rfl) (fun K hK => ?_)
                        go_simp
                        obtain ⟨GA, hGA⟩ : ∃ GA, Wc.heap.size = GA := ⟨_, rfl⟩
                        have BA : Hid (Blk (Wc.alloc (.cells #[.slice none 0 0, .slice none 0 0, .int .i64 0] 26)) GA 26 #[.slice none 0 0, .slice none 0 0, .int .i64 0]) := Lib.hid (hGA ▸ Blk.new _ _ _)
                        have hGr : wc.heap.size ≤ GA := hGA ▸ hbn.size
                        have rCn : ∀ q, (Value.slice S2 n2 c2).ownBlock = some q ∨ (Value.slice D2 m2 d2).ownBlock = some q → q ≠ GA := fun q e => by have := rC q e; omega
                        have rP := own_rowI hop
                        have rPn : ∀ q, (Value.slice P p pc).ownBlock = some q → q ≠ GA := fun q e => by have := rP q e; omega
                        replace hbn := hbn.alloc hbn.size (.cells #[.slice none 0 0, .slice none 0 0, .int .i64 0] 26)
                        replace OCn := Lib.hid (OCn.out.alloc (.cells #[.slice none 0 0, .slice none 0 0, .int .i64 0] 26))
                        replace OPn := Lib.hid (OPn.out.alloc (.cells #[.slice none 0 0, .slice none 0 0, .int .i64 0] 26))
                        have hS := SS.out _ hbn
                        refine hK _ _ (fun _ => hS) ?_; clear hK K; (try simp only [Act.put, List.setIfInBounds_toArray, List.set_cons_zero, List.set_cons_succ])
                        clear hS
                        rw [hGA]
                        generalize Wc.alloc (.cells #[.slice none 0 0, .slice none 0 0, .int .i64 0] 26) = Wm at *
                        refine wpAnyD_one (i := 11) rfl (by kernel_rfl) (fun K hK => ?_)
                        have r3 := r3_cells BA.out
                        have n0 := r3.1.1
                        have n1x := r3.1.2.1
                        have n2x := r3.1.2.2
                        have f0 := r3.2.1
                        have f1 := r3.2.2.1
                        have f2 := r3.2.2.2
                        clear r3
                        have hlA := BA.out.lt
                        go_simp
                        replace hbn := ((hbn.setCell (p := ⟨GA, 0, none⟩) (by show wc.heap.size ≤ GA; omega) (.slice S2 n2 c2)).setCell (p := ⟨GA, 1, none⟩) (by show wc.heap.size ≤ GA; omega) (.slice D2 m2 d2)).setCell (p := ⟨GA, 2, none⟩) (by show wc.heap.size ≤ GA; omega) (.int .i64 (kI (payK ss db (cha + inc)) (paC ss db (cha + inc))))
                        replace BA : Hid (Blk (((Wm.setCell ⟨GA, 0, none⟩ (.slice S2 n2 c2)).setCell ⟨GA, 1, none⟩ (.slice D2 m2 d2)).setCell ⟨GA, 2, none⟩ (.int .i64 (kI (payK ss db (cha + inc)) (paC ss db (cha + inc))))) GA 26 #[(.slice S2 n2 c2), (.slice D2 m2 d2), (.int .i64 (kI (payK ss db (cha + inc)) (paC ss db (cha + inc))))]) := Lib.hid (((BA.out.set_ 0 _).set_ 1 _).set_ 2 _)
                        replace OCn := Lib.hid (((OCn.out.off (grownBy_one _ ⟨GA, 0, none⟩ (.slice S2 n2 c2)) rCn).off (grownBy_one _ ⟨GA, 1, none⟩ (.slice D2 m2 d2)) rCn).off (grownBy_one _ ⟨GA, 2, none⟩ (.int .i64 (kI (payK ss db (cha + inc)) (paC ss db (cha + inc))))) rCn)
                        replace OPn := Lib.hid (((OPn.out.off (grownBy_one _ ⟨GA, 0, none⟩ (.slice S2 n2 c2)) rPn).off (grownBy_one _ ⟨GA, 1, none⟩ (.slice D2 m2 d2)) rPn).off (grownBy_one _ ⟨GA, 2, none⟩ (.int .i64 (kI (payK ss db (cha + inc)) (paC ss db (cha + inc))))) rPn)
                        have hS := SS.out _ hbn
                        refine hK _ _ (fun _ => hS) ?_; clear hK K; (try simp only [Act.put, List.setIfInBounds_toArray, List.set_cons_zero, List.set_cons_succ])
                        clear n0 n1x n2x f0 f1 f2
                        generalize ((Wm.setCell ⟨GA, 0, none⟩ (.slice S2 n2 c2)).setCell ⟨GA, 1, none⟩ (.slice D2 m2 d2)).setCell ⟨GA, 2, none⟩ (.int .i64 (kI (payK ss db (cha + inc)) (paC ss db (cha + inc)))) = Wn at *
                        refine wpAnyD_take (i := 12) (v := ?_) rfl (by kernel_rfl) (fun _ _ _ h => h) (Or.inl ⟨by rfl, ?_⟩) (by assumption) ?_; rotate_left; (intro w' hSw; (try dsimp only at hSw); go_simp; with_reducible rfl); (try simp only [Act.put, List.setIfInBounds_toArray, List.set_cons_zero, List.set_cons_succ])
                        refine wpAnyD_one (i := 13) rfl (by kernel_rfl) (fun K hK => ?_)
                        go_simp
                        refine hK _ _ (fun h => absurd rfl h) ?_; clear hK K
                        refine wpAnyD_done (by kernel_rfl) ?_ _
                        go_wp2_with fail
                        go_meet
                        case rel => exact ⟨GA, S2, n2, c2, D2, m2, d2, P, p, pc, rfl, rfl, rfl, Lib.hid ⟨hbn, hGr, BA.out, OCn.out, rCn⟩, Lib.hid ⟨OPn.out, rPn⟩⟩
                      · go_simp
                        obtain ⟨GA, hGA⟩ : ∃ GA, Wd.heap.size = GA := ⟨_, rfl⟩
                        have BA : Hid (Blk (Wd.alloc (.cells #[.slice none 0 0, .slice none 0 0, .int .i64 0] 26)) GA 26 #[.slice none 0 0, .slice none 0 0, .int .i64 0]) := Lib.hid (hGA ▸ Blk.new _ _ _)
                        have hGr : wc.heap.size ≤ GA := hGA ▸ hsd
                        have hbn := hbd.alloc hbd.size (.cells #[.slice none 0 0, .slice none 0 0, .int .i64 0] 26)
                        have hS := SS.out _ hbn
                        refine hK _ _ (fun _ => hS) ?_; clear hK K; (try simp only [Act.put, List.setIfInBounds_toArray, List.set_cons_zero, List.set_cons_succ])
                        clear hS
                        rw [hGA]
                        generalize Wd.alloc (.cells #[.slice none 0 0, .slice none 0 0, .int .i64 0] 26) = Wm at *
                        refine wpAnyD_one (i := 5) rfl (by kernel_rfl) (fun K hK => ?_)
                        go_simp
                        (with_reducible refine Calls.mono (HU.out _ hbn) ?_)
                        rintro ee Wc ⟨S2, n2, c2, D2, m2, d2, P, p, pc, rfl, ho, hop, hb⟩
                        dsimp only
                        have hlm := BA.out.lt
                        have rC := ho.rowsB
                        have rCn : ∀ q, (Value.slice S2 n2 c2).ownBlock = some q ∨ (Value.slice D2 m2 d2).ownBlock = some q → q ≠ GA := fun q e => by have := rC q e; omega
                        have rP := own_rowI hop
                        have rPn : ∀ q, (Value.slice P p pc).ownBlock = some q → q ≠ GA := fun q e => by have := rP q e; omega
                        have OCn := Lib.hid (ho.mono hbn.size)
                        have OPn := Lib.hid (hop.mono hbn.size)
                        replace hbn := bel_step hbn hb
                        replace BA : Hid (Blk Wc GA 26 #[.slice none 0 0, .slice none 0 0, .int .i64 0]) := Lib.hid (blk_later BA.out hb)
                        clear ho hb
                        clear hS0
                        have hS := SS.out _ hbn
                        refine hK _ _ (fun _ => hS) ?_; clear hK K; (try simp only [Act.put, List.setIfInBounds_toArray, List.set_cons_zero, List.set_cons_succ])
                        refine wpAnyD_take (i := 6) (v := ?_) rfl (by kernel_rfl) (fun _ _ _ h => h) (Or.inl ⟨by rfl, ?_⟩) (by assumption) ?_; rotate_left; (intro w' hSw; (try dsimp only at hSw); go_simp; with_reducible rfl); (try simp only [Act.put, List.setIfInBounds_toArray, List.set_cons_zero, List.set_cons_succ])
                        refine wpAnyD_take (i := 7) (v := ?_) rfl (by kernel_rfl) (fun _ _ _ h => h) (Or.inl ⟨by rfl, ?_⟩) (by assumption) ?_; rotate_left; (intro w' hSw; (try dsimp only at hSw); go_simp; with_reducible rfl); (try simp only [Act.put, List.setIfInBounds_toArray, List.set_cons_zero, List.set_cons_succ])
                        refine wpAnyD_take (i := 8) (v := ?_) rfl (by kernel_rfl) (fun _ _ _ h => h) (Or.inl ⟨by rfl, ?_⟩) (by assumption) ?_; rotate_left; (intro w' hSw; (try dsimp only at hSw); go_simp; with_reducible rfl); (try simp only [Act.put, List.setIfInBounds_toArray, List.set_cons_zero, List.set_cons_succ])
                        refine wpAnyD_take (i := 9) (v := ?_) rfl (by kernel_rfl) (fun _ _ _ h => h) (Or.inl ⟨by rfl, ?_⟩) (by assumption) ?_; rotate_left; (intro w' hSw; (try dsimp only at hSw); go_simp; with_reducible rfl); (try simp only [Act.put, List.setIfInBounds_toArray, List.set_cons_zero, List.set_cons_succ])
                        clear hS
                        refine wpAnyD_one (i := 11) rfl (by kernel_rfl) (fun K hK => ?_)
                        have r3 := r3_cells BA.out
                        have n0 := r3.1.1
                        have n1x := r3.1.2.1
                        have n2x := r3.1.2.2
                        have f0 := r3.2.1
                        have f1 := r3.2.2.1
                        have f2 := r3.2.2.2
                        clear r3
                        have hlA := BA.out.lt
                        go_simp
                        replace hbn := ((hbn.setCell (p := ⟨GA, 0, none⟩) (by show wc.heap.size ≤ GA; omega) (.slice S2 n2 c2)).setCell (p := ⟨GA, 1, none⟩) (by show wc.heap.size ≤ GA; omega) (.slice D2 m2 d2)).setCell (p := ⟨GA, 2, none⟩) (by show wc.heap.size ≤ GA; omega) (.int .i64 (kI (payK ss db (cha + inc)) (paC ss db (cha + inc))))
                        replace BA : Hid (Blk (((Wc.setCell ⟨GA, 0, none⟩ (.slice S2 n2 c2)).setCell ⟨GA, 1, none⟩ (.slice D2 m2 d2)).setCell ⟨GA, 2, none⟩ (.int .i64 (kI (payK ss db (cha + inc)) (paC ss db (cha + inc))))) GA 26 #[(.slice S2 n2 c2), (.slice D2 m2 d2), (.int .i64 (kI (payK ss db (cha + inc)) (paC ss db (cha + inc))))]) := Lib.hid (((BA.out.set_ 0 _).set_ 1 _).set_ 2 _)
                        replace OCn := Lib.hid (((OCn.out.off (grownBy_one _ ⟨GA, 0, none⟩ (.slice S2 n2 c2)) rCn).off (grownBy_one _ ⟨GA, 1, none⟩ (.slice D2 m2 d2)) rCn).off (grownBy_one _ ⟨GA, 2, none⟩ (.int .i64 (kI (payK ss db (cha + inc)) (paC ss db (cha + inc))))) rCn)
                        replace OPn := Lib.hid (((OPn.out.off (grownBy_one _ ⟨GA, 0, none⟩ (.slice S2 n2 c2)) rPn).off (grownBy_one _ ⟨GA, 1, none⟩ (.slice D2 m2 d2)) rPn).off (grownBy_one _ ⟨GA, 2, none⟩ (.int .i64 (kI (payK ss db (cha + inc)) (paC ss db (cha + inc))))) rPn)
                        have hS := SS.out _ hbn
                        refine hK _ _ (fun _ => hS) ?_; clear hK K; (try simp only [Act.put, List.setIfInBounds_toArray, List.set_cons_zero, List.set_cons_succ])
                        clear n0 n1x n2x f0 f1 f2
                        generalize ((Wc.setCell ⟨GA, 0, none⟩ (.slice S2 n2 c2)).setCell ⟨GA, 1, none⟩ (.slice D2 m2 d2)).setCell ⟨GA, 2, none⟩ (.int .i64 (kI (payK ss db (cha + inc)) (paC ss db (cha + inc)))) = Wn at *
                        refine wpAnyD_take (i := 12) (v := ?_) rfl (by kernel_rfl) (fun _ _ _ h => h) (Or.inl ⟨by rfl, ?_⟩) (by assumption) ?_; rotate_left; (intro w' hSw; (try dsimp only at hSw); go_simp; with_reducible rfl); (try simp only [Act.put, List.setIfInBounds_toArray, List.set_cons_zero, List.set_cons_succ])
                        refine wpAnyD_one (i := 13) rfl (by kernel_rfl) (fun K hK => ?_)
                        go_simp
                        refine hK _ _ (fun h => absurd rfl h) ?_; clear hK K
                        refine wpAnyD_done (by kernel_rfl) ?_ _
                        go_wp2_with fail
                        go_meet
                        case rel => exact ⟨GA, S2, n2, c2, D2, m2, d2, P, p, pc, rfl, rfl, rfl, Lib.hid ⟨hbn, hGr, BA.out, OCn.out, rCn⟩, Lib.hid ⟨OPn.out, rPn⟩⟩
                    case rest =>
                      obtain ⟨G2, S2, n2, c2, D2, m2, d2, P, p, pc, rfl, rfl, rfl, HN, HP⟩ := hcut
                      obtain ⟨hb, hG2, B2, OC2, row2⟩ := HN.out
                      obtain ⟨OP2, rowP⟩ := HP.out
                      clear HN HP HU SS n0 n1x n2x f0 f1 f2 hcI2 x0 x1 x2 y0 y1 y2 o0 o1 o2 p0 p1 p2
                      have hOc := B7.out.lt
                      have hTc := BT.out.lt
                      have hsw2 := hb.size
                      replace hB := bel_step hB hb
                      replace BR := Lib.hid (blk_later BR.out hb)
                      replace B7 := Lib.hid (blk_later B7.out hb)
                      replace BT := Lib.hid (blk_later BT.out hb)
                      have hRC := runC_v hok.out hOK.out
                      have hkc2 : (Hid (payK ss db (cha + inc) = 0) ∧ paC ss db (cha + inc) ≤ 1000000000000) ∨ (Hid (payK ss db (cha + inc) = 3) ∧ ¬ paC ss db (cha + inc) ≤ 1000000000000) := by
                        unfold payK
                        by_cases h : paC ss db (cha + inc) ≤ 1000000000000
                        · exact .inl ⟨Lib.hid (if_pos h), h⟩
                        · exact .inr ⟨Lib.hid (if_neg h), h⟩
                      (try clear x0 x1 x2 y0 y1 y2); obtain ⟨⟨x0, x1, x2⟩, y0, y1, y2⟩ := r3_cells BR.out; have hlR := BR.out.lt
                      (try clear o0 o1 o2 p0 p1 p2); obtain ⟨⟨o0, o1, o2⟩, p0, p1, p2⟩ := r3_cells B7.out; have hl7 := B7.out.lt
                      rcases hkc2 with ⟨hK, hle⟩ | ⟨hK, hle⟩
                      · rw [hK.out, kI_0] at B2
                        rw [hK.out, kL_0, kL_0] at OC2
                        rw [hK.out, kL_0] at OP2
                        rw [hK.out]
                        have hkcr := okC_iff.1 hokb.out
                        have hln := hnl.out
                        have ht : 0 ≤ cha + inc ∧ cha + inc ≤ 1001000000000 := by have := hkcr.2.2.2.1; omega
                        have hpb : Hid (∀ i, i < n → 0 ≤ gz (paL ss db (cha + inc)) i ∧ gz (paL ss db (cha + inc)) i ≤ 1001000000000000) := Lib.hid (fun i hi => by rw [gz_paL (by omega)]; exact paV_bd hkcr.2.1 ht (by omega))
                        have hle2 : paC ss (srt (da ++ l)) (cha + inc) ≤ 1000000000000 := by rw [hdb.out]; exact hle
                        have hV2 : runV ss ds ch (List.replicate ss.length 0) (is.zip dd) = runV ss db (paC ss db (cha + inc)) (addL ss.length got (paL ss db (cha + inc))) ((is.zip dd).drop (k + 1)) := by rw [hV.out, hzip.out, runV_step hbr2.out hle2, hdb.out]
                        have hokc := okC_next hoka.out (by rw [hln]; exact hdt.out.1) hir.1 hbr2.out hle2
                        rw [hdb.out] at hokc
                        have hpln := paL_len ss db (cha + inc)
                        obtain ⟨pl, hpl⟩ : ∃ pl, paL ss db (cha + inc) = pl := ⟨_, rfl⟩
                        obtain ⟨cv, hcv⟩ : ∃ cv, paC ss db (cha + inc) = cv := ⟨_, rfl⟩
                        rw [hcv] at B2 hokc hV2
                        rw [hpl] at OP2 hpb hV2 hpln
                        have hpn : n = p := by have := OP2.rd.1; omega
                        subst hpn
                        replace hV2 := Lib.hid hV2
                        replace hokc := Lib.hid hokc
                        replace hpln := Lib.hid hpln
                        replace OP2 := Lib.hid OP2
                        replace OC2 := Lib.hid OC2
                        have rP := Lib.hid (own_rowI OP2.out)
                        have rC := Lib.hid OC2.out.rowsB
                        obtain ⟨⟨n0, n1x, n2x⟩, f0, f1, f2⟩ := r3_cells B2
                        have hl2 := B2.lt
                        replace B2 := Lib.hid B2
                        clear hle hle2 hK hkcr ht hln hpl hcv hb hV hoka hokb hRC row2 rowP OC rowO
                        clear hbr2 hdb hdt hzip B1 OC1 row1 hbI hir
                        go_wp2_with fail
                        have rCO : Hid (∀ q, (Value.slice S2 n2 c2).ownBlock = some q ∨ (Value.slice D2 m2 d2).ownBlock = some q → q ≠ GO ∧ q ≠ GT) := Lib.hid (fun q e => by have := rC.out q e; omega)
                        have rPO : Hid (∀ q, (Value.slice P n pc).ownBlock = some q → q ≠ GO ∧ q ≠ GT) := Lib.hid (fun q e => by have := rP.out q e; omega)
                        obtain ⟨W1, hW1⟩ : ∃ W1, ((wc.setCell ⟨GO, 0, none⟩ (.slice S2 n2 c2)).setCell ⟨GO, 1, none⟩ (.slice D2 m2 d2)).setCell ⟨GO, 2, none⟩ (.int .i64 cv) = W1 := ⟨_, rfl⟩
                        rw [hW1]
                        replace hB : Below w.heap.size w W1 := hW1 ▸ ((hB.setCell (p := ⟨GO, 0, none⟩) (by show w.heap.size ≤ GO; omega) _).setCell (p := ⟨GO, 1, none⟩) (by show w.heap.size ≤ GO; omega) _).setCell (p := ⟨GO, 2, none⟩) (by show w.heap.size ≤ GO; omega) _
                        replace BR : Hid (Blk W1 (w.heap.size + 1) 26 #[.slice none 0 0, .slice none 0 0, .int .i64 0]) := hW1 ▸ Lib.hid (((BR.out.far (p := ⟨GO, 0, none⟩) (by show w.heap.size + 1 ≠ GO; omega) _).far (p := ⟨GO, 1, none⟩) (by show w.heap.size + 1 ≠ GO; omega) _).far (p := ⟨GO, 2, none⟩) (by show w.heap.size + 1 ≠ GO; omega) _)
                        replace B7 : Hid (Blk W1 GO 26 #[.slice S2 n2 c2, .slice D2 m2 d2, .int .i64 cv]) := hW1 ▸ Lib.hid (((B7.out.set_ 0 _).set_ 1 _).set_ 2 _)
                        replace BT : Hid (Blk W1 GT 2 cs) := hW1 ▸ Lib.hid (((BT.out.far (p := ⟨GO, 0, none⟩) (by show GT ≠ GO; omega) _).far (p := ⟨GO, 1, none⟩) (by show GT ≠ GO; omega) _).far (p := ⟨GO, 2, none⟩) (by show GT ≠ GO; omega) _)
                        replace OC2 : Hid (OwC W1 (w.heap.size + 2) (.slice S2 n2 c2) (.slice D2 m2 d2) ss db) := hW1 ▸ Lib.hid ((((OC2.out.mono (by omega)).off (grownBy_one _ ⟨GO, 0, none⟩ _) (fun q e => (rCO.out q e).1)).off (grownBy_one _ ⟨GO, 1, none⟩ _) (fun q e => (rCO.out q e).1)).off (grownBy_one _ ⟨GO, 2, none⟩ _) (fun q e => (rCO.out q e).1))
                        replace OP2 : Hid (OwI W1 (w.heap.size + 2) (.slice P n pc) pl) := hW1 ▸ Lib.hid ((((OP2.out.mono (by omega)).off (grownBy_one _ ⟨GO, 0, none⟩ _) (fun q e => (rPO.out q e).1)).off (grownBy_one _ ⟨GO, 1, none⟩ _) (fun q e => (rPO.out q e).1)).off (grownBy_one _ ⟨GO, 2, none⟩ _) (fun q e => (rPO.out q e).1))
                        have hmix : Hid (holdsL cs (mix (fun i => gz got i + gz pl i) (gz got) n 0)) := Lib.hid (by
                          have h1 := range_gz got
                          rw [hgl.out, hnl.out] at h1
                          rw [mix_0, h1]
                          exact hBT.out)
                        clear hW1 hBT n0 n1x n2x f0 f1 f2 B2 rC rP x0 x1 x2 y0 y1 y2 o0 o1 o2 p0 p1 p2
                        go_loopw [19] (fun i wr => ∃ (j : Nat) (cs : Array Value), i = .int .i64 j ∧ j ≤ n ∧ Below w.heap.size w wr ∧ Hid (Blk wr (w.heap.size + 1) 26 #[.slice none 0 0, .slice none 0 0, .int .i64 0]) ∧ Hid (Blk wr GO 26 #[.slice S2 n2 c2, .slice D2 m2 d2, .int .i64 cv]) ∧ Hid (Blk wr GT 2 cs) ∧ Hid (holdsL cs (mix (fun i => gz got i + gz pl i) (gz got) n j)) ∧ Hid (OwC wr (w.heap.size + 2) (.slice S2 n2 c2) (.slice D2 m2 d2) ss db) ∧ Hid (OwI wr (w.heap.size + 2) (.slice P n pc) pl)) (fun i _ => n - (intOf i).toNat)
                        case atStart => exact ⟨0, cs, rfl, Nat.zero_le _, hB, BR, B7, BT, hmix, OC2, OP2⟩
                        case round =>
                          clear hB BR B7 BT hmix OC2 OP2
                          obtain ⟨j, cs, rfl, hj, hB, BR, B7, BT, HL, OC2, OP2⟩ := hrel
                          have hlR := BR.out.lt
                          have hl7 := B7.out.lt
                          have hlT := BT.out.lt
                          by_cases hlj : j < n
                          · obtain ⟨adP, rfl, hbP, k1⟩ := RdI.atZ OP2.out.rd.2 hlj
                            have k2 := (BT.out.cell j).trans (HL.out.get (mix_get (fun i => gz got i + gz pl i) (gz got) hlj))
                            rw [if_neg (Nat.lt_irrefl j)] at k2
                            have g3 := BT.out.frozen j
                            have hg1 := hgb.out j hlj
                            have hg2 := hpb.out j hlj
                            have q5 := IntWalk.i64_in (gz got j + gz pl j) (by omega)
                            have HL2 : Hid (holdsL (cs.setIfInBounds j (.int .i64 (gz got j + gz pl j))) (mix (fun i => gz got i + gz pl i) (gz got) n (j + 1))) := Lib.hid (by rw [← mix_set _ _ hlj]; exact HL.out.set j _)
                            clear hg1 hg2
                            generalize gz got j = xg at *
                            generalize gz pl j = xp at *
                            go_wp2_with fail
                            go_region
                            go_wp2_with fail
                            go_roundw
                            case rel => exact ⟨j + 1, _, by go_num, by omega, (hB.setCell (p := ⟨GT, j, none⟩) (by show w.heap.size ≤ GT; omega) _).drew, BR.out.far (by show w.heap.size + 1 ≠ GT; omega) _, B7.out.far (by show GO ≠ GT; omega) _, BT.out.set_ j _, HL2, (OC2.out.off (grownBy_one _ ⟨GT, j, none⟩ _) (fun q e => (rCO.out q e).2)).drew, (OP2.out.off (grownBy_one _ ⟨GT, j, none⟩ _) (fun q e => (rPO.out q e).2)).drew⟩
                            case measure => simp [intOf]; omega
                          · obtain rfl : j = n := by omega
                            have HL3 : Hid (holdsL cs (addL ss.length got pl)) := Lib.hid (by rw [hnl.out]; have h1 := HL.out; rw [mix_n] at h1; exact h1)
                            have HG3 : Hid (∀ i, i < j → 0 ≤ gz (addL ss.length got pl) i ∧ gz (addL ss.length got pl) i ≤ ((k + 1 : Nat) : Int) * 1001000000000000) := Lib.hid (fun i hi => by rw [gz_addL (by have := hnl.out; omega)]; have h1 := hgb.out i hi; have h2 := hpb.out i hi; omega)
                            go_wp2_with fail
                            go_roundw
                            case rel => exact ⟨k + 1, S2, n2, c2, D2, m2, d2, cv, cs, db, addL ss.length got pl, by go_num, by omega, Lib.hid ⟨hB, BR.out, B7.out, ⟨BT.out, HL3.out⟩, OC2.out, rCO.out⟩, hV2, hokc, Lib.hid (addL_len _ _ _), HG3⟩
                            case measure => simp [intOf]; omega
                      · have hle2 : ¬ paC ss (srt (da ++ l)) (cha + inc) ≤ 1000000000000 := by rw [hdb.out]; exact hle
                        have hV3 : runV ss ds ch (List.replicate ss.length 0) (is.zip dd) = (3, [], 0, []) := by rw [hV.out, hzip.out, runV_pay hbr2.out hle2]
                        rw [hV3] at hRC
                        rw [hK.out]
                        clear hV3 hle hle2
                        go_upto_region 20 with fail
                        (iterate 18 (first | go_big_hide | go_big_move | go_big_op | go_big_cond | go_big_open | go_step | go_upon)); go_step; (try go_step); (try simp only [Exit.inBlock, Exit.then]); (try go_big_open); (try simp only [Exit.inBlock, Exit.then]); refine bodyPost_ret (v := .tuple #[.agg #[.slice none 0 0, .slice none 0 0, .int .i64 0], .slice none 0 0, .int .i64 3]) (res_run Try.results9 rfl rfl rfl (((BR.out.set_ 0 _).set_ 1 _).set_ 2 _)) rfl ?_
                        rw [hRC.out]
                        exact rcP_no (by decide) (by go_grown)
                  · have hRC := runC_v hok.out hOK.out
                    have hV5 : runV ss ds ch (List.replicate ss.length 0) (is.zip dd) = (5, [], 0, []) := by rw [hV.out, hzip.out, runV_bury hbr]
                    rw [hV5] at hRC
                    clear hV5
                    go_upto_region 17 with fail
                    (iterate 18 (first | go_big_hide | go_big_move | go_big_op | go_big_cond | go_big_open | go_step | go_upon)); go_step; (try go_step); (try simp only [Exit.inBlock, Exit.then]); (try go_big_open); (try simp only [Exit.inBlock, Exit.then]); refine bodyPost_ret (v := .tuple #[.agg #[.slice none 0 0, .slice none 0 0, .int .i64 0], .slice none 0 0, .int .i64 (bR da l)]) (res_run Try.results9 rfl rfl rfl (((BR.out.set_ 0 _).set_ 1 _).set_ 2 _)) rfl ?_
                    rw [hRC.out, hbr]
                    exact rcP_no (by decide) (by go_grown)
              · have hkn : k = ni := by omega
                have hzl : (is.zip dd).drop k = [] := by rw [List.drop_eq_nil_iff, List.length_zip]; have := hnil.out; have := hnel.out; have := hnine.out; omega
                have hV0 : Hid (runV ss ds ch (List.replicate ss.length 0) (is.zip dd) = (0, da, cha, got)) := Lib.hid (by rw [hV.out, hzl]; rfl)
                have hRC : Hid (runC ss ds ch is dd = 0) := Lib.hid (by rw [(runC_v hok.out hOK.out).out, hV0.out])
                have OP : Hid (OwI wr (w.heap.size + 2) (.slice (some ⟨GT, 0, none⟩) n n) got) := Lib.hid (by
                  have h1 := holdsL.own (base := w.heap.size + 2) BT.out hBT.out (by have := hgl.out; have := hnl.out; omega) (by omega)
                  rw [hgl.out, hnl.out] at h1
                  exact h1)
                clear hV hzl hkn hoka hgb hnil hnel hnine HDT HIR
                go_upto_region 26 with fail
                (iterate 18 (first | go_big_hide | go_big_move | go_big_op | go_big_cond | go_big_open | go_step | go_upon)); go_step; (try go_step); (try simp only [Exit.inBlock, Exit.then]); (try go_big_open); (try simp only [Exit.inBlock, Exit.then]); refine bodyPost_ret (v := .tuple #[.agg #[.slice So no co, .slice Do mo od, .int .i64 cha], .slice (some ⟨GT, 0, none⟩) n n, .int .i64 0]) (res_run Try.results9 rfl rfl rfl (((BR.out.set_ 0 _).set_ 1 _).set_ 2 _)) rfl ?_
                rw [hV0.out, hRC.out]
                refine ⟨So, no, co, Do, mo, od, _, _, _, rfl, ?_, ?_, ?_, by go_grown⟩
                · rw [kL_0, kL_0]
                  exact (((OC.out.store (by show w.heap.size + 1 < _; omega) _).store (by show w.heap.size + 1 < _; omega) _).store (by show w.heap.size + 1 < _; omega) _).mono (by omega)
                · rw [kL_0]
                  exact (((OP.out.store (by show w.heap.size + 1 < _; omega) _).store (by show w.heap.size + 1 < _; omega) _).store (by show w.heap.size + 1 < _; omega) _).mono (by omega)
                · intro q e e2
                  have h1 := (rowO.out q e).2
                  simp only [Value.ownBlock, Option.some.injEq] at e2
                  omega
        · have hQ := runC_2 hok.out hno
          clear HD hno
          go_upto_region 9 with fail
          (iterate 18 (first | go_big_hide | go_big_move | go_big_op | go_big_cond | go_big_open | go_step | go_upon)); go_step; (try go_step); (try simp only [Exit.inBlock, Exit.then]); (try go_big_open); (try simp only [Exit.inBlock, Exit.then]); refine bodyPost_ret (v := .tuple #[.agg #[.slice none 0 0, .slice none 0 0, .int .i64 0], .slice none 0 0, .int .i64 2]) (res_run Try.results9 rfl rfl rfl (((BR.out.set_ 0 _).set_ 1 _).set_ 2 _)) rfl ?_
          rw [hQ.out]
          exact rcP_no (by decide) (by go_grown)
end Go.Proofs.Ytmhbkabdiciakaa
