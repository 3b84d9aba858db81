/-
  Contracts of chapter 13: RunClass, the program's side.
-/
import Derived.Test.YtmhbkabdiciakaaM0
set_option linter.unusedSimpArgs false
set_option linter.unusedVariables false
namespace Go.Proofs.Ytmhbkabdiciakaa
open Go.RowKit
theorem runOK_no1 {n : Nat} {is : List Int} {dd : List (List Int)} (h : ¬ is.length = dd.length) : Hid (runOK n is dd = false) := by show _ = _; unfold runOK; rw [decide_eq_false h, Bool.and_false, Bool.false_and]
theorem runOK_no2 {n : Nat} {is : List Int} {dd : List (List Int)} (h : ¬ (is.length : Int) ≤ 100) : Hid (runOK n is dd = false) := by show _ = _; unfold runOK; rw [decide_eq_false h, Bool.and_false, Bool.false_and, Bool.false_and]
theorem runOK_no3 {n : Nat} {is : List Int} {dd : List (List Int)} (h : dd.any longB = true) : Hid (runOK n is dd = false) := by
  show _ = _
  have h1 : dd.all (dthB n) = false := by
    obtain ⟨l, hl, h2⟩ := List.any_eq_true.1 h
    rw [List.all_eq_false]
    refine ⟨l, hl, ?_⟩
    unfold longB at h2
    unfold dthB
    rw [decide_eq_false (by have := of_decide_eq_true h2; omega), Bool.and_false]
    decide
  unfold runOK
  rw [h1, Bool.and_false]
theorem runOK_no4 {n : Nat} {is : List Int} {dd : List (List Int)} {k : Nat} {x : Int} (h : is[k]? = some x) (h2 : inR 0 100000000 x = false) : Hid (runOK n is dd = false) := by
  show _ = _
  unfold runOK
  rw [all_no h h2, Bool.false_and, Bool.false_and, Bool.false_and]
theorem runOK_no5 {n : Nat} {is : List Int} {dd : List (List Int)} {k : Nat} {l : List Int} (h : dd[k]? = some l) (h2 : l.all (inR 0 ((n : Int) - 1)) = false) : Hid (runOK n is dd = false) := by
  show _ = _
  unfold runOK
  rw [all_no h (show dthB n l = false by unfold dthB; rw [h2, Bool.false_and]), Bool.and_false]
theorem long_no {dd : List (List Int)} (h : dd.any longB = false) : ∀ l ∈ dd, l.length ≤ 120 := by
  intro l hl
  have h1 := List.any_eq_false.1 h l hl
  unfold longB at h1
  have h2 : ¬ (120 : Int) < (l.length : Int) := fun h => h1 (decide_eq_true h)
  omega
theorem runOK_yes {n : Nat} {is : List Int} {dd : List (List Int)} (h1 : is.length = dd.length) (h2 : (is.length : Int) ≤ 100) (h3 : dd.any longB = false) (h4 : ∀ j, j < is.length → (∀ x, is[j]? = some x → inR 0 100000000 x = true) ∧ ∀ l, dd[j]? = some l → l.all (inR 0 ((n : Int) - 1)) = true) : is.all (inR 0 100000000) = true ∧ dd.all (dthB n) = true ∧ runOK n is dd = true := by
  have ha : is.all (inR 0 100000000) = true := all_of_steps (fun j hj y hy => (h4 j hj).1 y hy)
  have hb : dd.all (dthB n) = true := all_of_steps (fun j hj y hy => by
    unfold dthB
    have h5 := long_no h3 y (List.mem_of_getElem? hy)
    rw [(h4 j (by omega)).2 y hy, decide_eq_true (by omega)]
    rfl)
  refine ⟨ha, hb, ?_⟩
  unfold runOK
  rw [ha, hb, decide_eq_true h1, decide_eq_true h2]
  rfl
set_option maxHeartbeats 8000000 in
set_option maxRecDepth 100000 in
theorem iRun_any (S : Option Addr) (n c : Nat) (ss : List Int) (D : Option Addr) (m d : Nat) (ds : List Int) (ch : Int) (I : Option Addr) (ni ic : Nat) (is : List Int) (E : Option Addr) (ne ec : Nat) (es : List (Option Addr × Nat × Nat)) (dd : List (List Int)) (w : World) (hS : RdI w w.heap.size S n ss) (hD : RdI w w.heap.size D m ds) (hI : RdI w w.heap.size I ni is) (hE : RdLL w w.heap.size E ne es dd) (hcS : S = none → c = 0) (hcD : D = none → d = 0) (hn : n ≤ 1048576) (hm : m ≤ 1048576) (hni : ni ≤ 1048576) (hne : ne ≤ 1048576) (hdl : ∀ l ∈ dd, l.length ≤ 1048576) : Calls Try.prog 8 #[.agg #[.slice S n c, .slice D m d, .int .i64 ch], .slice I ni ic, .slice E ne ec] w fun ee w' => rcP w w' ee (runC ss ds ch is dd) ss (runV ss ds ch (List.replicate ss.length 0) (is.zip dd)).2.1 (runV ss ds ch (List.replicate ss.length 0) (is.zip dd)).2.2.1 (runV ss ds ch (List.replicate ss.length 0) (is.zip dd)).2.2.2 := by
  have H1 := fun W (hB : Below w.heap.size w W) => iIsC_any S n c ss D m d ds ch W ((hS.below hB).more hB.size) ((hD.below hB).more hB.size) (by omega) (by omega)
  have BB := Lib.hid ((Blk.new w 26 #[.slice S n c, .slice D m d, .int .i64 ch]).alloc (.cells #[.slice none 0 0, .slice none 0 0, .int .i64 0] 26))
  have BR := Lib.hid (Blk.new (w.alloc (.cells #[.slice S n c, .slice D m d, .int .i64 ch] 26)) 26 #[.slice none 0 0, .slice none 0 0, .int .i64 0])
  rw [World.size_alloc] at BR
  have hB : Below w.heap.size w ((w.alloc (.cells #[.slice S n c, .slice D m d, .int .i64 ch] 26)).alloc (.cells #[.slice none 0 0, .slice none 0 0, .int .i64 0] 26)) := (al_ _ _).alloc (by simp) _
  cases hok : okC ss ds ch with
  | false =>
    have hQ := runC_1 (is := is) (dd := dd) hok
    rw [hok] at H1
    replace H1 := Lib.hid H1
    clear hS hD hI hE hok hdl
    go_enter Try.func8, Try.ntmps8
    go_wp2_with (go_at_call 16; (with_reducible refine Calls.mono (H1.out _ hB) ?_); rintro ee wz ⟨rfl, hb⟩; replace hB := bel_step hB hb; replace BB := Lib.hid (blk_later BB.out hb); replace BR := Lib.hid (blk_later BR.out hb); clear hb; (try clear c0 c1 c2); obtain ⟨c0, c1, c2⟩ := c3_cells BB.out; have hlB := BB.out.lt; (try clear x0 x1 x2 y0 y1 y2); obtain ⟨⟨x0, x1, x2⟩, y0, y1, y2⟩ := r3_cells BR.out; have hlR := BR.out.lt)
    (try simp only [Exit.inBlock, Exit.then]); refine bodyPost_ret (v := .tuple #[.agg #[.slice none 0 0, .slice none 0 0, .int .i64 0], .slice none 0 0, .int .i64 1]) (res_run Try.results8 rfl rfl rfl (((BR.out.set_ 0 _).set_ 1 _).set_ 2 _)) rfl ?_
    rw [hQ.out]
    exact rcP_no (by decide) (by go_grown)
  | true =>
    rw [hok] at H1
    replace H1 := Lib.hid H1
    have hkc := okC_iff.1 hok
    have hnl := hS.len
    have hml := hD.len
    have hnil := hI.len
    have hnel := hE.2.1
    have hmn := inc_len hkc.2.2.2.2 hkc.2.2.1
    have HE := Lib.hid (fun W (hB : Below w.heap.size w W) => (hE.below hB).more hB.size)
    have HI := Lib.hid (fun W (hB : Below w.heap.size w W) => (hI.below hB).more hB.size)
    have HC := fun W (hB : Below w.heap.size w W) => containsSS_any E ne ec es dd W ((hE.below hB).more hB.size) (by omega) (fun l hl => by have := hdl l hl; omega)
    have H1c := Lib.hid (fun W (hB : Below w.heap.size w W) => iClone_any S n c ss D m d ds ch W ((hS.below hB).more hB.size) ((hD.below hB).more hB.size) hcS hcD (by omega) (by omega))
    have hnB : n ≤ 60 := by omega
    have hmB : m ≤ 60 := by omega
    have HN : (Try.prog.info? 2).map (fun i => (i.zero, i.size, i.bytes)) = some (some (.int .i64 0), 1, 8) := by kernel_rfl
    obtain ⟨i0, hi, hz0, hz1, hz2⟩ := info_parts HN
    have hmk := fun W => run_make_rowN (P := Try.prog) 24 2 i0 _ Try.underlying24 hi hz0 .i64 .i64 n n (Nat.le_refl _) (by rw [hz2]; omega) (by omega) W
    rw [hz1, Nat.mul_one] at hmk
    have hz := Lib.hid (holdsL_made n)
    obtain ⟨cs0, hcs0⟩ : ∃ cs0, madeCells (Value.int .i64 0).cells n = cs0 := ⟨_, rfl⟩
    rw [hcs0] at hmk hz
    replace hnl := Lib.hid hnl
    replace hml := Lib.hid hml
    replace hnil := Lib.hid hnil
    replace hnel := Lib.hid hnel
    replace hok := Lib.hid hok
    have q1 := IntWalk.i64_in ((n : Int) - 1) (by omega)
    clear hS hD hI hE hdl hmn HN hi hz0 hz1 hz2 hcs0 hkc
    replace hmk := Lib.hid hmk
    go_enter Try.func8, Try.ntmps8
    go_upto_region 3 with (go_at_call 16; (with_reducible refine Calls.mono (H1.out _ hB) ?_); rintro ee wz ⟨rfl, hb⟩; replace hB := bel_step hB hb; replace BB := Lib.hid (blk_later BB.out hb); replace BR := Lib.hid (blk_later BR.out hb); clear hb; (try clear c0 c1 c2); obtain ⟨c0, c1, c2⟩ := c3_cells BB.out; have hlB := BB.out.lt; (try clear x0 x1 x2 y0 y1 y2); obtain ⟨⟨x0, x1, x2⟩, y0, y1, y2⟩ := r3_cells BR.out; have hlR := BR.out.lt)
    go_cut [22, 27] (fun _ s27 wx => ∃ b, s27 = .bool b ∧ Hid ((b = true ∧ runOK ss.length is dd = false) ∨ (b = false ∧ is.length = dd.length ∧ (is.length : Int) ≤ 100 ∧ dd.any longB = false)) ∧ Below w.heap.size w wx ∧ Hid (Blk wx w.heap.size 26 #[.slice S n c, .slice D m d, .int .i64 ch]) ∧ Hid (Blk wx (w.heap.size + 1) 26 #[.slice none 0 0, .slice none 0 0, .int .i64 0]))
    case first =>
      by_cases hnn : ni = ne
      · have hnn2 : ((ni : Int) == (ne : Int)) = true := by rw [beq_iff_eq]; omega
        have hnn4 : ((ni : Int) != (ne : Int)) = false := by rw [bne, hnn2]; rfl
        have hnn3 := Lib.hid hnn
        clear hnn
        by_cases h100 : (100 : Int) < (ni : Int)
        · have hno := runOK_no2 (n := ss.length) (is := is) (dd := dd) (by have := hnil.out; omega)
          go_wp2_with fail
          go_meet
          case rel => exact ⟨true, rfl, Lib.hid (.inl ⟨rfl, hno.out⟩), hB, BB, BR⟩
        · cases hlo : dd.any longB with
          | false =>
            rw [hlo] at HC
            have hyes : Hid (is.length = dd.length ∧ (is.length : Int) ≤ 100 ∧ dd.any longB = false) := Lib.hid ⟨by have := hnil.out; have := hnel.out; have := hnn3.out; omega, by have := hnil.out; omega, hlo⟩
            replace HC := Lib.hid HC
            clear hlo
            go_wp2_with (go_at_call 39; (with_reducible refine Calls.mono (HC.out _ hB) ?_); rintro ee wz ⟨rfl, rfl⟩)
            go_meet
            case rel => exact ⟨false, rfl, Lib.hid (.inr ⟨rfl, hyes.out⟩), hB, BB, BR⟩
          | true =>
            rw [hlo] at HC
            have hno := runOK_no3 (n := ss.length) (is := is) (dd := dd) hlo
            replace HC := Lib.hid HC
            clear hlo
            go_wp2_with (go_at_call 39; (with_reducible refine Calls.mono (HC.out _ hB) ?_); rintro ee wz ⟨rfl, rfl⟩)
            go_meet
            case rel => exact ⟨true, rfl, Lib.hid (.inl ⟨rfl, hno.out⟩), hB, BB, BR⟩
      · have hnn2 : ((ni : Int) == (ne : Int)) = false := by rw [beq_eq_false_iff_ne]; omega
        have hnn4 : ((ni : Int) != (ne : Int)) = true := by rw [bne, hnn2]; rfl
        have hno := runOK_no1 (n := ss.length) (is := is) (dd := dd) (by have := hnil.out; have := hnel.out; omega)
        clear hnn
        go_wp2_with fail
        go_meet
        case rel => exact ⟨true, rfl, Lib.hid (.inl ⟨rfl, hno.out⟩), hB, BB, BR⟩
    case rest =>
      clear hB BB BR c0 c1 c2 x0 x1 x2 y0 y1 y2 hlB hlR H1 HC
      obtain ⟨b, rfl, hb0, hB, BB, BR⟩ := hcut
      (try clear c0 c1 c2); obtain ⟨c0, c1, c2⟩ := c3_cells BB.out; have hlB := BB.out.lt
      (try clear x0 x1 x2 y0 y1 y2); obtain ⟨⟨x0, x1, x2⟩, y0, y1, y2⟩ := r3_cells BR.out; have hlR := BR.out.lt
      rcases hb0.out with ⟨rfl, hno⟩ | ⟨rfl, hie, hi100, hlo⟩
      · have hQ := runC_2 hok.out hno
        clear hb0 hno
        go_upto_region 4 with fail
        (iterate 18 (first | go_big_hide | go_big_move | go_big_op | go_big_cond | go_big_open | go_step | go_upon)); go_step; (try go_step); (try simp only [Exit.inBlock, Exit.then]); (try go_big_open); (try simp only [Exit.inBlock, Exit.then]); refine bodyPost_ret (v := .tuple #[.agg #[.slice none 0 0, .slice none 0 0, .int .i64 0], .slice none 0 0, .int .i64 2]) (res_run Try.results8 rfl rfl rfl (((BR.out.set_ 0 _).set_ 1 _).set_ 2 _)) rfl ?_
        rw [hQ.out]
        exact rcP_no (by decide) (by go_grown)
      · have hni100 : ni ≤ 100 := by have := hnil.out; omega
        have hnine : Hid (ni = ne) := Lib.hid (by have := hnil.out; have := hnel.out; omega)
        have hie2 := Lib.hid hie
        have hlo2 := Lib.hid hlo
        have hi1002 := Lib.hid hi100
        clear hb0 hie hlo hi100
        go_wp2_with fail
        go_loopw [45, 9, 10] (fun i _ _ wr => ∃ k : Nat, i = .int .i64 k ∧ k ≤ ni ∧ Below w.heap.size w wr ∧ Hid (Blk wr w.heap.size 26 #[.slice S n c, .slice D m d, .int .i64 ch]) ∧ Hid (Blk wr (w.heap.size + 1) 26 #[.slice none 0 0, .slice none 0 0, .int .i64 0]) ∧ Hid (∀ j, j < k → (∀ x, is[j]? = some x → inR 0 100000000 x = true) ∧ ∀ l, dd[j]? = some l → l.all (inR 0 ((n : Int) - 1)) = true)) (fun i _ _ _ => ni - (intOf i).toNat)
        case atStart => exact ⟨0, rfl, Nat.zero_le _, hB, BB, BR, Lib.hid (fun j hj => by omega)⟩
        case round =>
          clear hB BB BR c0 c1 c2 x0 x1 x2 y0 y1 y2 hlB hlR
          obtain ⟨k, rfl, hk, hB, BB, BR, HD⟩ := hrel
          (try clear c0 c1 c2); obtain ⟨c0, c1, c2⟩ := c3_cells BB.out; have hlB := BB.out.lt
          (try clear x0 x1 x2 y0 y1 y2); obtain ⟨⟨x0, x1, x2⟩, y0, y1, y2⟩ := r3_cells BR.out; have hlR := BR.out.lt
          by_cases hlt : k < ni
          · obtain ⟨adI, inc, rfl, hbI, hzI, hcI⟩ := RdI.atI (HI.out _ hB) hlt
            have hkne : k < ne := by have := hnine.out; omega
            obtain ⟨adE, Sl, ml, cl, l, rfl, hbE, hzE, hcE, hrE, hnE⟩ := (HE.out _ hB).at_ hkne
            have hml2 := hrE.len
            have hl120 := long_no hlo2.out l (List.mem_of_getElem? hzE)
            have HIn := fun (W : World) => isIncome_any inc W
            have HAl := fun (X : InC wr) => allIn_any Sl ml cl l 0 ((n : Int) - 1) X.w ((hrE.below X.h).more X.h.size) (by unfold maxLen; omega)
            have HLn := Lib.hid (fun (W : World) => lengthI_any S n c W (by omega))
            have z1 := fun X : InC wr => X.cell hcE
            have z2 := fun X : InC wr => X.cell c0
            have hbE2 : (adE.add k).block < wr.heap.size := by rw [block_of_add]; exact hbE
            have hzI2 := Lib.hid hzI
            have hzE2 := Lib.hid hzE
            clear hzI hzE hrE hml2
            cases hv1 : inR 0 100000000 inc with
            | false =>
              rw [hv1] at HIn
              replace HIn := Lib.hid HIn
              have hno := runOK_no4 (n := ss.length) (is := is) (dd := dd) hzI2.out hv1
              have hQ := runC_2 hok.out hno.out
              replace HAl := Lib.hid HAl
              clear hv1 hno
              go_upto_region 8 with fail
              (refine wp_region_inC (by kernel_rfl) (by kernel_rfl) ?_; (repeat go_big_quiet_step ((first | (go_at_call 41; with_reducible exact Calls.inC_same (HIn.out _))))); refine wpQuiet_nil ?_; rintro w7 ⟨⟨_, hb⟩, rfl⟩)
              replace hB := bel_step hB hb; replace BB := Lib.hid (blk_later BB.out hb); replace BR := Lib.hid (blk_later BR.out hb)
              clear hb z1 z2
              (try clear x0 x1 x2 y0 y1 y2); obtain ⟨⟨x0, x1, x2⟩, y0, y1, y2⟩ := r3_cells BR.out; have hlR := BR.out.lt
              go_upto_region 9 with fail
              (iterate 18 (first | go_big_hide | go_big_move | go_big_op | go_big_cond | go_big_open | go_step | go_upon)); go_step; (try go_step); (try simp only [Exit.inBlock, Exit.then]); (try go_big_open); (try simp only [Exit.inBlock, Exit.then]); refine bodyPost_ret (v := .tuple #[.agg #[.slice none 0 0, .slice none 0 0, .int .i64 0], .slice none 0 0, .int .i64 2]) (res_run Try.results8 rfl rfl rfl (((BR.out.set_ 0 _).set_ 1 _).set_ 2 _)) rfl ?_
              rw [hQ.out]
              exact rcP_no (by decide) (by go_grown)
            | true =>
              rw [hv1] at HIn
              replace HIn := Lib.hid HIn
              have hv1' := Lib.hid hv1
              clear hv1
              cases hv2 : l.all (inR 0 ((n : Int) - 1)) with
              | false =>
                rw [hv2] at HAl
                replace HAl := Lib.hid HAl
                have hno := runOK_no5 (n := ss.length) (is := is) (dd := dd) hzE2.out (by rw [hnl.out]; exact hv2)
                have hQ := runC_2 hok.out hno.out
                clear hv2 hno
                go_upto_region 8 with fail
                (refine wp_region_inC (by kernel_rfl) (by kernel_rfl) ?_; (repeat go_big_quiet_step ((first | (go_at_call 41; with_reducible exact Calls.inC_same (HIn.out _)) | (go_at_call 43; with_reducible exact Calls.inC_same (HLn.out _)) | (go_at_call 42; with_reducible exact Calls.inC (HAl.out _))))); refine wpQuiet_nil ?_; rintro w7 ⟨⟨_, hb⟩, rfl⟩)
                replace hB := bel_step hB hb; replace BB := Lib.hid (blk_later BB.out hb); replace BR := Lib.hid (blk_later BR.out hb)
                clear hb z1 z2
                (try clear x0 x1 x2 y0 y1 y2); obtain ⟨⟨x0, x1, x2⟩, y0, y1, y2⟩ := r3_cells BR.out; have hlR := BR.out.lt
                go_upto_region 9 with fail
                (iterate 18 (first | go_big_hide | go_big_move | go_big_op | go_big_cond | go_big_open | go_step | go_upon)); go_step; (try go_step); (try simp only [Exit.inBlock, Exit.then]); (try go_big_open); (try simp only [Exit.inBlock, Exit.then]); refine bodyPost_ret (v := .tuple #[.agg #[.slice none 0 0, .slice none 0 0, .int .i64 0], .slice none 0 0, .int .i64 2]) (res_run Try.results8 rfl rfl rfl (((BR.out.set_ 0 _).set_ 1 _).set_ 2 _)) rfl ?_
                rw [hQ.out]
                exact rcP_no (by decide) (by go_grown)
              | true =>
                rw [hv2] at HAl
                replace HAl := Lib.hid HAl
                have hv2' := Lib.hid hv2
                clear hv2
                go_upto_region 8 with fail
                (refine wp_region_inC (by kernel_rfl) (by kernel_rfl) ?_; (repeat go_big_quiet_step ((first | (go_at_call 41; with_reducible exact Calls.inC_same (HIn.out _)) | (go_at_call 43; with_reducible exact Calls.inC_same (HLn.out _)) | (go_at_call 42; with_reducible exact Calls.inC (HAl.out _))))); refine wpQuiet_nil ?_; rintro w7 ⟨⟨_, hb⟩, rfl⟩)
                replace hB := bel_step hB hb; replace BB := Lib.hid (blk_later BB.out hb); replace BR := Lib.hid (blk_later BR.out hb)
                clear hb z1 z2
                go_wp2
                go_roundw
                case rel => exact ⟨k + 1, by go_num, by omega, hB, BB, BR, Lib.hid (fun j hj => by
                  by_cases hjk : j < k
                  · exact HD.out j hjk
                  · obtain rfl : j = k := by omega
                    exact ⟨fun x hx => by cases hx.symm.trans hzI2.out; exact hv1'.out, fun l' hl' => by cases hl'.symm.trans hzE2.out; exact hv2'.out⟩)⟩
                case measure => simp [intOf]; omega
          · have hkni : k = ni := by omega
            obtain ⟨hA1, hA2, hA3⟩ := runOK_yes (n := n) hie2.out hi1002.out hlo2.out (fun j hj => HD.out j (by have := hnil.out; omega))
            have hOK : Hid (runOK ss.length is dd = true) := Lib.hid (by rw [hnl.out]; exact hA3)
            have HDT := Lib.hid (List.all_eq_true.1 hA2)
            have HIR := Lib.hid (List.all_eq_true.1 hA1)
            clear hA1 hA2 hA3 HD hkni hk hie2 hi1002 hlo2
            have H1 := H1c
            go_upto_region 11 with fail
            go_cut [11, 12] (fun s7 s8 wx => ∃ (G GP : Nat) (S' : Option Addr) (n' c' : Nat) (D' : Option Addr) (m' d' : Nat), s7 = .pointer (some ⟨G, 0, none⟩) ∧ s8 = .slice (some ⟨GP, 0, none⟩) n n ∧ Below w.heap.size w wx ∧ Hid (Blk wx w.heap.size 26 #[.slice S n c, .slice D m d, .int .i64 ch]) ∧ Hid (Blk wx (w.heap.size + 1) 26 #[.slice none 0 0, .slice none 0 0, .int .i64 0]) ∧ Hid (cpP w.heap.size wx G GP S' n' c' D' m' d' ch n ss ds))
            case first =>
              have hmk1 := hmk.out
              clear hmk
              have hmk := hmk1
              clear hmk1
              replace hB : Below w.heap.size w wr.drew := hB.drew
              replace BB : Hid (Blk wr.drew w.heap.size 26 #[.slice S n c, .slice D m d, .int .i64 ch]) := BB
              replace BR : Hid (Blk wr.drew (w.heap.size + 1) 26 #[.slice none 0 0, .slice none 0 0, .int .i64 0]) := BR
              refine wp_region_D 8 (fun W' : World => W'.cell? ⟨w.heap.size, 0, none⟩ = some (.slice S n c) ∧ W'.cell? ⟨w.heap.size, 1, none⟩ = some (.slice D m d) ∧ W'.cell? ⟨w.heap.size, 2, none⟩ = some (.int .i64 ch)) (by kernel_rfl) ?_
              generalize wr.drew = Wd at *
              have hS0 := (show (fun W' : World => W'.cell? ⟨w.heap.size, 0, none⟩ = some (.slice S n c) ∧ W'.cell? ⟨w.heap.size, 1, none⟩ = some (.slice D m d) ∧ W'.cell? ⟨w.heap.size, 2, none⟩ = some (.int .i64 ch)) Wd from ⟨BB.out.cell 0, BB.out.cell 1, BB.out.cell 2⟩)
              refine wpAnyD_take (i := 0) (v := ?_) rfl (by kernel_rfl) (fun _ _ _ h => h) (Or.inl ⟨by rfl, ?_⟩) (by assumption) ?_; rotate_left; (intro w' hSw; (try dsimp only at hSw); go_simp; with_reducible rfl); (try simp only [Act.put, List.setIfInBounds_toArray, List.set_cons_zero, List.set_cons_succ])
              refine wpAnyD_take (i := 2) (v := ?_) rfl (by kernel_rfl) (fun _ _ _ h => h) (Or.inl ⟨by rfl, ?_⟩) (by assumption) ?_; rotate_left; (intro w' hSw; (try dsimp only at hSw); go_simp; with_reducible rfl); (try simp only [Act.put, List.setIfInBounds_toArray, List.set_cons_zero, List.set_cons_succ])
              refine wpAnyD_take (i := 3) (v := ?_) rfl (by kernel_rfl) (fun _ _ _ h => h) (Or.inl ⟨by rfl, ?_⟩) (by assumption) ?_; rotate_left; (intro w' hSw; (try dsimp only at hSw); go_simp; with_reducible rfl); (try simp only [Act.put, List.setIfInBounds_toArray, List.set_cons_zero, List.set_cons_succ])
              refine wpAnyD_take (i := 4) (v := ?_) rfl (by kernel_rfl) (fun _ _ _ h => h) (Or.inl ⟨by rfl, ?_⟩) (by assumption) ?_; rotate_left; (intro w' hSw; (try dsimp only at hSw); go_simp; with_reducible rfl); (try simp only [Act.put, List.setIfInBounds_toArray, List.set_cons_zero, List.set_cons_succ])
              clear hS0
              refine wpAnyD_three (i := 1) (j := 5) (k := 6) rfl rfl rfl (by kernel_rfl) (fun K hK => ?_) (fun K hK => ?_) (fun K hK => ?_)
              · go_simp
                (with_reducible refine Calls.mono (H1.out _ hB) ?_)
                rintro ee Wo1 ⟨S', n', c', D', m', d', rfl, ho, hb⟩
                dsimp only
                have rC := Lib.hid ho.rowsB
                have OC := Lib.hid (ho.mono (show w.heap.size + 2 ≤ _ from BR.out.lt))
                have hC2 : Wo1.heap.size ≤ Wo1.heap.size := Nat.le_refl _
                replace hB := bel_step hB hb
                replace BB := Lib.hid (blk_later BB.out hb)
                replace BR := Lib.hid (blk_later BR.out hb)
                clear ho hb
                have hS := (show (fun W' : World => W'.cell? ⟨w.heap.size, 0, none⟩ = some (.slice S n c) ∧ W'.cell? ⟨w.heap.size, 1, none⟩ = some (.slice D m d) ∧ W'.cell? ⟨w.heap.size, 2, none⟩ = some (.int .i64 ch)) Wo1 from ⟨BB.out.cell 0, BB.out.cell 1, BB.out.cell 2⟩)
                refine hK _ _ (fun _ => hS) ?_; clear hK K; (try simp only [Act.put, List.setIfInBounds_toArray, List.set_cons_zero, List.set_cons_succ])
                refine wpAnyD_two (i := 5) (j := 6) rfl rfl (by kernel_rfl) (fun K hK => ?_) (fun K hK => ?_)
                · go_simp
                  have hb := al_ Wo1 (.cells cs0 2)
                  have BM : Hid (Blk (Wo1.alloc (.cells cs0 2)) Wo1.heap.size 2 cs0) := Lib.hid (Blk.new _ _ _)
                  have kGP := BR.out.lt
                  have kCGP := hC2
                  replace hB := bel_step hB hb
                  replace BB := Lib.hid (blk_later BB.out hb)
                  replace BR := Lib.hid (blk_later BR.out hb)
                  replace OC := Lib.hid (OC.out.later hb)
                  replace hC2 := Nat.le_trans hC2 hb.size
                  clear hb
                  have hS := (show (fun W' : World => W'.cell? ⟨w.heap.size, 0, none⟩ = some (.slice S n c) ∧ W'.cell? ⟨w.heap.size, 1, none⟩ = some (.slice D m d) ∧ W'.cell? ⟨w.heap.size, 2, none⟩ = some (.int .i64 ch)) (Wo1.alloc (.cells cs0 2)) from ⟨BB.out.cell 0, BB.out.cell 1, BB.out.cell 2⟩)
                  refine hK _ _ (fun _ => hS) ?_; clear hK K; (try simp only [Act.put, List.setIfInBounds_toArray, List.set_cons_zero, List.set_cons_succ])
                  generalize Wo1.alloc (.cells cs0 2) = Wo2 at *
                  generalize hgGP : Wo1.heap.size = GP at *
                  refine wpAnyD_one (i := 6) rfl (by kernel_rfl) (fun K hK => ?_)
                  have kGA := BM.out.lt
                  go_simp
                  have hb := al_ Wo2 (.cells #[.slice none 0 0, .slice none 0 0, .int .i64 0] 26)
                  have BA : Hid (Blk (Wo2.alloc (.cells #[.slice none 0 0, .slice none 0 0, .int .i64 0] 26)) Wo2.heap.size 26 #[.slice none 0 0, .slice none 0 0, .int .i64 0]) := Lib.hid (Blk.new _ _ _)
                  have kG := BR.out.lt
                  have kCG := hC2
                  replace hB := bel_step hB hb
                  replace BB := Lib.hid (blk_later BB.out hb)
                  replace BR := Lib.hid (blk_later BR.out hb)
                  replace BM := Lib.hid (blk_later BM.out hb)
                  replace OC := Lib.hid (OC.out.later hb)
                  replace hC2 := Nat.le_trans hC2 hb.size
                  clear hb
                  have hS := (show (fun W' : World => W'.cell? ⟨w.heap.size, 0, none⟩ = some (.slice S n c) ∧ W'.cell? ⟨w.heap.size, 1, none⟩ = some (.slice D m d) ∧ W'.cell? ⟨w.heap.size, 2, none⟩ = some (.int .i64 ch)) (Wo2.alloc (.cells #[.slice none 0 0, .slice none 0 0, .int .i64 0] 26)) from ⟨BB.out.cell 0, BB.out.cell 1, BB.out.cell 2⟩)
                  refine hK _ _ (fun _ => hS) ?_; clear hK K; (try simp only [Act.put, List.setIfInBounds_toArray, List.set_cons_zero, List.set_cons_succ])
                  generalize Wo2.alloc (.cells #[.slice none 0 0, .slice none 0 0, .int .i64 0] 26) = Wo3 at *
                  generalize hgG : Wo2.heap.size = G at *
                  refine wpAnyD_one (i := 7) rfl (by kernel_rfl) (fun K hK => ?_)
                  have r3 := r3_cells BA.out
                  have o0 := r3.1.1
                  have o1 := r3.1.2.1
                  have o2 := r3.1.2.2
                  have p0 := r3.2.1
                  have p1 := r3.2.2.1
                  have p2 := r3.2.2.2
                  clear r3
                  go_simp
                  have hlA := BA.out.lt
                  have rCG : ∀ q, (Value.slice S' n' c').ownBlock = some q ∨ (Value.slice D' m' d').ownBlock = some q → q ≠ G := fun q e => by have := rC.out q e; omega
                  replace hB := ((hB.setCell (p := ⟨G, 0, none⟩) (by show w.heap.size ≤ G; omega) (.slice S' n' c')).setCell (p := ⟨G, 1, none⟩) (by show w.heap.size ≤ G; omega) (.slice D' m' d')).setCell (p := ⟨G, 2, none⟩) (by show w.heap.size ≤ G; omega) (.int .i64 ch)
                  replace BB := Lib.hid (((BB.out.far (p := ⟨G, 0, none⟩) (by show w.heap.size ≠ G; omega) (.slice S' n' c')).far (p := ⟨G, 1, none⟩) (by show w.heap.size ≠ G; omega) (.slice D' m' d')).far (p := ⟨G, 2, none⟩) (by show w.heap.size ≠ G; omega) (.int .i64 ch))
                  replace BR := Lib.hid (((BR.out.far (p := ⟨G, 0, none⟩) (by show w.heap.size + 1 ≠ G; omega) (.slice S' n' c')).far (p := ⟨G, 1, none⟩) (by show w.heap.size + 1 ≠ G; omega) (.slice D' m' d')).far (p := ⟨G, 2, none⟩) (by show w.heap.size + 1 ≠ G; omega) (.int .i64 ch))
                  replace BM := Lib.hid (((BM.out.far (p := ⟨G, 0, none⟩) (by show GP ≠ G; omega) (.slice S' n' c')).far (p := ⟨G, 1, none⟩) (by show GP ≠ G; omega) (.slice D' m' d')).far (p := ⟨G, 2, none⟩) (by show GP ≠ G; omega) (.int .i64 ch))
                  replace BA : Hid (Blk (((Wo3.setCell ⟨G, 0, none⟩ (.slice S' n' c')).setCell ⟨G, 1, none⟩ (.slice D' m' d')).setCell ⟨G, 2, none⟩ (.int .i64 ch)) G 26 #[.slice S' n' c', .slice D' m' d', .int .i64 ch]) := Lib.hid (((BA.out.set_ 0 _).set_ 1 _).set_ 2 _)
                  replace OC := Lib.hid (((OC.out.off (grownBy_one _ ⟨G, 0, none⟩ (.slice S' n' c')) rCG).off (grownBy_one _ ⟨G, 1, none⟩ (.slice D' m' d')) rCG).off (grownBy_one _ ⟨G, 2, none⟩ (.int .i64 ch)) rCG)
                  replace hC2 : _ ≤ (((Wo3.setCell ⟨G, 0, none⟩ (.slice S' n' c')).setCell ⟨G, 1, none⟩ (.slice D' m' d')).setCell ⟨G, 2, none⟩ (.int .i64 ch)).heap.size := Nat.le_trans hC2 (by simp [World.setCell])
                  have hS := (show (fun W' : World => W'.cell? ⟨w.heap.size, 0, none⟩ = some (.slice S n c) ∧ W'.cell? ⟨w.heap.size, 1, none⟩ = some (.slice D m d) ∧ W'.cell? ⟨w.heap.size, 2, none⟩ = some (.int .i64 ch)) (((Wo3.setCell ⟨G, 0, none⟩ (.slice S' n' c')).setCell ⟨G, 1, none⟩ (.slice D' m' d')).setCell ⟨G, 2, none⟩ (.int .i64 ch)) from ⟨BB.out.cell 0, BB.out.cell 1, BB.out.cell 2⟩)
                  refine hK _ _ (fun _ => hS) ?_; clear hK K; (try simp only [Act.put, List.setIfInBounds_toArray, List.set_cons_zero, List.set_cons_succ])
                  clear o0 o1 o2 p0 p1 p2
                  generalize ((Wo3.setCell ⟨G, 0, none⟩ (.slice S' n' c')).setCell ⟨G, 1, none⟩ (.slice D' m' d')).setCell ⟨G, 2, none⟩ (.int .i64 ch) = Wo4 at *
                  refine wpAnyD_one (i := 8) rfl (by kernel_rfl) (fun K hK => ?_)
                  go_simp
                  refine hK _ _ (fun h => absurd rfl h) ?_; clear hK K
                  refine wpAnyD_done (by kernel_rfl) ?_ _
                  go_wp2_with fail
                  go_meet
                  case rel => exact ⟨G, GP, S', n', c', D', m', d', rfl, rfl, hB, BB, BR, Lib.hid ⟨⟨by omega, by omega, by omega⟩, BA.out, ⟨cs0, BM.out, hz.out⟩, OC.out, fun q e => by have := rC.out q e; omega⟩⟩
                · go_simp
                  have hb := al_ Wo1 (.cells #[.slice none 0 0, .slice none 0 0, .int .i64 0] 26)
                  have BA : Hid (Blk (Wo1.alloc (.cells #[.slice none 0 0, .slice none 0 0, .int .i64 0] 26)) Wo1.heap.size 26 #[.slice none 0 0, .slice none 0 0, .int .i64 0]) := Lib.hid (Blk.new _ _ _)
                  have kG := BR.out.lt
                  have kCG := hC2
                  replace hB := bel_step hB hb
                  replace BB := Lib.hid (blk_later BB.out hb)
                  replace BR := Lib.hid (blk_later BR.out hb)
                  replace OC := Lib.hid (OC.out.later hb)
                  replace hC2 := Nat.le_trans hC2 hb.size
                  clear hb
                  have hS := (show (fun W' : World => W'.cell? ⟨w.heap.size, 0, none⟩ = some (.slice S n c) ∧ W'.cell? ⟨w.heap.size, 1, none⟩ = some (.slice D m d) ∧ W'.cell? ⟨w.heap.size, 2, none⟩ = some (.int .i64 ch)) (Wo1.alloc (.cells #[.slice none 0 0, .slice none 0 0, .int .i64 0] 26)) from ⟨BB.out.cell 0, BB.out.cell 1, BB.out.cell 2⟩)
                  refine hK _ _ (fun _ => hS) ?_; clear hK K; (try simp only [Act.put, List.setIfInBounds_toArray, List.set_cons_zero, List.set_cons_succ])
                  generalize Wo1.alloc (.cells #[.slice none 0 0, .slice none 0 0, .int .i64 0] 26) = Wo5 at *
                  generalize hgG : Wo1.heap.size = G at *
                  refine wpAnyD_two (i := 5) (j := 7) rfl rfl (by kernel_rfl) (fun K hK => ?_) (fun K hK => ?_)
                  · have kGA := BA.out.lt
                    go_simp
                    have hb := al_ Wo5 (.cells cs0 2)
                    have BM : Hid (Blk (Wo5.alloc (.cells cs0 2)) Wo5.heap.size 2 cs0) := Lib.hid (Blk.new _ _ _)
                    have kGP := BR.out.lt
                    have kCGP := hC2
                    replace hB := bel_step hB hb
                    replace BB := Lib.hid (blk_later BB.out hb)
                    replace BR := Lib.hid (blk_later BR.out hb)
                    replace BA := Lib.hid (blk_later BA.out hb)
                    replace OC := Lib.hid (OC.out.later hb)
                    replace hC2 := Nat.le_trans hC2 hb.size
                    clear hb
                    have hS := (show (fun W' : World => W'.cell? ⟨w.heap.size, 0, none⟩ = some (.slice S n c) ∧ W'.cell? ⟨w.heap.size, 1, none⟩ = some (.slice D m d) ∧ W'.cell? ⟨w.heap.size, 2, none⟩ = some (.int .i64 ch)) (Wo5.alloc (.cells cs0 2)) from ⟨BB.out.cell 0, BB.out.cell 1, BB.out.cell 2⟩)
                    refine hK _ _ (fun _ => hS) ?_; clear hK K; (try simp only [Act.put, List.setIfInBounds_toArray, List.set_cons_zero, List.set_cons_succ])
                    generalize Wo5.alloc (.cells cs0 2) = Wo6 at *
                    generalize hgGP : Wo5.heap.size = GP at *
                    refine wpAnyD_one (i := 7) rfl (by kernel_rfl) (fun K hK => ?_)
                    have r3 := r3_cells BA.out
                    have o0 := r3.1.1
                    have o1 := r3.1.2.1
                    have o2 := r3.1.2.2
                    have p0 := r3.2.1
                    have p1 := r3.2.2.1
                    have p2 := r3.2.2.2
                    clear r3
                    go_simp
                    have hlA := BA.out.lt
                    have rCG : ∀ q, (Value.slice S' n' c').ownBlock = some q ∨ (Value.slice D' m' d').ownBlock = some q → q ≠ G := fun q e => by have := rC.out q e; omega
                    replace hB := ((hB.setCell (p := ⟨G, 0, none⟩) (by show w.heap.size ≤ G; omega) (.slice S' n' c')).setCell (p := ⟨G, 1, none⟩) (by show w.heap.size ≤ G; omega) (.slice D' m' d')).setCell (p := ⟨G, 2, none⟩) (by show w.heap.size ≤ G; omega) (.int .i64 ch)
                    replace BB := Lib.hid (((BB.out.far (p := ⟨G, 0, none⟩) (by show w.heap.size ≠ G; omega) (.slice S' n' c')).far (p := ⟨G, 1, none⟩) (by show w.heap.size ≠ G; omega) (.slice D' m' d')).far (p := ⟨G, 2, none⟩) (by show w.heap.size ≠ G; omega) (.int .i64 ch))
                    replace BR := Lib.hid (((BR.out.far (p := ⟨G, 0, none⟩) (by show w.heap.size + 1 ≠ G; omega) (.slice S' n' c')).far (p := ⟨G, 1, none⟩) (by show w.heap.size + 1 ≠ G; omega) (.slice D' m' d')).far (p := ⟨G, 2, none⟩) (by show w.heap.size + 1 ≠ G; omega) (.int .i64 ch))
                    replace BM := Lib.hid (((BM.out.far (p := ⟨G, 0, none⟩) (by show GP ≠ G; omega) (.slice S' n' c')).far (p := ⟨G, 1, none⟩) (by show GP ≠ G; omega) (.slice D' m' d')).far (p := ⟨G, 2, none⟩) (by show GP ≠ G; omega) (.int .i64 ch))
                    replace BA : Hid (Blk (((Wo6.setCell ⟨G, 0, none⟩ (.slice S' n' c')).setCell ⟨G, 1, none⟩ (.slice D' m' d')).setCell ⟨G, 2, none⟩ (.int .i64 ch)) G 26 #[.slice S' n' c', .slice D' m' d', .int .i64 ch]) := Lib.hid (((BA.out.set_ 0 _).set_ 1 _).set_ 2 _)
                    replace OC := Lib.hid (((OC.out.off (grownBy_one _ ⟨G, 0, none⟩ (.slice S' n' c')) rCG).off (grownBy_one _ ⟨G, 1, none⟩ (.slice D' m' d')) rCG).off (grownBy_one _ ⟨G, 2, none⟩ (.int .i64 ch)) rCG)
                    replace hC2 : _ ≤ (((Wo6.setCell ⟨G, 0, none⟩ (.slice S' n' c')).setCell ⟨G, 1, none⟩ (.slice D' m' d')).setCell ⟨G, 2, none⟩ (.int .i64 ch)).heap.size := Nat.le_trans hC2 (by simp [World.setCell])
                    have hS := (show (fun W' : World => W'.cell? ⟨w.heap.size, 0, none⟩ = some (.slice S n c) ∧ W'.cell? ⟨w.heap.size, 1, none⟩ = some (.slice D m d) ∧ W'.cell? ⟨w.heap.size, 2, none⟩ = some (.int .i64 ch)) (((Wo6.setCell ⟨G, 0, none⟩ (.slice S' n' c')).setCell ⟨G, 1, none⟩ (.slice D' m' d')).setCell ⟨G, 2, none⟩ (.int .i64 ch)) from ⟨BB.out.cell 0, BB.out.cell 1, BB.out.cell 2⟩)
                    refine hK _ _ (fun _ => hS) ?_; clear hK K; (try simp only [Act.put, List.setIfInBounds_toArray, List.set_cons_zero, List.set_cons_succ])
                    clear o0 o1 o2 p0 p1 p2
                    generalize ((Wo6.setCell ⟨G, 0, none⟩ (.slice S' n' c')).setCell ⟨G, 1, none⟩ (.slice D' m' d')).setCell ⟨G, 2, none⟩ (.int .i64 ch) = Wo7 at *
                    refine wpAnyD_one (i := 8) rfl (by kernel_rfl) (fun K hK => ?_)
                    go_simp
                    refine hK _ _ (fun h => absurd rfl h) ?_; clear hK K
                    refine wpAnyD_done (by kernel_rfl) ?_ _
                    go_wp2_with fail
                    go_meet
                    case rel => exact ⟨G, GP, S', n', c', D', m', d', rfl, rfl, hB, BB, BR, Lib.hid ⟨⟨by omega, by omega, by omega⟩, BA.out, ⟨cs0, BM.out, hz.out⟩, OC.out, fun q e => by have := rC.out q e; omega⟩⟩
                  · have r3 := r3_cells BA.out
                    have o0 := r3.1.1
                    have o1 := r3.1.2.1
                    have o2 := r3.1.2.2
                    have p0 := r3.2.1
                    have p1 := r3.2.2.1
                    have p2 := r3.2.2.2
                    clear r3
                    go_simp
                    have hlA := BA.out.lt
                    have rCG : ∀ q, (Value.slice S' n' c').ownBlock = some q ∨ (Value.slice D' m' d').ownBlock = some q → q ≠ G := fun q e => by have := rC.out q e; omega
                    replace hB := ((hB.setCell (p := ⟨G, 0, none⟩) (by show w.heap.size ≤ G; omega) (.slice S' n' c')).setCell (p := ⟨G, 1, none⟩) (by show w.heap.size ≤ G; omega) (.slice D' m' d')).setCell (p := ⟨G, 2, none⟩) (by show w.heap.size ≤ G; omega) (.int .i64 ch)
                    replace BB := Lib.hid (((BB.out.far (p := ⟨G, 0, none⟩) (by show w.heap.size ≠ G; omega) (.slice S' n' c')).far (p := ⟨G, 1, none⟩) (by show w.heap.size ≠ G; omega) (.slice D' m' d')).far (p := ⟨G, 2, none⟩) (by show w.heap.size ≠ G; omega) (.int .i64 ch))
                    replace BR := Lib.hid (((BR.out.far (p := ⟨G, 0, none⟩) (by show w.heap.size + 1 ≠ G; omega) (.slice S' n' c')).far (p := ⟨G, 1, none⟩) (by show w.heap.size + 1 ≠ G; omega) (.slice D' m' d')).far (p := ⟨G, 2, none⟩) (by show w.heap.size + 1 ≠ G; omega) (.int .i64 ch))
                    replace BA : Hid (Blk (((Wo5.setCell ⟨G, 0, none⟩ (.slice S' n' c')).setCell ⟨G, 1, none⟩ (.slice D' m' d')).setCell ⟨G, 2, none⟩ (.int .i64 ch)) G 26 #[.slice S' n' c', .slice D' m' d', .int .i64 ch]) := Lib.hid (((BA.out.set_ 0 _).set_ 1 _).set_ 2 _)
                    replace OC := Lib.hid (((OC.out.off (grownBy_one _ ⟨G, 0, none⟩ (.slice S' n' c')) rCG).off (grownBy_one _ ⟨G, 1, none⟩ (.slice D' m' d')) rCG).off (grownBy_one _ ⟨G, 2, none⟩ (.int .i64 ch)) rCG)
                    replace hC2 : _ ≤ (((Wo5.setCell ⟨G, 0, none⟩ (.slice S' n' c')).setCell ⟨G, 1, none⟩ (.slice D' m' d')).setCell ⟨G, 2, none⟩ (.int .i64 ch)).heap.size := Nat.le_trans hC2 (by simp [World.setCell])
                    have hS := (show (fun W' : World => W'.cell? ⟨w.heap.size, 0, none⟩ = some (.slice S n c) ∧ W'.cell? ⟨w.heap.size, 1, none⟩ = some (.slice D m d) ∧ W'.cell? ⟨w.heap.size, 2, none⟩ = some (.int .i64 ch)) (((Wo5.setCell ⟨G, 0, none⟩ (.slice S' n' c')).setCell ⟨G, 1, none⟩ (.slice D' m' d')).setCell ⟨G, 2, none⟩ (.int .i64 ch)) from ⟨BB.out.cell 0, BB.out.cell 1, BB.out.cell 2⟩)
                    refine hK _ _ (fun _ => hS) ?_; clear hK K; (try simp only [Act.put, List.setIfInBounds_toArray, List.set_cons_zero, List.set_cons_succ])
                    clear o0 o1 o2 p0 p1 p2
                    generalize ((Wo5.setCell ⟨G, 0, none⟩ (.slice S' n' c')).setCell ⟨G, 1, none⟩ (.slice D' m' d')).setCell ⟨G, 2, none⟩ (.int .i64 ch) = Wo8 at *
                    refine wpAnyD_one (i := 5) rfl (by kernel_rfl) (fun K hK => ?_)
                    have kGA := BA.out.lt
                    go_simp
                    have hb := al_ Wo8 (.cells cs0 2)
                    have BM : Hid (Blk (Wo8.alloc (.cells cs0 2)) Wo8.heap.size 2 cs0) := Lib.hid (Blk.new _ _ _)
                    have kGP := BR.out.lt
                    have kCGP := hC2
                    replace hB := bel_step hB hb
                    replace BB := Lib.hid (blk_later BB.out hb)
                    replace BR := Lib.hid (blk_later BR.out hb)
                    replace BA := Lib.hid (blk_later BA.out hb)
                    replace OC := Lib.hid (OC.out.later hb)
                    replace hC2 := Nat.le_trans hC2 hb.size
                    clear hb
                    have hS := (show (fun W' : World => W'.cell? ⟨w.heap.size, 0, none⟩ = some (.slice S n c) ∧ W'.cell? ⟨w.heap.size, 1, none⟩ = some (.slice D m d) ∧ W'.cell? ⟨w.heap.size, 2, none⟩ = some (.int .i64 ch)) (Wo8.alloc (.cells cs0 2)) from ⟨BB.out.cell 0, BB.out.cell 1, BB.out.cell 2⟩)
                    refine hK _ _ (fun _ => hS) ?_; clear hK K; (try simp only [Act.put, List.setIfInBounds_toArray, List.set_cons_zero, List.set_cons_succ])
                    generalize Wo8.alloc (.cells cs0 2) = Wo9 at *
                    generalize hgGP : Wo8.heap.size = GP at *
                    refine wpAnyD_one (i := 8) rfl (by kernel_rfl) (fun K hK => ?_)
                    go_simp
                    refine hK _ _ (fun h => absurd rfl h) ?_; clear hK K
                    refine wpAnyD_done (by kernel_rfl) ?_ _
                    go_wp2_with fail
                    go_meet
                    case rel => exact ⟨G, GP, S', n', c', D', m', d', rfl, rfl, hB, BB, BR, Lib.hid ⟨⟨by omega, by omega, by omega⟩, BA.out, ⟨cs0, BM.out, hz.out⟩, OC.out, fun q e => by have := rC.out q e; omega⟩⟩
              · go_simp
                have hb := al_ Wd (.cells cs0 2)
                have BM : Hid (Blk (Wd.alloc (.cells cs0 2)) Wd.heap.size 2 cs0) := Lib.hid (Blk.new _ _ _)
                have kGP := BR.out.lt
                replace hB := bel_step hB hb
                replace BB := Lib.hid (blk_later BB.out hb)
                replace BR := Lib.hid (blk_later BR.out hb)
                clear hb
                have hS := (show (fun W' : World => W'.cell? ⟨w.heap.size, 0, none⟩ = some (.slice S n c) ∧ W'.cell? ⟨w.heap.size, 1, none⟩ = some (.slice D m d) ∧ W'.cell? ⟨w.heap.size, 2, none⟩ = some (.int .i64 ch)) (Wd.alloc (.cells cs0 2)) from ⟨BB.out.cell 0, BB.out.cell 1, BB.out.cell 2⟩)
                refine hK _ _ (fun _ => hS) ?_; clear hK K; (try simp only [Act.put, List.setIfInBounds_toArray, List.set_cons_zero, List.set_cons_succ])
                generalize Wd.alloc (.cells cs0 2) = Wo10 at *
                generalize hgGP : Wd.heap.size = GP at *
                refine wpAnyD_two (i := 1) (j := 6) rfl rfl (by kernel_rfl) (fun K hK => ?_) (fun K hK => ?_)
                · have kM := BM.out.lt
                  go_simp
                  (with_reducible refine Calls.mono (H1.out _ hB) ?_)
                  rintro ee Wo11 ⟨S', n', c', D', m', d', rfl, ho, hb⟩
                  dsimp only
                  have rC := Lib.hid ho.rowsB
                  have OC := Lib.hid (ho.mono (show w.heap.size + 2 ≤ _ from BR.out.lt))
                  have hC2 : Wo11.heap.size ≤ Wo11.heap.size := Nat.le_refl _
                  replace hB := bel_step hB hb
                  replace BB := Lib.hid (blk_later BB.out hb)
                  replace BR := Lib.hid (blk_later BR.out hb)
                  replace BM := Lib.hid (blk_later BM.out hb)
                  clear ho hb
                  have hS := (show (fun W' : World => W'.cell? ⟨w.heap.size, 0, none⟩ = some (.slice S n c) ∧ W'.cell? ⟨w.heap.size, 1, none⟩ = some (.slice D m d) ∧ W'.cell? ⟨w.heap.size, 2, none⟩ = some (.int .i64 ch)) Wo11 from ⟨BB.out.cell 0, BB.out.cell 1, BB.out.cell 2⟩)
                  refine hK _ _ (fun _ => hS) ?_; clear hK K; (try simp only [Act.put, List.setIfInBounds_toArray, List.set_cons_zero, List.set_cons_succ])
                  refine wpAnyD_one (i := 6) rfl (by kernel_rfl) (fun K hK => ?_)
                  have kGA := BM.out.lt
                  go_simp
                  have hb := al_ Wo11 (.cells #[.slice none 0 0, .slice none 0 0, .int .i64 0] 26)
                  have BA : Hid (Blk (Wo11.alloc (.cells #[.slice none 0 0, .slice none 0 0, .int .i64 0] 26)) Wo11.heap.size 26 #[.slice none 0 0, .slice none 0 0, .int .i64 0]) := Lib.hid (Blk.new _ _ _)
                  have kG := BR.out.lt
                  have kCG := hC2
                  replace hB := bel_step hB hb
                  replace BB := Lib.hid (blk_later BB.out hb)
                  replace BR := Lib.hid (blk_later BR.out hb)
                  replace BM := Lib.hid (blk_later BM.out hb)
                  replace OC := Lib.hid (OC.out.later hb)
                  replace hC2 := Nat.le_trans hC2 hb.size
                  clear hb
                  have hS := (show (fun W' : World => W'.cell? ⟨w.heap.size, 0, none⟩ = some (.slice S n c) ∧ W'.cell? ⟨w.heap.size, 1, none⟩ = some (.slice D m d) ∧ W'.cell? ⟨w.heap.size, 2, none⟩ = some (.int .i64 ch)) (Wo11.alloc (.cells #[.slice none 0 0, .slice none 0 0, .int .i64 0] 26)) from ⟨BB.out.cell 0, BB.out.cell 1, BB.out.cell 2⟩)
                  refine hK _ _ (fun _ => hS) ?_; clear hK K; (try simp only [Act.put, List.setIfInBounds_toArray, List.set_cons_zero, List.set_cons_succ])
                  generalize Wo11.alloc (.cells #[.slice none 0 0, .slice none 0 0, .int .i64 0] 26) = Wo12 at *
                  generalize hgG : Wo11.heap.size = G at *
                  refine wpAnyD_one (i := 7) rfl (by kernel_rfl) (fun K hK => ?_)
                  have r3 := r3_cells BA.out
                  have o0 := r3.1.1
                  have o1 := r3.1.2.1
                  have o2 := r3.1.2.2
                  have p0 := r3.2.1
                  have p1 := r3.2.2.1
                  have p2 := r3.2.2.2
                  clear r3
                  go_simp
                  have hlA := BA.out.lt
                  have rCG : ∀ q, (Value.slice S' n' c').ownBlock = some q ∨ (Value.slice D' m' d').ownBlock = some q → q ≠ G := fun q e => by have := rC.out q e; omega
                  replace hB := ((hB.setCell (p := ⟨G, 0, none⟩) (by show w.heap.size ≤ G; omega) (.slice S' n' c')).setCell (p := ⟨G, 1, none⟩) (by show w.heap.size ≤ G; omega) (.slice D' m' d')).setCell (p := ⟨G, 2, none⟩) (by show w.heap.size ≤ G; omega) (.int .i64 ch)
                  replace BB := Lib.hid (((BB.out.far (p := ⟨G, 0, none⟩) (by show w.heap.size ≠ G; omega) (.slice S' n' c')).far (p := ⟨G, 1, none⟩) (by show w.heap.size ≠ G; omega) (.slice D' m' d')).far (p := ⟨G, 2, none⟩) (by show w.heap.size ≠ G; omega) (.int .i64 ch))
                  replace BR := Lib.hid (((BR.out.far (p := ⟨G, 0, none⟩) (by show w.heap.size + 1 ≠ G; omega) (.slice S' n' c')).far (p := ⟨G, 1, none⟩) (by show w.heap.size + 1 ≠ G; omega) (.slice D' m' d')).far (p := ⟨G, 2, none⟩) (by show w.heap.size + 1 ≠ G; omega) (.int .i64 ch))
                  replace BM := Lib.hid (((BM.out.far (p := ⟨G, 0, none⟩) (by show GP ≠ G; omega) (.slice S' n' c')).far (p := ⟨G, 1, none⟩) (by show GP ≠ G; omega) (.slice D' m' d')).far (p := ⟨G, 2, none⟩) (by show GP ≠ G; omega) (.int .i64 ch))
                  replace BA : Hid (Blk (((Wo12.setCell ⟨G, 0, none⟩ (.slice S' n' c')).setCell ⟨G, 1, none⟩ (.slice D' m' d')).setCell ⟨G, 2, none⟩ (.int .i64 ch)) G 26 #[.slice S' n' c', .slice D' m' d', .int .i64 ch]) := Lib.hid (((BA.out.set_ 0 _).set_ 1 _).set_ 2 _)
                  replace OC := Lib.hid (((OC.out.off (grownBy_one _ ⟨G, 0, none⟩ (.slice S' n' c')) rCG).off (grownBy_one _ ⟨G, 1, none⟩ (.slice D' m' d')) rCG).off (grownBy_one _ ⟨G, 2, none⟩ (.int .i64 ch)) rCG)
                  replace hC2 : _ ≤ (((Wo12.setCell ⟨G, 0, none⟩ (.slice S' n' c')).setCell ⟨G, 1, none⟩ (.slice D' m' d')).setCell ⟨G, 2, none⟩ (.int .i64 ch)).heap.size := Nat.le_trans hC2 (by simp [World.setCell])
                  have hS := (show (fun W' : World => W'.cell? ⟨w.heap.size, 0, none⟩ = some (.slice S n c) ∧ W'.cell? ⟨w.heap.size, 1, none⟩ = some (.slice D m d) ∧ W'.cell? ⟨w.heap.size, 2, none⟩ = some (.int .i64 ch)) (((Wo12.setCell ⟨G, 0, none⟩ (.slice S' n' c')).setCell ⟨G, 1, none⟩ (.slice D' m' d')).setCell ⟨G, 2, none⟩ (.int .i64 ch)) from ⟨BB.out.cell 0, BB.out.cell 1, BB.out.cell 2⟩)
                  refine hK _ _ (fun _ => hS) ?_; clear hK K; (try simp only [Act.put, List.setIfInBounds_toArray, List.set_cons_zero, List.set_cons_succ])
                  clear o0 o1 o2 p0 p1 p2
                  generalize ((Wo12.setCell ⟨G, 0, none⟩ (.slice S' n' c')).setCell ⟨G, 1, none⟩ (.slice D' m' d')).setCell ⟨G, 2, none⟩ (.int .i64 ch) = Wo13 at *
                  refine wpAnyD_one (i := 8) rfl (by kernel_rfl) (fun K hK => ?_)
                  go_simp
                  refine hK _ _ (fun h => absurd rfl h) ?_; clear hK K
                  refine wpAnyD_done (by kernel_rfl) ?_ _
                  go_wp2_with fail
                  go_meet
                  case rel => exact ⟨G, GP, S', n', c', D', m', d', rfl, rfl, hB, BB, BR, Lib.hid ⟨⟨by omega, by omega, by omega⟩, BA.out, ⟨cs0, BM.out, hz.out⟩, OC.out, fun q e => by have := rC.out q e; omega⟩⟩
                · have kGA := BM.out.lt
                  go_simp
                  have hb := al_ Wo10 (.cells #[.slice none 0 0, .slice none 0 0, .int .i64 0] 26)
                  have BA : Hid (Blk (Wo10.alloc (.cells #[.slice none 0 0, .slice none 0 0, .int .i64 0] 26)) Wo10.heap.size 26 #[.slice none 0 0, .slice none 0 0, .int .i64 0]) := Lib.hid (Blk.new _ _ _)
                  have kG := BR.out.lt
                  replace hB := bel_step hB hb
                  replace BB := Lib.hid (blk_later BB.out hb)
                  replace BR := Lib.hid (blk_later BR.out hb)
                  replace BM := Lib.hid (blk_later BM.out hb)
                  clear hb
                  have hS := (show (fun W' : World => W'.cell? ⟨w.heap.size, 0, none⟩ = some (.slice S n c) ∧ W'.cell? ⟨w.heap.size, 1, none⟩ = some (.slice D m d) ∧ W'.cell? ⟨w.heap.size, 2, none⟩ = some (.int .i64 ch)) (Wo10.alloc (.cells #[.slice none 0 0, .slice none 0 0, .int .i64 0] 26)) from ⟨BB.out.cell 0, BB.out.cell 1, BB.out.cell 2⟩)
                  refine hK _ _ (fun _ => hS) ?_; clear hK K; (try simp only [Act.put, List.setIfInBounds_toArray, List.set_cons_zero, List.set_cons_succ])
                  generalize Wo10.alloc (.cells #[.slice none 0 0, .slice none 0 0, .int .i64 0] 26) = Wo14 at *
                  generalize hgG : Wo10.heap.size = G at *
                  refine wpAnyD_one (i := 1) rfl (by kernel_rfl) (fun K hK => ?_)
                  have kM := BM.out.lt
                  have kA := BA.out.lt
                  go_simp
                  (with_reducible refine Calls.mono (H1.out _ hB) ?_)
                  rintro ee Wo15 ⟨S', n', c', D', m', d', rfl, ho, hb⟩
                  dsimp only
                  have rC := Lib.hid ho.rowsB
                  have OC := Lib.hid (ho.mono (show w.heap.size + 2 ≤ _ from BR.out.lt))
                  have hC2 : Wo15.heap.size ≤ Wo15.heap.size := Nat.le_refl _
                  replace hB := bel_step hB hb
                  replace BB := Lib.hid (blk_later BB.out hb)
                  replace BR := Lib.hid (blk_later BR.out hb)
                  replace BM := Lib.hid (blk_later BM.out hb)
                  replace BA := Lib.hid (blk_later BA.out hb)
                  clear ho hb
                  have hS := (show (fun W' : World => W'.cell? ⟨w.heap.size, 0, none⟩ = some (.slice S n c) ∧ W'.cell? ⟨w.heap.size, 1, none⟩ = some (.slice D m d) ∧ W'.cell? ⟨w.heap.size, 2, none⟩ = some (.int .i64 ch)) Wo15 from ⟨BB.out.cell 0, BB.out.cell 1, BB.out.cell 2⟩)
                  refine hK _ _ (fun _ => hS) ?_; clear hK K; (try simp only [Act.put, List.setIfInBounds_toArray, List.set_cons_zero, List.set_cons_succ])
                  refine wpAnyD_one (i := 7) rfl (by kernel_rfl) (fun K hK => ?_)
                  have r3 := r3_cells BA.out
                  have o0 := r3.1.1
                  have o1 := r3.1.2.1
                  have o2 := r3.1.2.2
                  have p0 := r3.2.1
                  have p1 := r3.2.2.1
                  have p2 := r3.2.2.2
                  clear r3
                  go_simp
                  have hlA := BA.out.lt
                  have rCG : ∀ q, (Value.slice S' n' c').ownBlock = some q ∨ (Value.slice D' m' d').ownBlock = some q → q ≠ G := fun q e => by have := rC.out q e; omega
                  replace hB := ((hB.setCell (p := ⟨G, 0, none⟩) (by show w.heap.size ≤ G; omega) (.slice S' n' c')).setCell (p := ⟨G, 1, none⟩) (by show w.heap.size ≤ G; omega) (.slice D' m' d')).setCell (p := ⟨G, 2, none⟩) (by show w.heap.size ≤ G; omega) (.int .i64 ch)
                  replace BB := Lib.hid (((BB.out.far (p := ⟨G, 0, none⟩) (by show w.heap.size ≠ G; omega) (.slice S' n' c')).far (p := ⟨G, 1, none⟩) (by show w.heap.size ≠ G; omega) (.slice D' m' d')).far (p := ⟨G, 2, none⟩) (by show w.heap.size ≠ G; omega) (.int .i64 ch))
                  replace BR := Lib.hid (((BR.out.far (p := ⟨G, 0, none⟩) (by show w.heap.size + 1 ≠ G; omega) (.slice S' n' c')).far (p := ⟨G, 1, none⟩) (by show w.heap.size + 1 ≠ G; omega) (.slice D' m' d')).far (p := ⟨G, 2, none⟩) (by show w.heap.size + 1 ≠ G; omega) (.int .i64 ch))
                  replace BM := Lib.hid (((BM.out.far (p := ⟨G, 0, none⟩) (by show GP ≠ G; omega) (.slice S' n' c')).far (p := ⟨G, 1, none⟩) (by show GP ≠ G; omega) (.slice D' m' d')).far (p := ⟨G, 2, none⟩) (by show GP ≠ G; omega) (.int .i64 ch))
                  replace BA : Hid (Blk (((Wo15.setCell ⟨G, 0, none⟩ (.slice S' n' c')).setCell ⟨G, 1, none⟩ (.slice D' m' d')).setCell ⟨G, 2, none⟩ (.int .i64 ch)) G 26 #[.slice S' n' c', .slice D' m' d', .int .i64 ch]) := Lib.hid (((BA.out.set_ 0 _).set_ 1 _).set_ 2 _)
                  replace OC := Lib.hid (((OC.out.off (grownBy_one _ ⟨G, 0, none⟩ (.slice S' n' c')) rCG).off (grownBy_one _ ⟨G, 1, none⟩ (.slice D' m' d')) rCG).off (grownBy_one _ ⟨G, 2, none⟩ (.int .i64 ch)) rCG)
                  replace hC2 : _ ≤ (((Wo15.setCell ⟨G, 0, none⟩ (.slice S' n' c')).setCell ⟨G, 1, none⟩ (.slice D' m' d')).setCell ⟨G, 2, none⟩ (.int .i64 ch)).heap.size := Nat.le_trans hC2 (by simp [World.setCell])
                  have hS := (show (fun W' : World => W'.cell? ⟨w.heap.size, 0, none⟩ = some (.slice S n c) ∧ W'.cell? ⟨w.heap.size, 1, none⟩ = some (.slice D m d) ∧ W'.cell? ⟨w.heap.size, 2, none⟩ = some (.int .i64 ch)) (((Wo15.setCell ⟨G, 0, none⟩ (.slice S' n' c')).setCell ⟨G, 1, none⟩ (.slice D' m' d')).setCell ⟨G, 2, none⟩ (.int .i64 ch)) from ⟨BB.out.cell 0, BB.out.cell 1, BB.out.cell 2⟩)
                  refine hK _ _ (fun _ => hS) ?_; clear hK K; (try simp only [Act.put, List.setIfInBounds_toArray, List.set_cons_zero, List.set_cons_succ])
                  clear o0 o1 o2 p0 p1 p2
                  generalize ((Wo15.setCell ⟨G, 0, none⟩ (.slice S' n' c')).setCell ⟨G, 1, none⟩ (.slice D' m' d')).setCell ⟨G, 2, none⟩ (.int .i64 ch) = Wo16 at *
                  refine wpAnyD_one (i := 8) rfl (by kernel_rfl) (fun K hK => ?_)
                  go_simp
                  refine hK _ _ (fun h => absurd rfl h) ?_; clear hK K
                  refine wpAnyD_done (by kernel_rfl) ?_ _
                  go_wp2_with fail
                  go_meet
                  case rel => exact ⟨G, GP, S', n', c', D', m', d', rfl, rfl, hB, BB, BR, Lib.hid ⟨⟨by omega, by omega, by omega⟩, BA.out, ⟨cs0, BM.out, hz.out⟩, OC.out, fun q e => by have := rC.out q e; omega⟩⟩
              · go_simp
                have hb := al_ Wd (.cells #[.slice none 0 0, .slice none 0 0, .int .i64 0] 26)
                have BA : Hid (Blk (Wd.alloc (.cells #[.slice none 0 0, .slice none 0 0, .int .i64 0] 26)) Wd.heap.size 26 #[.slice none 0 0, .slice none 0 0, .int .i64 0]) := Lib.hid (Blk.new _ _ _)
                have kG := BR.out.lt
                replace hB := bel_step hB hb
                replace BB := Lib.hid (blk_later BB.out hb)
                replace BR := Lib.hid (blk_later BR.out hb)
                clear hb
                have hS := (show (fun W' : World => W'.cell? ⟨w.heap.size, 0, none⟩ = some (.slice S n c) ∧ W'.cell? ⟨w.heap.size, 1, none⟩ = some (.slice D m d) ∧ W'.cell? ⟨w.heap.size, 2, none⟩ = some (.int .i64 ch)) (Wd.alloc (.cells #[.slice none 0 0, .slice none 0 0, .int .i64 0] 26)) from ⟨BB.out.cell 0, BB.out.cell 1, BB.out.cell 2⟩)
                refine hK _ _ (fun _ => hS) ?_; clear hK K; (try simp only [Act.put, List.setIfInBounds_toArray, List.set_cons_zero, List.set_cons_succ])
                generalize Wd.alloc (.cells #[.slice none 0 0, .slice none 0 0, .int .i64 0] 26) = Wo17 at *
                generalize hgG : Wd.heap.size = G at *
                refine wpAnyD_two (i := 1) (j := 5) rfl rfl (by kernel_rfl) (fun K hK => ?_) (fun K hK => ?_)
                · have kA := BA.out.lt
                  go_simp
                  (with_reducible refine Calls.mono (H1.out _ hB) ?_)
                  rintro ee Wo18 ⟨S', n', c', D', m', d', rfl, ho, hb⟩
                  dsimp only
                  have rC := Lib.hid ho.rowsB
                  have OC := Lib.hid (ho.mono (show w.heap.size + 2 ≤ _ from BR.out.lt))
                  have hC2 : Wo18.heap.size ≤ Wo18.heap.size := Nat.le_refl _
                  replace hB := bel_step hB hb
                  replace BB := Lib.hid (blk_later BB.out hb)
                  replace BR := Lib.hid (blk_later BR.out hb)
                  replace BA := Lib.hid (blk_later BA.out hb)
                  clear ho hb
                  have hS := (show (fun W' : World => W'.cell? ⟨w.heap.size, 0, none⟩ = some (.slice S n c) ∧ W'.cell? ⟨w.heap.size, 1, none⟩ = some (.slice D m d) ∧ W'.cell? ⟨w.heap.size, 2, none⟩ = some (.int .i64 ch)) Wo18 from ⟨BB.out.cell 0, BB.out.cell 1, BB.out.cell 2⟩)
                  refine hK _ _ (fun _ => hS) ?_; clear hK K; (try simp only [Act.put, List.setIfInBounds_toArray, List.set_cons_zero, List.set_cons_succ])
                  refine wpAnyD_two (i := 5) (j := 7) rfl rfl (by kernel_rfl) (fun K hK => ?_) (fun K hK => ?_)
                  · have kGA := BA.out.lt
                    go_simp
                    have hb := al_ Wo18 (.cells cs0 2)
                    have BM : Hid (Blk (Wo18.alloc (.cells cs0 2)) Wo18.heap.size 2 cs0) := Lib.hid (Blk.new _ _ _)
                    have kGP := BR.out.lt
                    have kCGP := hC2
                    replace hB := bel_step hB hb
                    replace BB := Lib.hid (blk_later BB.out hb)
                    replace BR := Lib.hid (blk_later BR.out hb)
                    replace BA := Lib.hid (blk_later BA.out hb)
                    replace OC := Lib.hid (OC.out.later hb)
                    replace hC2 := Nat.le_trans hC2 hb.size
                    clear hb
                    have hS := (show (fun W' : World => W'.cell? ⟨w.heap.size, 0, none⟩ = some (.slice S n c) ∧ W'.cell? ⟨w.heap.size, 1, none⟩ = some (.slice D m d) ∧ W'.cell? ⟨w.heap.size, 2, none⟩ = some (.int .i64 ch)) (Wo18.alloc (.cells cs0 2)) from ⟨BB.out.cell 0, BB.out.cell 1, BB.out.cell 2⟩)
                    refine hK _ _ (fun _ => hS) ?_; clear hK K; (try simp only [Act.put, List.setIfInBounds_toArray, List.set_cons_zero, List.set_cons_succ])
                    generalize Wo18.alloc (.cells cs0 2) = Wo19 at *
                    generalize hgGP : Wo18.heap.size = GP at *
                    refine wpAnyD_one (i := 7) rfl (by kernel_rfl) (fun K hK => ?_)
                    have r3 := r3_cells BA.out
                    have o0 := r3.1.1
                    have o1 := r3.1.2.1
                    have o2 := r3.1.2.2
                    have p0 := r3.2.1
                    have p1 := r3.2.2.1
                    have p2 := r3.2.2.2
                    clear r3
                    go_simp
                    have hlA := BA.out.lt
                    have rCG : ∀ q, (Value.slice S' n' c').ownBlock = some q ∨ (Value.slice D' m' d').ownBlock = some q → q ≠ G := fun q e => by have := rC.out q e; omega
                    replace hB := ((hB.setCell (p := ⟨G, 0, none⟩) (by show w.heap.size ≤ G; omega) (.slice S' n' c')).setCell (p := ⟨G, 1, none⟩) (by show w.heap.size ≤ G; omega) (.slice D' m' d')).setCell (p := ⟨G, 2, none⟩) (by show w.heap.size ≤ G; omega) (.int .i64 ch)
                    replace BB := Lib.hid (((BB.out.far (p := ⟨G, 0, none⟩) (by show w.heap.size ≠ G; omega) (.slice S' n' c')).far (p := ⟨G, 1, none⟩) (by show w.heap.size ≠ G; omega) (.slice D' m' d')).far (p := ⟨G, 2, none⟩) (by show w.heap.size ≠ G; omega) (.int .i64 ch))
                    replace BR := Lib.hid (((BR.out.far (p := ⟨G, 0, none⟩) (by show w.heap.size + 1 ≠ G; omega) (.slice S' n' c')).far (p := ⟨G, 1, none⟩) (by show w.heap.size + 1 ≠ G; omega) (.slice D' m' d')).far (p := ⟨G, 2, none⟩) (by show w.heap.size + 1 ≠ G; omega) (.int .i64 ch))
                    replace BM := Lib.hid (((BM.out.far (p := ⟨G, 0, none⟩) (by show GP ≠ G; omega) (.slice S' n' c')).far (p := ⟨G, 1, none⟩) (by show GP ≠ G; omega) (.slice D' m' d')).far (p := ⟨G, 2, none⟩) (by show GP ≠ G; omega) (.int .i64 ch))
                    replace BA : Hid (Blk (((Wo19.setCell ⟨G, 0, none⟩ (.slice S' n' c')).setCell ⟨G, 1, none⟩ (.slice D' m' d')).setCell ⟨G, 2, none⟩ (.int .i64 ch)) G 26 #[.slice S' n' c', .slice D' m' d', .int .i64 ch]) := Lib.hid (((BA.out.set_ 0 _).set_ 1 _).set_ 2 _)
                    replace OC := Lib.hid (((OC.out.off (grownBy_one _ ⟨G, 0, none⟩ (.slice S' n' c')) rCG).off (grownBy_one _ ⟨G, 1, none⟩ (.slice D' m' d')) rCG).off (grownBy_one _ ⟨G, 2, none⟩ (.int .i64 ch)) rCG)
                    replace hC2 : _ ≤ (((Wo19.setCell ⟨G, 0, none⟩ (.slice S' n' c')).setCell ⟨G, 1, none⟩ (.slice D' m' d')).setCell ⟨G, 2, none⟩ (.int .i64 ch)).heap.size := Nat.le_trans hC2 (by simp [World.setCell])
                    have hS := (show (fun W' : World => W'.cell? ⟨w.heap.size, 0, none⟩ = some (.slice S n c) ∧ W'.cell? ⟨w.heap.size, 1, none⟩ = some (.slice D m d) ∧ W'.cell? ⟨w.heap.size, 2, none⟩ = some (.int .i64 ch)) (((Wo19.setCell ⟨G, 0, none⟩ (.slice S' n' c')).setCell ⟨G, 1, none⟩ (.slice D' m' d')).setCell ⟨G, 2, none⟩ (.int .i64 ch)) from ⟨BB.out.cell 0, BB.out.cell 1, BB.out.cell 2⟩)
                    refine hK _ _ (fun _ => hS) ?_; clear hK K; (try simp only [Act.put, List.setIfInBounds_toArray, List.set_cons_zero, List.set_cons_succ])
                    clear o0 o1 o2 p0 p1 p2
                    generalize ((Wo19.setCell ⟨G, 0, none⟩ (.slice S' n' c')).setCell ⟨G, 1, none⟩ (.slice D' m' d')).setCell ⟨G, 2, none⟩ (.int .i64 ch) = Wo20 at *
                    refine wpAnyD_one (i := 8) rfl (by kernel_rfl) (fun K hK => ?_)
                    go_simp
                    refine hK _ _ (fun h => absurd rfl h) ?_; clear hK K
                    refine wpAnyD_done (by kernel_rfl) ?_ _
                    go_wp2_with fail
                    go_meet
                    case rel => exact ⟨G, GP, S', n', c', D', m', d', rfl, rfl, hB, BB, BR, Lib.hid ⟨⟨by omega, by omega, by omega⟩, BA.out, ⟨cs0, BM.out, hz.out⟩, OC.out, fun q e => by have := rC.out q e; omega⟩⟩
                  · have r3 := r3_cells BA.out
                    have o0 := r3.1.1
                    have o1 := r3.1.2.1
                    have o2 := r3.1.2.2
                    have p0 := r3.2.1
                    have p1 := r3.2.2.1
                    have p2 := r3.2.2.2
                    clear r3
                    go_simp
                    have hlA := BA.out.lt
                    have rCG : ∀ q, (Value.slice S' n' c').ownBlock = some q ∨ (Value.slice D' m' d').ownBlock = some q → q ≠ G := fun q e => by have := rC.out q e; omega
                    replace hB := ((hB.setCell (p := ⟨G, 0, none⟩) (by show w.heap.size ≤ G; omega) (.slice S' n' c')).setCell (p := ⟨G, 1, none⟩) (by show w.heap.size ≤ G; omega) (.slice D' m' d')).setCell (p := ⟨G, 2, none⟩) (by show w.heap.size ≤ G; omega) (.int .i64 ch)
                    replace BB := Lib.hid (((BB.out.far (p := ⟨G, 0, none⟩) (by show w.heap.size ≠ G; omega) (.slice S' n' c')).far (p := ⟨G, 1, none⟩) (by show w.heap.size ≠ G; omega) (.slice D' m' d')).far (p := ⟨G, 2, none⟩) (by show w.heap.size ≠ G; omega) (.int .i64 ch))
                    replace BR := Lib.hid (((BR.out.far (p := ⟨G, 0, none⟩) (by show w.heap.size + 1 ≠ G; omega) (.slice S' n' c')).far (p := ⟨G, 1, none⟩) (by show w.heap.size + 1 ≠ G; omega) (.slice D' m' d')).far (p := ⟨G, 2, none⟩) (by show w.heap.size + 1 ≠ G; omega) (.int .i64 ch))
                    replace BA : Hid (Blk (((Wo18.setCell ⟨G, 0, none⟩ (.slice S' n' c')).setCell ⟨G, 1, none⟩ (.slice D' m' d')).setCell ⟨G, 2, none⟩ (.int .i64 ch)) G 26 #[.slice S' n' c', .slice D' m' d', .int .i64 ch]) := Lib.hid (((BA.out.set_ 0 _).set_ 1 _).set_ 2 _)
                    replace OC := Lib.hid (((OC.out.off (grownBy_one _ ⟨G, 0, none⟩ (.slice S' n' c')) rCG).off (grownBy_one _ ⟨G, 1, none⟩ (.slice D' m' d')) rCG).off (grownBy_one _ ⟨G, 2, none⟩ (.int .i64 ch)) rCG)
                    replace hC2 : _ ≤ (((Wo18.setCell ⟨G, 0, none⟩ (.slice S' n' c')).setCell ⟨G, 1, none⟩ (.slice D' m' d')).setCell ⟨G, 2, none⟩ (.int .i64 ch)).heap.size := Nat.le_trans hC2 (by simp [World.setCell])
                    have hS := (show (fun W' : World => W'.cell? ⟨w.heap.size, 0, none⟩ = some (.slice S n c) ∧ W'.cell? ⟨w.heap.size, 1, none⟩ = some (.slice D m d) ∧ W'.cell? ⟨w.heap.size, 2, none⟩ = some (.int .i64 ch)) (((Wo18.setCell ⟨G, 0, none⟩ (.slice S' n' c')).setCell ⟨G, 1, none⟩ (.slice D' m' d')).setCell ⟨G, 2, none⟩ (.int .i64 ch)) from ⟨BB.out.cell 0, BB.out.cell 1, BB.out.cell 2⟩)
                    refine hK _ _ (fun _ => hS) ?_; clear hK K; (try simp only [Act.put, List.setIfInBounds_toArray, List.set_cons_zero, List.set_cons_succ])
                    clear o0 o1 o2 p0 p1 p2
                    generalize ((Wo18.setCell ⟨G, 0, none⟩ (.slice S' n' c')).setCell ⟨G, 1, none⟩ (.slice D' m' d')).setCell ⟨G, 2, none⟩ (.int .i64 ch) = Wo21 at *
                    refine wpAnyD_one (i := 5) rfl (by kernel_rfl) (fun K hK => ?_)
                    have kGA := BA.out.lt
                    go_simp
                    have hb := al_ Wo21 (.cells cs0 2)
                    have BM : Hid (Blk (Wo21.alloc (.cells cs0 2)) Wo21.heap.size 2 cs0) := Lib.hid (Blk.new _ _ _)
                    have kGP := BR.out.lt
                    have kCGP := hC2
                    replace hB := bel_step hB hb
                    replace BB := Lib.hid (blk_later BB.out hb)
                    replace BR := Lib.hid (blk_later BR.out hb)
                    replace BA := Lib.hid (blk_later BA.out hb)
                    replace OC := Lib.hid (OC.out.later hb)
                    replace hC2 := Nat.le_trans hC2 hb.size
                    clear hb
                    have hS := (show (fun W' : World => W'.cell? ⟨w.heap.size, 0, none⟩ = some (.slice S n c) ∧ W'.cell? ⟨w.heap.size, 1, none⟩ = some (.slice D m d) ∧ W'.cell? ⟨w.heap.size, 2, none⟩ = some (.int .i64 ch)) (Wo21.alloc (.cells cs0 2)) from ⟨BB.out.cell 0, BB.out.cell 1, BB.out.cell 2⟩)
                    refine hK _ _ (fun _ => hS) ?_; clear hK K; (try simp only [Act.put, List.setIfInBounds_toArray, List.set_cons_zero, List.set_cons_succ])
                    generalize Wo21.alloc (.cells cs0 2) = Wo22 at *
                    generalize hgGP : Wo21.heap.size = GP at *
                    refine wpAnyD_one (i := 8) rfl (by kernel_rfl) (fun K hK => ?_)
                    go_simp
                    refine hK _ _ (fun h => absurd rfl h) ?_; clear hK K
                    refine wpAnyD_done (by kernel_rfl) ?_ _
                    go_wp2_with fail
                    go_meet
                    case rel => exact ⟨G, GP, S', n', c', D', m', d', rfl, rfl, hB, BB, BR, Lib.hid ⟨⟨by omega, by omega, by omega⟩, BA.out, ⟨cs0, BM.out, hz.out⟩, OC.out, fun q e => by have := rC.out q e; omega⟩⟩
                · have kGA := BA.out.lt
                  go_simp
                  have hb := al_ Wo17 (.cells cs0 2)
                  have BM : Hid (Blk (Wo17.alloc (.cells cs0 2)) Wo17.heap.size 2 cs0) := Lib.hid (Blk.new _ _ _)
                  have kGP := BR.out.lt
                  replace hB := bel_step hB hb
                  replace BB := Lib.hid (blk_later BB.out hb)
                  replace BR := Lib.hid (blk_later BR.out hb)
                  replace BA := Lib.hid (blk_later BA.out hb)
                  clear hb
                  have hS := (show (fun W' : World => W'.cell? ⟨w.heap.size, 0, none⟩ = some (.slice S n c) ∧ W'.cell? ⟨w.heap.size, 1, none⟩ = some (.slice D m d) ∧ W'.cell? ⟨w.heap.size, 2, none⟩ = some (.int .i64 ch)) (Wo17.alloc (.cells cs0 2)) from ⟨BB.out.cell 0, BB.out.cell 1, BB.out.cell 2⟩)
                  refine hK _ _ (fun _ => hS) ?_; clear hK K; (try simp only [Act.put, List.setIfInBounds_toArray, List.set_cons_zero, List.set_cons_succ])
                  generalize Wo17.alloc (.cells cs0 2) = Wo23 at *
                  generalize hgGP : Wo17.heap.size = GP at *
                  refine wpAnyD_one (i := 1) rfl (by kernel_rfl) (fun K hK => ?_)
                  have kM := BM.out.lt
                  have kA := BA.out.lt
                  go_simp
                  (with_reducible refine Calls.mono (H1.out _ hB) ?_)
                  rintro ee Wo24 ⟨S', n', c', D', m', d', rfl, ho, hb⟩
                  dsimp only
                  have rC := Lib.hid ho.rowsB
                  have OC := Lib.hid (ho.mono (show w.heap.size + 2 ≤ _ from BR.out.lt))
                  have hC2 : Wo24.heap.size ≤ Wo24.heap.size := Nat.le_refl _
                  replace hB := bel_step hB hb
                  replace BB := Lib.hid (blk_later BB.out hb)
                  replace BR := Lib.hid (blk_later BR.out hb)
                  replace BM := Lib.hid (blk_later BM.out hb)
                  replace BA := Lib.hid (blk_later BA.out hb)
                  clear ho hb
                  have hS := (show (fun W' : World => W'.cell? ⟨w.heap.size, 0, none⟩ = some (.slice S n c) ∧ W'.cell? ⟨w.heap.size, 1, none⟩ = some (.slice D m d) ∧ W'.cell? ⟨w.heap.size, 2, none⟩ = some (.int .i64 ch)) Wo24 from ⟨BB.out.cell 0, BB.out.cell 1, BB.out.cell 2⟩)
                  refine hK _ _ (fun _ => hS) ?_; clear hK K; (try simp only [Act.put, List.setIfInBounds_toArray, List.set_cons_zero, List.set_cons_succ])
                  refine wpAnyD_one (i := 7) rfl (by kernel_rfl) (fun K hK => ?_)
                  have r3 := r3_cells BA.out
                  have o0 := r3.1.1
                  have o1 := r3.1.2.1
                  have o2 := r3.1.2.2
                  have p0 := r3.2.1
                  have p1 := r3.2.2.1
                  have p2 := r3.2.2.2
                  clear r3
                  go_simp
                  have hlA := BA.out.lt
                  have rCG : ∀ q, (Value.slice S' n' c').ownBlock = some q ∨ (Value.slice D' m' d').ownBlock = some q → q ≠ G := fun q e => by have := rC.out q e; omega
                  replace hB := ((hB.setCell (p := ⟨G, 0, none⟩) (by show w.heap.size ≤ G; omega) (.slice S' n' c')).setCell (p := ⟨G, 1, none⟩) (by show w.heap.size ≤ G; omega) (.slice D' m' d')).setCell (p := ⟨G, 2, none⟩) (by show w.heap.size ≤ G; omega) (.int .i64 ch)
                  replace BB := Lib.hid (((BB.out.far (p := ⟨G, 0, none⟩) (by show w.heap.size ≠ G; omega) (.slice S' n' c')).far (p := ⟨G, 1, none⟩) (by show w.heap.size ≠ G; omega) (.slice D' m' d')).far (p := ⟨G, 2, none⟩) (by show w.heap.size ≠ G; omega) (.int .i64 ch))
                  replace BR := Lib.hid (((BR.out.far (p := ⟨G, 0, none⟩) (by show w.heap.size + 1 ≠ G; omega) (.slice S' n' c')).far (p := ⟨G, 1, none⟩) (by show w.heap.size + 1 ≠ G; omega) (.slice D' m' d')).far (p := ⟨G, 2, none⟩) (by show w.heap.size + 1 ≠ G; omega) (.int .i64 ch))
                  replace BM := Lib.hid (((BM.out.far (p := ⟨G, 0, none⟩) (by show GP ≠ G; omega) (.slice S' n' c')).far (p := ⟨G, 1, none⟩) (by show GP ≠ G; omega) (.slice D' m' d')).far (p := ⟨G, 2, none⟩) (by show GP ≠ G; omega) (.int .i64 ch))
                  replace BA : Hid (Blk (((Wo24.setCell ⟨G, 0, none⟩ (.slice S' n' c')).setCell ⟨G, 1, none⟩ (.slice D' m' d')).setCell ⟨G, 2, none⟩ (.int .i64 ch)) G 26 #[.slice S' n' c', .slice D' m' d', .int .i64 ch]) := Lib.hid (((BA.out.set_ 0 _).set_ 1 _).set_ 2 _)
                  replace OC := Lib.hid (((OC.out.off (grownBy_one _ ⟨G, 0, none⟩ (.slice S' n' c')) rCG).off (grownBy_one _ ⟨G, 1, none⟩ (.slice D' m' d')) rCG).off (grownBy_one _ ⟨G, 2, none⟩ (.int .i64 ch)) rCG)
                  replace hC2 : _ ≤ (((Wo24.setCell ⟨G, 0, none⟩ (.slice S' n' c')).setCell ⟨G, 1, none⟩ (.slice D' m' d')).setCell ⟨G, 2, none⟩ (.int .i64 ch)).heap.size := Nat.le_trans hC2 (by simp [World.setCell])
                  have hS := (show (fun W' : World => W'.cell? ⟨w.heap.size, 0, none⟩ = some (.slice S n c) ∧ W'.cell? ⟨w.heap.size, 1, none⟩ = some (.slice D m d) ∧ W'.cell? ⟨w.heap.size, 2, none⟩ = some (.int .i64 ch)) (((Wo24.setCell ⟨G, 0, none⟩ (.slice S' n' c')).setCell ⟨G, 1, none⟩ (.slice D' m' d')).setCell ⟨G, 2, none⟩ (.int .i64 ch)) from ⟨BB.out.cell 0, BB.out.cell 1, BB.out.cell 2⟩)
                  refine hK _ _ (fun _ => hS) ?_; clear hK K; (try simp only [Act.put, List.setIfInBounds_toArray, List.set_cons_zero, List.set_cons_succ])
                  clear o0 o1 o2 p0 p1 p2
                  generalize ((Wo24.setCell ⟨G, 0, none⟩ (.slice S' n' c')).setCell ⟨G, 1, none⟩ (.slice D' m' d')).setCell ⟨G, 2, none⟩ (.int .i64 ch) = Wo25 at *
                  refine wpAnyD_one (i := 8) rfl (by kernel_rfl) (fun K hK => ?_)
                  go_simp
                  refine hK _ _ (fun h => absurd rfl h) ?_; clear hK K
                  refine wpAnyD_done (by kernel_rfl) ?_ _
                  go_wp2_with fail
                  go_meet
                  case rel => exact ⟨G, GP, S', n', c', D', m', d', rfl, rfl, hB, BB, BR, Lib.hid ⟨⟨by omega, by omega, by omega⟩, BA.out, ⟨cs0, BM.out, hz.out⟩, OC.out, fun q e => by have := rC.out q e; omega⟩⟩
            case rest =>
              obtain ⟨GO, GT, So, no, co, Do, mo, od, rfl, rfl, hB, BB, BR, HCp⟩ := hcut
              obtain ⟨⟨hsz1, hsz1b, hsz2⟩, B7, ⟨cs1, BT, hz1⟩, OC, rowO⟩ := HCp.out
              have HR : Hid (runI w wc GO GT So no co Do mo od ch cs1 ss ds (List.replicate ss.length 0)) := Lib.hid ⟨hB, BR.out, B7, ⟨BT, by rw [hnl.out]; exact hz1⟩, OC, rowO⟩
              have hV0 : Hid (runV ss ds ch (List.replicate ss.length 0) (is.zip dd) = runV ss ds ch (List.replicate ss.length 0) ((is.zip dd).drop 0)) := Lib.hid (by rw [List.drop_zero])
              have hg0 : Hid (∀ i, i < n → 0 ≤ gz (List.replicate ss.length 0) i ∧ gz (List.replicate ss.length 0) i ≤ 0 * 1001000000000000) := Lib.hid (fun i hi => by have h1 : gz (List.replicate ss.length (0 : Int)) i = 0 := gz_at (by rw [List.getElem?_replicate, if_pos (by have := hnl.out; omega)]); rw [h1]; omega)
              clear HCp OC BT B7 BB BR hB rowO hmk hz hz1 c0 c1 c2 x0 x1 x2 y0 y1 y2 hlB hlR H1 H1c
              go_wp2_with fail
              go_loopw [75, 13, 14, 15, 16, 17, 18, 19, 20, 21] (fun i _ _ _ _ _ _ _ _ _ wr => ∃ (k : Nat) (So : Option Addr) (no co : Nat) (Do : Option Addr) (mo od : Nat) (cha : Int) (cs : Array Value) (da got : List Int), i = .int .i64 k ∧ k ≤ ni ∧ Hid (runI w wr GO GT So no co Do mo od cha cs ss da got) ∧ Hid (runV ss ds ch (List.replicate ss.length 0) (is.zip dd) = runV ss da cha got ((is.zip dd).drop k)) ∧ Hid (okC ss da cha = true) ∧ Hid (got.length = ss.length) ∧ Hid (∀ i, i < n → 0 ≤ gz got i ∧ gz got i ≤ (k : Int) * 1001000000000000)) (fun i _ _ _ _ _ _ _ _ _ _ => ni - (intOf i).toNat)
              case atStart => exact ⟨0, So, no, co, Do, mo, od, ch, cs1, ds, _, rfl, Nat.zero_le _, HR, hV0, hok, Lib.hid (by simp), hg0⟩
              case round =>
                clear HR hV0 hg0
                obtain ⟨k, So, no, co, Do, mo, od, cha, cs, da, got, rfl, hk, HR, hV, hoka, hgl, hgb⟩ := hrel
                obtain ⟨hB, BR, B7, ⟨BT, hBT⟩, OC, rowO⟩ := HR.out
                replace BR := Lib.hid BR
                replace B7 := Lib.hid B7
                replace BT := Lib.hid BT
                replace hBT := Lib.hid hBT
                replace OC := Lib.hid OC
                replace rowO := Lib.hid rowO
                clear HR
                (try clear x0 x1 x2 y0 y1 y2); obtain ⟨⟨x0, x1, x2⟩, y0, y1, y2⟩ := r3_cells BR.out; have hlR := BR.out.lt
                (try clear o0 o1 o2 p0 p1 p2); obtain ⟨⟨o0, o1, o2⟩, p0, p1, p2⟩ := r3_cells B7.out; have hl7 := B7.out.lt
                by_cases hlt : k < ni
                · obtain ⟨adI, inc, rfl, hbI, hzI, hcI⟩ := RdI.atI (HI.out _ hB) hlt
                  obtain ⟨adE, Sl, ml, cl, l, rfl, hbE, hzE, hcE, hrE, hnE⟩ := (HE.out _ hB).at_ (show k < ne by have := hnine.out; omega)
                  have hir := inR_iff.1 (HIR.out inc (List.mem_of_getElem? hzI))
                  have hdt := HDT.out l (List.mem_of_getElem? hzE)
                  unfold dthB at hdt
                  rw [Bool.and_eq_true, decide_eq_true_eq] at hdt
                  have hlml := hrE.len
                  have hbu : buC ss da l = bR da l := buC_in ⟨by have := hdt.2; omega, by rw [hnl.out]; exact hdt.1⟩
                  have HU := fun W (hb : Below wr.heap.size wr W) => iBury_any So no co ss Do mo od da cha Sl ml cl l W (OC.out.later hb).rdS.2.1 (OC.out.later hb).rdS.2.2 ((hrE.below hb).more hb.size) OC.out.caps.1 OC.out.caps.2 hnE (by omega) hoka.out
                  rw [hbu] at HU
                  replace HU := Lib.hid HU
                  clear hbu
                  have SS : Hid (∀ W', Below wr.heap.size wr W' → (fun W' : World => W'.cell? ⟨GO, 0, none⟩ = some (.slice So no co) ∧ W'.cell? ⟨GO, 1, none⟩ = some (.slice Do mo od) ∧ W'.cell? ⟨GO, 2, none⟩ = some (.int .i64 cha) ∧ W'.cell? (adE.add k) = some (.slice Sl ml cl)) W') := Lib.hid (fun W' hb => ⟨keepC hb o0, keepC hb o1, keepC hb o2, keepC hb hcE⟩)
                  have hbE2 : (adE.add k).block < wr.heap.size := by rw [block_of_add]; exact hbE
                  have hzip := Lib.hid (zip_at hzI hzE)
                  replace hdt := Lib.hid hdt
                  have hl120 : ml ≤ 120 := by have := hdt.out.2; omega
                  have hkne : k < ne := by have := hnine.out; omega
                  clear hzI hzE hrE hlml
                  go_wp2_with fail
                  go_cut [15, 16] from 76 to 119 (fun s14 s15 wx => ∃ (G1 : Nat) (S1 : Option Addr) (n1 c1 : Nat) (D1 : Option Addr) (m1 d1 : Nat), s14 = .pointer (some ⟨G1, 0, none⟩) ∧ s15 = .int .i64 (bR da l) ∧ Hid (nxP wr wx G1 S1 n1 c1 D1 m1 d1 (kI (bR da l) cha) (kL (bR da l) ss) (kL (bR da l) (srt (da ++ l)))))
                  case first =>
                    have hbd : Below wr.heap.size wr wr.drew := (Below.refl _ _).drew
                    have hsd : wr.heap.size ≤ wr.drew.heap.size := Nat.le_refl _
                    have hS0 := SS.out _ hbd
                    refine wp_region_D 11 (fun W' : World => W'.cell? ⟨GO, 0, none⟩ = some (.slice So no co) ∧ W'.cell? ⟨GO, 1, none⟩ = some (.slice Do mo od) ∧ W'.cell? ⟨GO, 2, none⟩ = some (.int .i64 cha) ∧ W'.cell? (adE.add k) = some (.slice Sl ml cl)) (by kernel_rfl) ?_
                    generalize wr.drew = Wd at *
                    refine wpAnyD_take (i := 0) (v := ?_) rfl (by kernel_rfl) (fun _ _ _ h => h) (Or.inl ⟨by rfl, ?_⟩) (by assumption) ?_; rotate_left; (intro w' hSw; (try dsimp only at hSw); go_simp; with_reducible rfl); (try simp only [Act.put, List.setIfInBounds_toArray, List.set_cons_zero, List.set_cons_succ])
                    refine wpAnyD_take (i := 1) (v := ?_) rfl (by kernel_rfl) (fun _ _ _ h => h) (Or.inl ⟨by rfl, ?_⟩) (by assumption) ?_; rotate_left; (intro w' hSw; (try dsimp only at hSw); go_simp; with_reducible rfl); (try simp only [Act.put, List.setIfInBounds_toArray, List.set_cons_zero, List.set_cons_succ])
                    refine wpAnyD_take (i := 2) (v := ?_) rfl (by kernel_rfl) (fun _ _ _ h => h) (Or.inl ⟨by rfl, ?_⟩) (by assumption) ?_; rotate_left; (intro w' hSw; (try dsimp only at hSw); go_simp; with_reducible rfl); (try simp only [Act.put, List.setIfInBounds_toArray, List.set_cons_zero, List.set_cons_succ])
                    refine wpAnyD_take (i := 3) (v := ?_) rfl (by kernel_rfl) (fun _ _ _ h => h) (Or.inl ⟨by rfl, ?_⟩) (by assumption) ?_; rotate_left; (intro w' hSw; (try dsimp only at hSw); go_simp; with_reducible rfl); (try simp only [Act.put, List.setIfInBounds_toArray, List.set_cons_zero, List.set_cons_succ])
                    refine wpAnyD_take (i := 4) (v := ?_) rfl (by kernel_rfl) (fun _ _ _ h => h) (Or.inl ⟨by rfl, ?_⟩) (by assumption) ?_; rotate_left; (intro w' hSw; (try dsimp only at hSw); go_simp; with_reducible rfl); (try simp only [Act.put, List.setIfInBounds_toArray, List.set_cons_zero, List.set_cons_succ])
                    refine wpAnyD_two (i := 5) (j := 9) rfl rfl (by kernel_rfl) (fun K hK => ?_) (fun K hK => ?_)
                    · go_simp
                      (with_reducible refine Calls.mono (HU.out _ hbd) ?_)
                      rintro ee Wc ⟨S1, n1, c1, D1, m1, d1, rfl, ho, hb⟩
                      dsimp only
                      have hbn := bel_step hbd hb
                      have rC := ho.rowsB
                      have OCn := Lib.hid (ho.mono hsd)
                      clear ho hb
                      clear hS0
                      have hS := SS.out _ hbn
                      refine hK _ _ (fun _ => hS) ?_; clear hK K; (try simp only [Act.put, List.setIfInBounds_toArray, List.set_cons_zero, List.set_cons_succ])
                      refine wpAnyD_take (i := 6) (v := ?_) rfl (by kernel_rfl) (fun _ _ _ h => h) (Or.inl ⟨by rfl, ?_⟩) (by assumption) ?_; rotate_left; (intro w' hSw; (try dsimp only at hSw); go_simp; with_reducible rfl); (try simp only [Act.put, List.setIfInBounds_toArray, List.set_cons_zero, List.set_cons_succ])
                      refine wpAnyD_take (i := 7) (v := ?_) rfl (by kernel_rfl) (fun _ _ _ h => h) (Or.inl ⟨by rfl, ?_⟩) (by assumption) ?_; rotate_left; (intro w' hSw; (try dsimp only at hSw); go_simp; with_reducible rfl); (try simp only [Act.put, List.setIfInBounds_toArray, List.set_cons_zero, List.set_cons_succ])
                      refine wpAnyD_take (i := 8) (v := ?_) rfl (by kernel_rfl) (fun _ _ _ h => h) (Or.inl ⟨by rfl, ?_⟩) (by assumption) ?_; rotate_left; (intro w' hSw; (try dsimp only at hSw); go_simp; with_reducible rfl); (try simp only [Act.put, List.setIfInBounds_toArray, List.set_cons_zero, List.set_cons_succ])
                      clear hS
                      refine wpAnyD_one (i := 9) rfl (by kernel_rfl) (fun K hK => ?_)
                      go_simp
                      obtain ⟨GA, hGA⟩ : ∃ GA, Wc.heap.size = GA := ⟨_, rfl⟩
                      have BA : Hid (Blk (Wc.alloc (.cells #[.slice none 0 0, .slice none 0 0, .int .i64 0] 26)) GA 26 #[.slice none 0 0, .slice none 0 0, .int .i64 0]) := Lib.hid (hGA ▸ Blk.new _ _ _)
                      have hGr : wr.heap.size ≤ GA := hGA ▸ hbn.size
                      have rCn : ∀ q, (Value.slice S1 n1 c1).ownBlock = some q ∨ (Value.slice D1 m1 d1).ownBlock = some q → q ≠ GA := fun q e => by have := rC q e; omega
                      replace hbn := hbn.alloc hbn.size (.cells #[.slice none 0 0, .slice none 0 0, .int .i64 0] 26)
                      replace OCn := Lib.hid (OCn.out.alloc (.cells #[.slice none 0 0, .slice none 0 0, .int .i64 0] 26))
                      have hS := SS.out _ hbn
                      refine hK _ _ (fun _ => hS) ?_; clear hK K; (try simp only [Act.put, List.setIfInBounds_toArray, List.set_cons_zero, List.set_cons_succ])
                      clear hS
                      rw [hGA]
                      generalize Wc.alloc (.cells #[.slice none 0 0, .slice none 0 0, .int .i64 0] 26) = Wm at *
                      refine wpAnyD_one (i := 10) rfl (by kernel_rfl) (fun K hK => ?_)
                      have r3 := r3_cells BA.out
                      have n0 := r3.1.1
                      have n1x := r3.1.2.1
                      have n2x := r3.1.2.2
                      have f0 := r3.2.1
                      have f1 := r3.2.2.1
                      have f2 := r3.2.2.2
                      clear r3
                      have hlA := BA.out.lt
                      go_simp
                      replace hbn := ((hbn.setCell (p := ⟨GA, 0, none⟩) (by show wr.heap.size ≤ GA; omega) (.slice S1 n1 c1)).setCell (p := ⟨GA, 1, none⟩) (by show wr.heap.size ≤ GA; omega) (.slice D1 m1 d1)).setCell (p := ⟨GA, 2, none⟩) (by show wr.heap.size ≤ GA; omega) (.int .i64 (kI (bR da l) cha))
                      replace BA : Hid (Blk (((Wm.setCell ⟨GA, 0, none⟩ (.slice S1 n1 c1)).setCell ⟨GA, 1, none⟩ (.slice D1 m1 d1)).setCell ⟨GA, 2, none⟩ (.int .i64 (kI (bR da l) cha))) GA 26 #[(.slice S1 n1 c1), (.slice D1 m1 d1), (.int .i64 (kI (bR da l) cha))]) := Lib.hid (((BA.out.set_ 0 _).set_ 1 _).set_ 2 _)
                      replace OCn := Lib.hid (((OCn.out.off (grownBy_one _ ⟨GA, 0, none⟩ (.slice S1 n1 c1)) rCn).off (grownBy_one _ ⟨GA, 1, none⟩ (.slice D1 m1 d1)) rCn).off (grownBy_one _ ⟨GA, 2, none⟩ (.int .i64 (kI (bR da l) cha))) rCn)
                      have hS := SS.out _ hbn
                      refine hK _ _ (fun _ => hS) ?_; clear hK K; (try simp only [Act.put, List.setIfInBounds_toArray, List.set_cons_zero, List.set_cons_succ])
                      clear n0 n1x n2x f0 f1 f2 hS
                      generalize ((Wm.setCell ⟨GA, 0, none⟩ (.slice S1 n1 c1)).setCell ⟨GA, 1, none⟩ (.slice D1 m1 d1)).setCell ⟨GA, 2, none⟩ (.int .i64 (kI (bR da l) cha)) = Wn at *
                      refine wpAnyD_one (i := 11) rfl (by kernel_rfl) (fun K hK => ?_)
                      go_simp
                      refine hK _ _ (fun h => absurd rfl h) ?_; clear hK K
                      refine wpAnyD_done (by kernel_rfl) ?_ _
                      go_wp2_with fail
                      go_meet
                      case rel => exact ⟨GA, S1, n1, c1, D1, m1, d1, rfl, rfl, Lib.hid ⟨hbn, hGr, BA.out, OCn.out, rCn⟩⟩
                    · go_simp
                      obtain ⟨GA, hGA⟩ : ∃ GA, Wd.heap.size = GA := ⟨_, rfl⟩
                      have BA : Hid (Blk (Wd.alloc (.cells #[.slice none 0 0, .slice none 0 0, .int .i64 0] 26)) GA 26 #[.slice none 0 0, .slice none 0 0, .int .i64 0]) := Lib.hid (hGA ▸ Blk.new _ _ _)
                      have hGr : wr.heap.size ≤ GA := hGA ▸ hsd
                      have hbn := hbd.alloc hbd.size (.cells #[.slice none 0 0, .slice none 0 0, .int .i64 0] 26)
                      have hS := SS.out _ hbn
                      refine hK _ _ (fun _ => hS) ?_; clear hK K; (try simp only [Act.put, List.setIfInBounds_toArray, List.set_cons_zero, List.set_cons_succ])
                      clear hS
                      rw [hGA]
                      generalize Wd.alloc (.cells #[.slice none 0 0, .slice none 0 0, .int .i64 0] 26) = Wm at *
                      refine wpAnyD_one (i := 5) rfl (by kernel_rfl) (fun K hK => ?_)
                      go_simp
                      (with_reducible refine Calls.mono (HU.out _ hbn) ?_)
                      rintro ee Wc ⟨S1, n1, c1, D1, m1, d1, rfl, ho, hb⟩
                      dsimp only
                      have hlm := BA.out.lt
                      have rC := ho.rowsB
                      have rCn : ∀ q, (Value.slice S1 n1 c1).ownBlock = some q ∨ (Value.slice D1 m1 d1).ownBlock = some q → q ≠ GA := fun q e => by have := rC q e; omega
                      have OCn := Lib.hid (ho.mono hbn.size)
                      replace hbn := bel_step hbn hb
                      replace BA : Hid (Blk Wc GA 26 #[.slice none 0 0, .slice none 0 0, .int .i64 0]) := Lib.hid (blk_later BA.out hb)
                      clear ho hb
                      clear hS0
                      have hS := SS.out _ hbn
                      refine hK _ _ (fun _ => hS) ?_; clear hK K; (try simp only [Act.put, List.setIfInBounds_toArray, List.set_cons_zero, List.set_cons_succ])
                      refine wpAnyD_take (i := 6) (v := ?_) rfl (by kernel_rfl) (fun _ _ _ h => h) (Or.inl ⟨by rfl, ?_⟩) (by assumption) ?_; rotate_left; (intro w' hSw; (try dsimp only at hSw); go_simp; with_reducible rfl); (try simp only [Act.put, List.setIfInBounds_toArray, List.set_cons_zero, List.set_cons_succ])
                      refine wpAnyD_take (i := 7) (v := ?_) rfl (by kernel_rfl) (fun _ _ _ h => h) (Or.inl ⟨by rfl, ?_⟩) (by assumption) ?_; rotate_left; (intro w' hSw; (try dsimp only at hSw); go_simp; with_reducible rfl); (try simp only [Act.put, List.setIfInBounds_toArray, List.set_cons_zero, List.set_cons_succ])
                      refine wpAnyD_take (i := 8) (v := ?_) rfl (by kernel_rfl) (fun _ _ _ h => h) (Or.inl ⟨by rfl, ?_⟩) (by assumption) ?_; rotate_left; (intro w' hSw; (try dsimp only at hSw); go_simp; with_reducible rfl); (try simp only [Act.put, List.setIfInBounds_toArray, List.set_cons_zero, List.set_cons_succ])
                      clear hS
                      refine wpAnyD_one (i := 10) rfl (by kernel_rfl) (fun K hK => ?_)
                      have r3 := r3_cells BA.out
                      have n0 := r3.1.1
                      have n1x := r3.1.2.1
                      have n2x := r3.1.2.2
                      have f0 := r3.2.1
                      have f1 := r3.2.2.1
                      have f2 := r3.2.2.2
                      clear r3
                      have hlA := BA.out.lt
                      go_simp
                      replace hbn := ((hbn.setCell (p := ⟨GA, 0, none⟩) (by show wr.heap.size ≤ GA; omega) (.slice S1 n1 c1)).setCell (p := ⟨GA, 1, none⟩) (by show wr.heap.size ≤ GA; omega) (.slice D1 m1 d1)).setCell (p := ⟨GA, 2, none⟩) (by show wr.heap.size ≤ GA; omega) (.int .i64 (kI (bR da l) cha))
                      replace BA : Hid (Blk (((Wc.setCell ⟨GA, 0, none⟩ (.slice S1 n1 c1)).setCell ⟨GA, 1, none⟩ (.slice D1 m1 d1)).setCell ⟨GA, 2, none⟩ (.int .i64 (kI (bR da l) cha))) GA 26 #[(.slice S1 n1 c1), (.slice D1 m1 d1), (.int .i64 (kI (bR da l) cha))]) := Lib.hid (((BA.out.set_ 0 _).set_ 1 _).set_ 2 _)
                      replace OCn := Lib.hid (((OCn.out.off (grownBy_one _ ⟨GA, 0, none⟩ (.slice S1 n1 c1)) rCn).off (grownBy_one _ ⟨GA, 1, none⟩ (.slice D1 m1 d1)) rCn).off (grownBy_one _ ⟨GA, 2, none⟩ (.int .i64 (kI (bR da l) cha))) rCn)
                      have hS := SS.out _ hbn
                      refine hK _ _ (fun _ => hS) ?_; clear hK K; (try simp only [Act.put, List.setIfInBounds_toArray, List.set_cons_zero, List.set_cons_succ])
                      clear n0 n1x n2x f0 f1 f2 hS
                      generalize ((Wc.setCell ⟨GA, 0, none⟩ (.slice S1 n1 c1)).setCell ⟨GA, 1, none⟩ (.slice D1 m1 d1)).setCell ⟨GA, 2, none⟩ (.int .i64 (kI (bR da l) cha)) = Wn at *
                      refine wpAnyD_one (i := 11) rfl (by kernel_rfl) (fun K hK => ?_)
                      go_simp
                      refine hK _ _ (fun h => absurd rfl h) ?_; clear hK K
                      refine wpAnyD_done (by kernel_rfl) ?_ _
                      go_wp2_with fail
                      go_meet
                      case rel => exact ⟨GA, S1, n1, c1, D1, m1, d1, rfl, rfl, Lib.hid ⟨hbn, hGr, BA.out, OCn.out, rCn⟩⟩
                  case rest =>
                    obtain ⟨G1, S1, n1, c1, D1, m1, d1, rfl, rfl, HN⟩ := hcut
                    obtain ⟨hb, hG1, B1, OC1, row1⟩ := HN.out
                    clear HN HU SS hcE o0 o1 o2 p0 p1 p2 x0 x1 x2 y0 y1 y2 hbE2
                    have hcI2 := keepC hb hcI
                    have hsw := hb.size
                    replace hB := bel_step hB hb
                    replace BR := Lib.hid (blk_later BR.out hb)
                    replace B7 := Lib.hid (blk_later B7.out hb)
                    replace BT := Lib.hid (blk_later BT.out hb)
                    (try clear x0 x1 x2 y0 y1 y2); obtain ⟨⟨x0, x1, x2⟩, y0, y1, y2⟩ := r3_cells BR.out; have hlR := BR.out.lt
                    (try clear o0 o1 o2 p0 p1 p2); obtain ⟨⟨o0, o1, o2⟩, p0, p1, p2⟩ := r3_cells B7.out; have hl7 := B7.out.lt
                    rcases bR_cases da l with hbr | hbr
                    · rw [hbr, kI_0] at B1
                      rw [hbr, kL_0, kL_0] at OC1
                      have hokb : okC ss (srt (da ++ l)) cha = true := by
                        rw [okC_bury hoka.out (by rw [hnl.out]; exact hdt.out.1)]
                        unfold bR at hbr
                        split at hbr
                        · next e => exact e
                        · cases hbr
                      have hbr2 := Lib.hid hbr
                      replace B1 := Lib.hid B1
                      replace OC1 := Lib.hid OC1
                      replace row1 := Lib.hid row1
                      obtain ⟨db, hdb⟩ : ∃ db, srt (da ++ l) = db := ⟨_, rfl⟩
                      rw [hdb] at OC1 hokb
                      replace hdb := Lib.hid hdb
                      have HU := Lib.hid (fun W (hb : Below wc.heap.size wc W) => iPay_any S1 n1 c1 ss D1 m1 d1 db cha inc W (OC1.out.later hb).rdS.2.1 (OC1.out.later hb).rdS.2.2 OC1.out.caps.1 OC1.out.caps.2 hokb hir)
                      obtain ⟨⟨n0, n1x, n2x⟩, f0, f1, f2⟩ := r3_cells B1.out
                      have hl1 := B1.out.lt
                      replace hokb := Lib.hid hokb
                      clear hcI hb
                      have hRC := runC_v hok.out hOK.out
                      by_cases hle : paC ss db (cha + inc) ≤ 1000000000000
                      · have HU2 := HU.out
                        unfold ipyP at HU2
                        rw [decide_eq_true hle] at HU2
                        replace HU := Lib.hid HU2
                        clear HU2
                        go_wp2_with (go_at_call 46; (with_reducible refine Calls.mono (HU.out _ (Below.refl _ _)) ?_); rintro ee w9 ⟨S2, n2, c2, D2, m2, d2, P, p, pc, rfl, ho, hop, hb⟩; have OC2 := Lib.hid ho; have OP2 := Lib.hid hop; have hOc := B7.out.lt; have hTc := BT.out.lt; have hsw2 := hb.size; replace hB := bel_step hB hb; replace BR := Lib.hid (blk_later BR.out hb); replace B7 := Lib.hid (blk_later B7.out hb); replace BT := Lib.hid (blk_later BT.out hb); clear ho hop hb; (try clear x0 x1 x2 y0 y1 y2); obtain ⟨⟨x0, x1, x2⟩, y0, y1, y2⟩ := r3_cells BR.out; have hlR := BR.out.lt; (try clear o0 o1 o2 p0 p1 p2); obtain ⟨⟨o0, o1, o2⟩, p0, p1, p2⟩ := r3_cells B7.out; have hl7 := B7.out.lt)
                        clear HU n0 n1x n2x f0 f1 f2 hcI2 x0 x1 x2 y0 y1 y2 o0 o1 o2 p0 p1 p2
                        have OC2b := OC2.out
                        have OP2b := OP2.out
                        clear OC2 OP2
                        have OC2 := OC2b
                        have OP2 := OP2b
                        clear OC2b OP2b
                        have hkcr := okC_iff.1 hokb.out
                        have hln := hnl.out
                        have ht : 0 ≤ cha + inc ∧ cha + inc ≤ 1001000000000 := by have := hkcr.2.2.2.1; omega
                        have hpb : Hid (∀ i, i < n → 0 ≤ gz (paL ss db (cha + inc)) i ∧ gz (paL ss db (cha + inc)) i ≤ 1001000000000000) := Lib.hid (fun i hi => by rw [gz_paL (by omega)]; exact paV_bd hkcr.2.1 ht (by omega))
                        have hle2 : paC ss (srt (da ++ l)) (cha + inc) ≤ 1000000000000 := by rw [hdb.out]; exact hle
                        have hV2 : runV ss ds ch (List.replicate ss.length 0) (is.zip dd) = runV ss db (paC ss db (cha + inc)) (addL ss.length got (paL ss db (cha + inc))) ((is.zip dd).drop (k + 1)) := by rw [hV.out, hzip.out, runV_step hbr2.out hle2, hdb.out]
                        have hokc := okC_next hoka.out (by rw [hln]; exact hdt.out.1) hir.1 hbr2.out hle2
                        rw [hdb.out] at hokc
                        have hpln := paL_len ss db (cha + inc)
                        obtain ⟨pl, hpl⟩ : ∃ pl, paL ss db (cha + inc) = pl := ⟨_, rfl⟩
                        obtain ⟨cv, hcv⟩ : ∃ cv, paC ss db (cha + inc) = cv := ⟨_, rfl⟩
                        rw [hcv] at hokc hV2 ⊢
                        rw [hpl] at OP2 hpb hV2 hpln
                        have hpn : n = p := by have := OP2.rd.1; omega
                        subst hpn
                        replace hV2 := Lib.hid hV2
                        replace hokc := Lib.hid hokc
                        replace hpln := Lib.hid hpln
                        replace OP2 := Lib.hid OP2
                        replace OC2 := Lib.hid OC2
                        have rP := Lib.hid (own_rowI OP2.out)
                        have rC := Lib.hid OC2.out.rowsB
                        clear hle2 hkcr ht hln hpl hcv hV hoka hokb hRC OC rowO
                        clear hbr2 hdb hdt hzip B1 OC1 row1 hbI hir hle
                        have rCO : Hid (∀ q, (Value.slice S2 n2 c2).ownBlock = some q ∨ (Value.slice D2 m2 d2).ownBlock = some q → q ≠ GO ∧ q ≠ GT) := Lib.hid (fun q e => by have := rC.out q e; omega)
                        have rPO : Hid (∀ q, (Value.slice P n pc).ownBlock = some q → q ≠ GO ∧ q ≠ GT) := Lib.hid (fun q e => by have := rP.out q e; omega)
                        obtain ⟨W1, hW1⟩ : ∃ W1, ((w9.setCell ⟨GO, 0, none⟩ (.slice S2 n2 c2)).setCell ⟨GO, 1, none⟩ (.slice D2 m2 d2)).setCell ⟨GO, 2, none⟩ (.int .i64 cv) = W1 := ⟨_, rfl⟩
                        rw [hW1]
                        replace hB : Below w.heap.size w W1 := hW1 ▸ ((hB.setCell (p := ⟨GO, 0, none⟩) (by show w.heap.size ≤ GO; omega) _).setCell (p := ⟨GO, 1, none⟩) (by show w.heap.size ≤ GO; omega) _).setCell (p := ⟨GO, 2, none⟩) (by show w.heap.size ≤ GO; omega) _
                        replace BR : Hid (Blk W1 (w.heap.size + 1) 26 #[.slice none 0 0, .slice none 0 0, .int .i64 0]) := hW1 ▸ Lib.hid (((BR.out.far (p := ⟨GO, 0, none⟩) (by show w.heap.size + 1 ≠ GO; omega) _).far (p := ⟨GO, 1, none⟩) (by show w.heap.size + 1 ≠ GO; omega) _).far (p := ⟨GO, 2, none⟩) (by show w.heap.size + 1 ≠ GO; omega) _)
                        replace B7 : Hid (Blk W1 GO 26 #[.slice S2 n2 c2, .slice D2 m2 d2, .int .i64 cv]) := hW1 ▸ Lib.hid (((B7.out.set_ 0 _).set_ 1 _).set_ 2 _)
                        replace BT : Hid (Blk W1 GT 2 cs) := hW1 ▸ Lib.hid (((BT.out.far (p := ⟨GO, 0, none⟩) (by show GT ≠ GO; omega) _).far (p := ⟨GO, 1, none⟩) (by show GT ≠ GO; omega) _).far (p := ⟨GO, 2, none⟩) (by show GT ≠ GO; omega) _)
                        replace OC2 : Hid (OwC W1 (w.heap.size + 2) (.slice S2 n2 c2) (.slice D2 m2 d2) ss db) := hW1 ▸ Lib.hid ((((OC2.out.mono (by omega)).off (grownBy_one _ ⟨GO, 0, none⟩ _) (fun q e => (rCO.out q e).1)).off (grownBy_one _ ⟨GO, 1, none⟩ _) (fun q e => (rCO.out q e).1)).off (grownBy_one _ ⟨GO, 2, none⟩ _) (fun q e => (rCO.out q e).1))
                        replace OP2 : Hid (OwI W1 (w.heap.size + 2) (.slice P n pc) pl) := hW1 ▸ Lib.hid ((((OP2.out.mono (by omega)).off (grownBy_one _ ⟨GO, 0, none⟩ _) (fun q e => (rPO.out q e).1)).off (grownBy_one _ ⟨GO, 1, none⟩ _) (fun q e => (rPO.out q e).1)).off (grownBy_one _ ⟨GO, 2, none⟩ _) (fun q e => (rPO.out q e).1))
                        have hmix : Hid (holdsL cs (mix (fun i => gz got i + gz pl i) (gz got) n 0)) := Lib.hid (by
                          have h1 := range_gz got
                          rw [hgl.out, hnl.out] at h1
                          rw [mix_0, h1]
                          exact hBT.out)
                        clear hW1 hBT rC rP
                        obtain ⟨W2, hW2⟩ : ∃ W2, W1.alloc (.cells #[.slice S2 n2 c2, .slice D2 m2 d2, .int .i64 cv] 26) = W2 := ⟨_, rfl⟩
                        have hb2 : Below W1.heap.size W1 W2 := hW2 ▸ al_ W1 _
                        rw [hW2]
                        replace hB := bel_step hB hb2
                        replace BR := Lib.hid (blk_later BR.out hb2)
                        replace B7 := Lib.hid (blk_later B7.out hb2)
                        replace BT := Lib.hid (blk_later BT.out hb2)
                        replace OC2 := Lib.hid (OC2.out.later hb2)
                        replace OP2 := Lib.hid (OP2.out.later hb2)
                        clear hW2 hb2
                        go_loopw [106, 20, 21] (fun i _ _ wr => ∃ (j : Nat) (cs : Array Value), i = .int .i64 j ∧ j ≤ n ∧ Below w.heap.size w wr ∧ Hid (Blk wr (w.heap.size + 1) 26 #[.slice none 0 0, .slice none 0 0, .int .i64 0]) ∧ Hid (Blk wr GO 26 #[.slice S2 n2 c2, .slice D2 m2 d2, .int .i64 cv]) ∧ Hid (Blk wr GT 2 cs) ∧ Hid (holdsL cs (mix (fun i => gz got i + gz pl i) (gz got) n j)) ∧ Hid (OwC wr (w.heap.size + 2) (.slice S2 n2 c2) (.slice D2 m2 d2) ss db) ∧ Hid (OwI wr (w.heap.size + 2) (.slice P n pc) pl)) (fun i _ _ _ => n - (intOf i).toNat)
                        case atStart => exact ⟨0, cs, rfl, Nat.zero_le _, hB, BR, B7, BT, hmix, OC2, OP2⟩
                        case round =>
                          clear hB BR B7 BT hmix OC2 OP2
                          obtain ⟨j, cs, rfl, hj, hB, BR, B7, BT, HL, OC2, OP2⟩ := hrel
                          have hlR := BR.out.lt
                          have hl7 := B7.out.lt
                          have hlT := BT.out.lt
                          by_cases hlj : j < n
                          · obtain ⟨adP, rfl, hbP, k1⟩ := RdI.atZ OP2.out.rd.2 hlj
                            have k2 := (BT.out.cell j).trans (HL.out.get (mix_get (fun i => gz got i + gz pl i) (gz got) hlj))
                            rw [if_neg (Nat.lt_irrefl j)] at k2
                            have g3 := BT.out.frozen j
                            have hg1 := hgb.out j hlj
                            have hg2 := hpb.out j hlj
                            have q5 := IntWalk.i64_in (gz got j + gz pl j) (by omega)
                            have HL2 : Hid (holdsL (cs.setIfInBounds j (.int .i64 (gz got j + gz pl j))) (mix (fun i => gz got i + gz pl i) (gz got) n (j + 1))) := Lib.hid (by rw [← mix_set _ _ hlj]; exact HL.out.set j _)
                            clear hg1 hg2
                            generalize gz got j = xg at *
                            generalize gz pl j = xp at *
                            go_wp2_with fail
                            go_roundw
                            case rel => exact ⟨j + 1, _, by go_num, by omega, hB.setCell (p := ⟨GT, j, none⟩) (by show w.heap.size ≤ GT; omega) _, BR.out.far (by show w.heap.size + 1 ≠ GT; omega) _, B7.out.far (by show GO ≠ GT; omega) _, BT.out.set_ j _, HL2, OC2.out.off (grownBy_one _ ⟨GT, j, none⟩ _) (fun q e => (rCO.out q e).2), OP2.out.off (grownBy_one _ ⟨GT, j, none⟩ _) (fun q e => (rPO.out q e).2)⟩
                            case measure => simp [intOf]; omega
                          · obtain rfl : j = n := by omega
                            have HL3 : Hid (holdsL cs (addL ss.length got pl)) := Lib.hid (by rw [hnl.out]; have h1 := HL.out; rw [mix_n] at h1; exact h1)
                            have HG3 : Hid (∀ i, i < j → 0 ≤ gz (addL ss.length got pl) i ∧ gz (addL ss.length got pl) i ≤ ((k + 1 : Nat) : Int) * 1001000000000000) := Lib.hid (fun i hi => by rw [gz_addL (by have := hnl.out; omega)]; have h1 := hgb.out i hi; have h2 := hpb.out i hi; omega)
                            go_wp2_with fail
                            go_roundw
                            case rel => exact ⟨k + 1, S2, n2, c2, D2, m2, d2, cv, cs, db, addL ss.length got pl, by go_num, by omega, Lib.hid ⟨hB, BR.out, B7.out, ⟨BT.out, HL3.out⟩, OC2.out, rCO.out⟩, hV2, hokc, Lib.hid (addL_len _ _ _), HG3⟩
                            case measure => simp [intOf]; omega
                      · have hle2 : ¬ paC ss (srt (da ++ l)) (cha + inc) ≤ 1000000000000 := by rw [hdb.out]; exact hle
                        have hV3 : runV ss ds ch (List.replicate ss.length 0) (is.zip dd) = (3, [], 0, []) := by rw [hV.out, hzip.out, runV_pay hbr2.out hle2]
                        rw [hV3] at hRC
                        have HU2 := HU.out
                        unfold ipyP at HU2
                        rw [decide_eq_false hle] at HU2
                        replace HU := Lib.hid HU2
                        clear HU2 hV3 hle2
                        go_upto_region 20 with (go_at_call 46; (with_reducible refine Calls.mono (HU.out _ (Below.refl _ _)) ?_); rintro ee w9 ⟨S2, n2, c2, D2, m2, d2, P, p, pc, rfl, ho, hop, hb⟩; have OC2 := Lib.hid ho; have OP2 := Lib.hid hop; have HB9 := Lib.hid hb; clear ho hop hb)
                        obtain ⟨wx, hwx⟩ : ∃ wx, w9.alloc (.cells #[.slice S2 n2 c2, .slice D2 m2 d2, .int .i64 (paC ss db (cha + inc))] 26) = wx := ⟨_, rfl⟩
                        have hb : Below wc.heap.size wc wx := hwx ▸ bel_step HB9.out (al_ w9 _)
                        rw [hwx]
                        clear hwx
                        replace hB := bel_step hB hb
                        replace BR := Lib.hid (blk_later BR.out hb)
                        clear HU n0 n1x n2x f0 f1 f2 hcI2 o0 o1 o2 p0 p1 p2
                        (try clear x0 x1 x2 y0 y1 y2); obtain ⟨⟨x0, x1, x2⟩, y0, y1, y2⟩ := r3_cells BR.out; have hlR := BR.out.lt
                        (iterate 18 (first | go_big_hide | go_big_move | go_big_op | go_big_cond | go_big_open | go_step | go_upon)); go_step; (try go_step); (try simp only [Exit.inBlock, Exit.then]); (try go_big_open); (try simp only [Exit.inBlock, Exit.then]); refine bodyPost_ret (v := .tuple #[.agg #[.slice none 0 0, .slice none 0 0, .int .i64 0], .slice none 0 0, .int .i64 3]) (res_run Try.results8 rfl rfl rfl (((BR.out.set_ 0 _).set_ 1 _).set_ 2 _)) rfl ?_
                        rw [hRC.out]
                        exact rcP_no (by decide) (by go_grown)
                    · have hRC := runC_v hok.out hOK.out
                      have hV5 : runV ss ds ch (List.replicate ss.length 0) (is.zip dd) = (5, [], 0, []) := by rw [hV.out, hzip.out, runV_bury hbr]
                      rw [hV5] at hRC
                      clear hV5
                      go_upto_region 17 with fail
                      (iterate 18 (first | go_big_hide | go_big_move | go_big_op | go_big_cond | go_big_open | go_step | go_upon)); go_step; (try go_step); (try simp only [Exit.inBlock, Exit.then]); (try go_big_open); (try simp only [Exit.inBlock, Exit.then]); refine bodyPost_ret (v := .tuple #[.agg #[.slice none 0 0, .slice none 0 0, .int .i64 0], .slice none 0 0, .int .i64 (bR da l)]) (res_run Try.results8 rfl rfl rfl (((BR.out.set_ 0 _).set_ 1 _).set_ 2 _)) rfl ?_
                      rw [hRC.out, hbr]
                      exact rcP_no (by decide) (by go_grown)
                · have hkn : k = ni := by omega
                  have hzl : (is.zip dd).drop k = [] := by rw [List.drop_eq_nil_iff, List.length_zip]; have := hnil.out; have := hnel.out; have := hnine.out; omega
                  have hV0 : Hid (runV ss ds ch (List.replicate ss.length 0) (is.zip dd) = (0, da, cha, got)) := Lib.hid (by rw [hV.out, hzl]; rfl)
                  have hRC : Hid (runC ss ds ch is dd = 0) := Lib.hid (by rw [(runC_v hok.out hOK.out).out, hV0.out])
                  have OP : Hid (OwI wr (w.heap.size + 2) (.slice (some ⟨GT, 0, none⟩) n n) got) := Lib.hid (by
                    have h1 := holdsL.own (base := w.heap.size + 2) BT.out hBT.out (by have := hgl.out; have := hnl.out; omega) (by omega)
                    rw [hgl.out, hnl.out] at h1
                    exact h1)
                  clear hV hzl hkn hoka hgb hnil hnel hnine HDT HIR
                  go_upto_region 28 with fail
                  (iterate 18 (first | go_big_hide | go_big_move | go_big_op | go_big_cond | go_big_open | go_step | go_upon)); go_step; (try go_step); (try simp only [Exit.inBlock, Exit.then]); (try go_big_open); (try simp only [Exit.inBlock, Exit.then]); refine bodyPost_ret (v := .tuple #[.agg #[.slice So no co, .slice Do mo od, .int .i64 cha], .slice (some ⟨GT, 0, none⟩) n n, .int .i64 0]) (res_run Try.results8 rfl rfl rfl (((BR.out.set_ 0 _).set_ 1 _).set_ 2 _)) rfl ?_
                  rw [hV0.out, hRC.out]
                  refine ⟨So, no, co, Do, mo, od, _, _, _, rfl, ?_, ?_, ?_, by go_grown⟩
                  · rw [kL_0, kL_0]
                    exact (((OC.out.store (by show w.heap.size + 1 < _; omega) _).store (by show w.heap.size + 1 < _; omega) _).store (by show w.heap.size + 1 < _; omega) _).mono (by omega)
                  · rw [kL_0]
                    exact (((OP.out.store (by show w.heap.size + 1 < _; omega) _).store (by show w.heap.size + 1 < _; omega) _).store (by show w.heap.size + 1 < _; omega) _).mono (by omega)
                  · intro q e e2
                    have h1 := (rowO.out q e).2
                    simp only [Value.ownBlock, Option.some.injEq] at e2
                    omega
end Go.Proofs.Ytmhbkabdiciakaa
