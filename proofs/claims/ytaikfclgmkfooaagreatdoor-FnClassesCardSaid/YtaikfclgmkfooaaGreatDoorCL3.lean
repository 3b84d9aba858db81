/-
  Walks of the reference's text of a class: numbers, numbers joined.
-/
import Derived.Test.YtaikfclgmkfooaaGreatDoorCL1
import Derived.Test.YtaikfclgmkfooaaGreatDoorCL2
set_option linter.unusedSimpArgs false
set_option linter.unusedVariables false
namespace Go.Proofs.YtaikfclgmkfooaaGreatDoor
open Go Go.RowKit
theorem dcB_size {z : Int} (h : I64' z) : (dcB z).size ≤ 21 := by
  have h1 : (dcB z).size = (Lib.itoa z).length := by rw [← size_list]; unfold dcB; simp
  have h2 := lens_le (zs := [z]) (fun y hy => by rw [List.mem_singleton] at hy; rw [hy]; exact h)
  rw [h1]
  simpa [Lib.lens] using h2
set_option maxHeartbeats 1000000 in
theorem number_any (z : Int) (w : World) (hz : -1000000000000 ≤ z ∧ z ≤ 1000000000000) : Calls Tryz.prog 45 #[.int .i64 z] w fun e w' => e = .returned (.string (dcB z)) ∧ Below w.heap.size w w' := by
  by_cases hn : z < 0
  · obtain ⟨u, hu⟩ : ∃ u : Nat, -z = (u : Int) := ⟨z.natAbs, by omega⟩
    have HD := fun W => dec_any u W (by omega)
    have hd : Hid (dcB z = ⟨#[45]⟩ ++ ⟨(Lib.decDigits u).toArray⟩) := Lib.hid (by
      unfold dcB
      rw [show z = -(u : Int) by omega, Lib.itoa_neg u (by omega)]
      rw [show (⟨#[45]⟩ : ByteArray) = ⟨[45].toArray⟩ from rfl, ba_app]
      rfl)
    have hl : (⟨(Lib.decDigits u).toArray⟩ : ByteArray).size ≤ 20 := by
      have h1 := dec_len 14 u (by omega)
      rw [← size_list]
      simp
      omega
    rw [← hu] at HD
    replace HD := Lib.hid HD
    clear hu
    generalize (⟨(Lib.decDigits u).toArray⟩ : ByteArray) = L at *
    have q1 := IntWalk.i64_in (-z) (by omega)
    go_enter Tryz.func45, Tryz.ntmps45
    go_wp2_with (go_at_call 59; (with_reducible refine Calls.mono (HD.out _) ?_); rintro ee wz ⟨rfl, hb⟩)
    go_returns
    exact ⟨by rw [hd.out]; rfl, hb⟩
  · obtain ⟨u, rfl⟩ : ∃ u : Nat, z = (u : Int) := ⟨z.toNat, by omega⟩
    have HD := Lib.hid (fun W => dec_any u W (by omega))
    have hd : Hid (dcB (u : Int) = ⟨(Lib.decDigits u).toArray⟩) := Lib.hid (by unfold dcB; rw [Lib.itoa_nonneg])
    generalize (⟨(Lib.decDigits u).toArray⟩ : ByteArray) = L at *
    generalize (u : Int) = z at *
    go_enter Tryz.func45, Tryz.ntmps45
    go_wp2_with (go_at_call 59; (with_reducible refine Calls.mono (HD.out _) ?_); rintro ee wz ⟨rfl, hb⟩)
    go_returns
    exact ⟨by rw [hd.out]; rfl, hb⟩
/-- the first k numbers joined -/
def jB (zs : List Int) (k : Nat) : ByteArray := ⟨(Lib.join ((zs.take k).map Lib.itoa) [32]).toArray⟩
theorem jB_0 (zs : List Int) : jB zs 0 = ⟨#[]⟩ := rfl
theorem join_snoc : ∀ (xs : List (List UInt8)) (y : List UInt8), xs ≠ [] → Lib.join (xs ++ [y]) [32] = Lib.join xs [32] ++ [32] ++ y
  | [], _, h => absurd rfl h
  | [x], y, _ => by rw [List.cons_append, List.nil_append, join_two, Lib.join_one, Lib.join_one]; simp
  | x :: z :: r, y, _ => by
    have ih := join_snoc (z :: r) y (by simp)
    rw [List.cons_append, List.cons_append, join_two, join_two, ← List.cons_append, ih]
    simp
theorem jB_1 {zs : List Int} {z : Int} (h : zs[0]? = some z) : jB zs 1 = ⟨#[]⟩ ++ dcB z := by
  unfold jB dcB
  rw [show (1 : Nat) = 0 + 1 from rfl, take_app h]
  rw [show (⟨#[]⟩ : ByteArray) = ⟨[].toArray⟩ from rfl, ba_app]
  simp [Lib.join_one]
theorem jB_step {zs : List Int} {k : Nat} {z : Int} (h : zs[k]? = some z) (hk : 0 < k) : jB zs (k + 1) = jB zs k ++ ⟨#[32]⟩ ++ dcB z := by
  unfold jB dcB
  have hl : k < zs.length := (List.getElem?_eq_some_iff.1 h).1
  rw [take_app h, List.map_append, List.map_cons, List.map_nil, join_snoc _ _ (by
    intro e
    have := congrArg List.length e
    rw [List.length_map, List.length_take, List.length_nil] at this
    omega)]
  rw [show (⟨#[32]⟩ : ByteArray) = ⟨[32].toArray⟩ from rfl, ba_app, ba_app]
theorem jB_size {zs : List Int} (h : ∀ z ∈ zs, I64' z) (k : Nat) : (jB zs k).size ≤ 22 * zs.length := by
  have h1 := join_le (zs := zs.take k) (fun z hz => h z (List.mem_of_mem_take hz))
  have h2 : (jB zs k).size = (Lib.join ((zs.take k).map Lib.itoa) [32]).length := by rw [← size_list]; unfold jB; simp
  rw [h2]
  have h3 : (zs.take k).length ≤ zs.length := by rw [List.length_take]; omega
  omega
set_option maxHeartbeats 2000000 in
theorem lJoin_any (A : Option Addr) (n c : Nat) (zs : List Int) (w : World) (h : RdI w w.heap.size A n zs) (hz : ∀ z ∈ zs, -1000000000000 ≤ z ∧ z ≤ 1000000000000) (hn : n ≤ 1000) : Calls Tryz.prog 25 #[.slice A n c, .string ⟨#[32]⟩] w fun e w' => e = .returned (.string (jB zs zs.length)) ∧ Below w.heap.size w w' := by
  have hl := Lib.hid h.len
  have HR := Lib.hid (fun W (hB : Below w.heap.size w W) => (h.below hB))
  have HZ := Lib.hid hz
  have hI : ∀ z ∈ zs, I64' z := fun z hq => by have := hz z hq; unfold I64'; omega
  have HS := Lib.hid (fun k => (by have := jB_size hI k; have := h.len; omega : (jB zs k).size ≤ 22000))
  clear h hz
  go_enter Tryz.func25, Tryz.ntmps25
  go_wp2
  go_loopw [5, 6] (fun x i wr => ∃ k : Nat, i = .int .i64 k ∧ x = .string (jB zs k) ∧ k ≤ n ∧ Below w.heap.size w wr) (fun _ i _ => n - (intOf i).toNat)
  case atStart => exact ⟨0, rfl, rfl, Nat.zero_le _, Below.refl _ _⟩
  case round =>
    obtain ⟨k, rfl, rfl, hk, hB⟩ := hrel
    by_cases hlt : k < n
    · obtain ⟨ad, z, rfl, hb1, hx, hc⟩ := RdI.atI (HR.out wr hB) hlt
      have HD := Lib.hid (fun W => number_any z W (HZ.out z (List.mem_of_getElem? hx)))
      have hs2 : (dcB z).size ≤ 21 := dcB_size (hI z (List.mem_of_getElem? hx))
      have hs1 := HS.out k
      clear hI
      by_cases hk0 : 0 < k
      · have HJ := Lib.hid (jB_step hx hk0)
        clear hx
        generalize jB zs k = J at *
        generalize dcB z = d at *
        go_wp2_with (go_at_call 45; (with_reducible refine Calls.mono (HD.out _) ?_); rintro ee wz ⟨rfl, hb⟩; replace hB := bel_step hB hb; clear hb)
        go_roundw
        case rel => exact ⟨k + 1, by go_num, by rw [HJ.out], by omega, hB⟩
        case measure => simp [intOf]; omega
      · obtain rfl : k = 0 := by omega
        have HJ := Lib.hid (jB_1 hx)
        clear hx
        rw [jB_0] at *
        rw [add_zero'] at hc
        generalize dcB z = d at *
        go_wp2_with (go_at_call 45; (with_reducible refine Calls.mono (HD.out _) ?_); rintro ee wz ⟨rfl, hb⟩; replace hB := bel_step hB hb; clear hb)
        go_roundw
        case rel => exact ⟨1, by go_num, by rw [HJ.out], by omega, hB⟩
        case measure => simp [intOf]; omega
    · obtain rfl : k = n := by omega
      go_wp2
      go_returns
      exact ⟨by rw [hl.out]; rfl, hB⟩
/-- the text and the code of ClassText -/
def ctS (ss ds : List Int) (ch : Int) : ByteArray := if okC ss ds ch = true then txB ss ds ch else ⟨#[]⟩
def ctK (ss ds : List Int) (ch : Int) : Int := if okC ss ds ch = true then 0 else 1
set_option maxHeartbeats 1000000 in
theorem iCT_any (S : Option Addr) (n c : Nat) (ss : List Int) (D : Option Addr) (m d : Nat) (ds : List Int) (ch : Int) (w : World) (hS : RdI w w.heap.size S n ss) (hD : RdI w w.heap.size D m ds) (hn : n ≤ 1000000) (hm : m ≤ 3000000) (hL : Lb w) : Calls Tryz.prog 6 #[.agg #[.slice S n c, .slice D m d, .int .i64 ch]] w fun ee w' => ee = .returned (.tuple #[.string (ctS ss ds ch), .int .i64 (ctK ss ds ch)]) ∧ Below w.heap.size w w' := by
  have H1 := fun W (hB : Below w.heap.size w W) => iIsC_any S n c ss D m d ds ch W ((hS.below hB).more hB.size) ((hD.below hB).more hB.size) (by omega) (by omega)
  have BB := Lib.hid (Blk.new w 26 #[.slice S n c, .slice D m d, .int .i64 ch])
  have hB : Below w.heap.size w (w.alloc (.cells #[.slice S n c, .slice D m d, .int .i64 ch] 26)) := al_ _ _
  unfold ctS ctK
  cases hok : okC ss ds ch with
  | false =>
    rw [hok] at H1
    replace H1 := Lib.hid H1
    clear hS hD hok hL
    (try clear y0 y1 y2); obtain ⟨y0, y1, y2⟩ := c3_cells BB.out; have hlB := BB.out.lt
    go_enter Tryz.func6, Tryz.ntmps6
    go_wp2_with (go_at_call 18; (with_reducible refine Calls.mono (H1.out _ hB) ?_); rintro ee wz ⟨rfl, hb⟩; replace hB := bel_step hB hb; replace BB := Lib.hid (blk_later BB.out hb); clear hb; (try clear y0 y1 y2); obtain ⟨y0, y1, y2⟩ := c3_cells BB.out; have hlB := BB.out.lt)
    go_returns
    exact ⟨rfl, hB⟩
  | true =>
    rw [hok] at H1
    replace H1 := Lib.hid H1
    have hI := okC_in hok
    have H2 := Lib.hid (fun W (hB : Below w.heap.size w W) => text_any S n c ss D m d ds ch W ((hS.below hB).more hB.size) ((hD.below hB).more hB.size) hn hm hI.1 hI.2 (hL.later hB))
    clear hS hD hok hL hI
    (try clear y0 y1 y2); obtain ⟨y0, y1, y2⟩ := c3_cells BB.out; have hlB := BB.out.lt
    go_enter Tryz.func6, Tryz.ntmps6
    go_wp2_with (first | (go_at_call 18; (with_reducible refine Calls.mono (H1.out _ hB) ?_); rintro ee wz ⟨rfl, hb⟩; replace hB := bel_step hB hb; replace BB := Lib.hid (blk_later BB.out hb); clear hb; (try clear y0 y1 y2); obtain ⟨y0, y1, y2⟩ := c3_cells BB.out; have hlB := BB.out.lt) | (go_at_call 22; (with_reducible refine Calls.mono (H2.out _ hB) ?_); rintro ee wz ⟨rfl, hb⟩; replace hB := bel_step hB hb; replace BB := Lib.hid (blk_later BB.out hb); clear hb; (try clear y0 y1 y2); obtain ⟨y0, y1, y2⟩ := c3_cells BB.out; have hlB := BB.out.lt))
    go_returns
    exact ⟨rfl, hB⟩
set_option maxHeartbeats 4000000 in
theorem sCT_any (S : Option Addr) (n c : Nat) (ss : List Int) (D : Option Addr) (m d : Nat) (ds : List Int) (ch : Int) (w : World) (hS : RdI w w.heap.size S n ss) (hD : RdI w w.heap.size D m ds) (hn : n ≤ 1000000) (hm : m ≤ 3000000) : Calls Tryz.prog 7 #[.agg #[.slice S n c, .slice D m d, .int .i64 ch]] w fun ee w' => ee = .returned (.tuple #[.string (ctS ss ds ch), .int .i64 (ctK ss ds ch)]) ∧ Below w.heap.size w w' := by
  have H1 := fun W (hB : Below w.heap.size w W) => sIsC_any S n c ss D m d ds ch W ((hS.below hB).more hB.size) ((hD.below hB).more hB.size) (by omega) (by omega)
  have BB := Lib.hid (Blk.new w 26 #[.slice S n c, .slice D m d, .int .i64 ch])
  have hB : Below w.heap.size w (w.alloc (.cells #[.slice S n c, .slice D m d, .int .i64 ch] 26)) := al_ _ _
  unfold ctS ctK
  cases hok : okC ss ds ch with
  | false =>
    rw [hok] at H1
    replace H1 := Lib.hid H1
    clear hS hD hok
    (try clear y0 y1 y2); obtain ⟨y0, y1, y2⟩ := c3_cells BB.out; have hlB := BB.out.lt
    go_enter Tryz.func7, Tryz.ntmps7
    go_wp2_with (go_at_call 23; (with_reducible refine Calls.mono (H1.out _ hB) ?_); rintro ee wz ⟨rfl, hb⟩; replace hB := bel_step hB hb; replace BB := Lib.hid (blk_later BB.out hb); clear hb; (try clear y0 y1 y2); obtain ⟨y0, y1, y2⟩ := c3_cells BB.out; have hlB := BB.out.lt)
    go_returns
    exact ⟨rfl, hB⟩
  | true =>
    rw [hok] at H1
    replace H1 := Lib.hid H1
    have hl := Lib.hid hS.len
    have hk := okC_iff.1 hok
    have hn60 : n ≤ 60 := by have := hS.len; omega
    have HRS := Lib.hid (fun W (hB : Below w.heap.size w W) => (hS.below hB))
    have H2 := Lib.hid (fun W x (hB : Below w.heap.size w W) => has_any D m d ds x W ((hD.below hB).more hB.size) hm)
    have HZ : Hid (∀ z ∈ ch :: txL ds 0 ss, -1000000000000 ≤ z ∧ z ≤ 1000000000000) := Lib.hid (fun z h => by
      rcases List.mem_cons.1 h with h1 | h1
      · rw [h1]; omega
      · have := tx_bd ss 0 (ok_shares hok) z h1
        omega)
    clear hS hD hok hk
    (try clear y0 y1 y2); obtain ⟨y0, y1, y2⟩ := c3_cells BB.out; have hlB := BB.out.lt
    go_enter Tryz.func7, Tryz.ntmps7
    go_upto_region 4 with (go_at_call 23; (with_reducible refine Calls.mono (H1.out _ hB) ?_); rintro ee wz ⟨rfl, hb⟩; have hlw := BB.out.lt; have hsz := hb.size; replace hB := bel_step hB hb; replace BB := Lib.hid (blk_later BB.out hb); clear hb; (try clear y0 y1 y2); obtain ⟨y0, y1, y2⟩ := c3_cells BB.out; have hlB := BB.out.lt)
    have O : Hid (OwI (wz.alloc (.cells #[.int .i64 ch] 2)) (w.heap.size + 1) (.slice (some ⟨wz.heap.size, 0, none⟩) 1 1) [ch]) := Lib.hid (World.ownsRow_lit (base := w.heap.size + 1) (e := 2) (size := 1) wz #[.int .i64 ch] 1 (by have := hlB; omega) (by unfold maxLen; omega) rfl)
    replace BB := Lib.hid (BB.out.alloc (.cells #[.int .i64 ch] 2))
    replace hB := hB.alloc hB.size (.cells #[.int .i64 ch] 2)
    clear H1 hsz hlw
    go_wp2
    go_loopw [4, 5] (fun x i wr => ∃ (k : Nat) (A1 : Option Addr) (m1 c1 : Nat), i = .int .i64 k ∧ x = .slice A1 m1 c1 ∧ k ≤ n ∧ Hid (OwI wr (w.heap.size + 1) (.slice A1 m1 c1) (ch :: txL ds 0 (ss.take k))) ∧ Hid (Blk wr w.heap.size 26 #[.slice S n c, .slice D m d, .int .i64 ch]) ∧ Below w.heap.size w wr) (fun _ i _ => n - (intOf i).toNat)
    case atStart => exact ⟨0, _, _, _, rfl, rfl, Nat.zero_le _, O, BB, hB⟩
    case round =>
      clear hB O BB y0 y1 y2 hlB
      obtain ⟨k, A1, m1, c1, rfl, rfl, hk, O, BB, hB⟩ := hrel
      (try clear y0 y1 y2); obtain ⟨y0, y1, y2⟩ := c3_cells BB.out; have hlB := BB.out.lt
      by_cases hlt : k < n
      · obtain ⟨ad, z, rfl, hb1, hx, hc⟩ := RdI.atI (HRS.out wr hB) hlt
        have HT := Lib.hid (txL_take ds hx)
        clear hx
        cases hq : hs ds (k : Int) with
        | false =>
          rw [hq, if_neg (by decide)] at HT
          have H3 := Lib.hid (H2.out wr (k : Int) hB)
          rw [hq] at H3
          clear hq
          go_wp2_with (first | (go_at_call 24; (with_reducible refine Calls.mono H3.out ?_); rintro ee wq ⟨rfl, rfl⟩) | (at_builtin; refine wpl_app_intM rfl _ _ rfl (w.heap.size + 1) (ch :: txL ds 0 (ss.take k)) _ (by rfl) (O.out.later (al_ _ _)) _ _ 1 (by rfl) ((Blk.new _ _ _).cell 0) (by rw [List.length_cons, txL_len, List.length_take]; omega) (by have := hlB; simp; omega) ?_; intro A3 m3 c3 w3 ho3 hg3 _; have rw3 := own_rowI O.out; replace O := Lib.hid ho3; replace BB := Lib.hid ((BB.out.alloc _).grown hg3 (fun e => by have := (rw3 _ e.symm).1; omega)); replace hB := (hB.alloc hB.size _).grown hg3 (by have := hB.size; simp; omega) (fun b e => (by have := (rw3 b e).1; omega)); clear ho3 hg3 rw3; (try clear y0 y1 y2); obtain ⟨y0, y1, y2⟩ := c3_cells BB.out; have hlB := BB.out.lt))
          go_roundw
          case rel => exact ⟨k + 1, _, _, _, by go_num, rfl, by omega, Lib.hid (by rw [HT.out]; exact O.out), BB, hB⟩
          case measure => simp [intOf]; omega
        | true =>
          rw [hq, if_pos rfl, IntWalk.i64_left] at HT
          have H3 := Lib.hid (H2.out wr (k : Int) hB)
          rw [hq] at H3
          clear hq
          go_wp2_with (first | (go_at_call 24; (with_reducible refine Calls.mono H3.out ?_); rintro ee wq ⟨rfl, rfl⟩) | (at_builtin; refine wpl_app_intM rfl _ _ rfl (w.heap.size + 1) (ch :: txL ds 0 (ss.take k)) _ (by rfl) (O.out.later (al_ _ _)) _ _ 1 (by rfl) ((Blk.new _ _ _).cell 0) (by rw [List.length_cons, txL_len, List.length_take]; omega) (by have := hlB; simp; omega) ?_; intro A3 m3 c3 w3 ho3 hg3 _; have rw3 := own_rowI O.out; replace O := Lib.hid ho3; replace BB := Lib.hid ((BB.out.alloc _).grown hg3 (fun e => by have := (rw3 _ e.symm).1; omega)); replace hB := (hB.alloc hB.size _).grown hg3 (by have := hB.size; simp; omega) (fun b e => (by have := (rw3 b e).1; omega)); clear ho3 hg3 rw3; (try clear y0 y1 y2); obtain ⟨y0, y1, y2⟩ := c3_cells BB.out; have hlB := BB.out.lt))
          go_roundw
          case rel => exact ⟨k + 1, _, _, _, by go_num, rfl, by omega, Lib.hid (by rw [HT.out]; exact O.out), BB, hB⟩
          case measure => simp [intOf]; omega
      · obtain rfl : k = n := by omega
        rw [List.take_of_length_le (by rw [hl.out]; exact Nat.le_refl _)] at O
        obtain rfl : m1 = (ch :: txL ds 0 ss).length := O.out.rd.1
        have HJ := lJoin_any A1 _ c1 (ch :: txL ds 0 ss) wr O.out.rd.2 HZ.out (by rw [List.length_cons, txL_len, hl.out]; omega)
        rw [show jB (ch :: txL ds 0 ss) (ch :: txL ds 0 ss).length = txB ss ds ch by unfold jB; rw [List.take_length]; rfl] at HJ
        replace HJ := Lib.hid HJ
        go_wp2_with (go_at_call 25; (with_reducible refine Calls.mono HJ.out ?_); rintro ee wz ⟨rfl, hb⟩; replace hB := bel_step hB hb; clear hb)
        go_returns
        exact ⟨rfl, hB⟩
end Go.Proofs.YtaikfclgmkfooaaGreatDoor
