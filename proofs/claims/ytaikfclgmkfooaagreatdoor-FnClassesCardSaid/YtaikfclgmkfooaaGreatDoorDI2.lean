/-
  Walks of ReadClass and ClassText, the program's side: numbers joined, a class's text.
-/
import Derived.Test.YtaikfclgmkfooaaGreatDoorDI1
set_option linter.unusedSimpArgs false
set_option linter.unusedVariables false
namespace Go.Proofs.YtaikfclgmkfooaaGreatDoor
open Go Go.RowKit
theorem dc_take {zs : List Int} {k : Nat} {z : Int} (h : zs[k]? = some z) : (zs.take (k + 1)).map dcB = (zs.take k).map dcB ++ [dcB z] := by rw [take_app h, List.map_append]; rfl
set_option maxHeartbeats 2000000 in
theorem joined_any (A : Option Addr) (n c : Nat) (zs : List Int) (w : World) (h : RdI w w.heap.size A n zs) (hz : ∀ z ∈ zs, I64' z) (hn : n ≤ 1048577) (hL : Lb w) : Calls Tryz.prog 43 #[.slice A n c] w fun e w' => e = .returned (.string ⟨(Lib.join (zs.map Lib.itoa) [32]).toArray⟩) ∧ Below w.heap.size w w' := by
  have hl := Lib.hid h.len
  have hO := Lib.hid (ownEmptyW w w.heap.size (Nat.le_refl _))
  have HR := Lib.hid (fun W (hB : Below w.heap.size w W) => (h.below hB))
  have HL := Lib.hid (fun W (hB : Below w.heap.size w W) => hL.later hB)
  have HZ := Lib.hid hz
  clear h hL hz
  go_enter Tryz.func43, Tryz.ntmps43
  go_wp2
  go_loopw [3, 9] (fun x i wr => ∃ (k : Nat) (A1 : Option Addr) (m1 c1 : Nat), i = .int .i64 k ∧ x = .slice A1 m1 c1 ∧ k ≤ n ∧ Hid (OwW wr w.heap.size (.slice A1 m1 c1) ((zs.take k).map dcB)) ∧ Below w.heap.size w wr) (fun _ i _ => n - (intOf i).toNat)
  case atStart => exact ⟨0, _, _, _, rfl, rfl, Nat.zero_le _, hO, al_ _ _⟩
  case round =>
    obtain ⟨k, A1, m1, c1, rfl, rfl, hk, O, hB⟩ := hrel
    by_cases hlt : k < n
    · obtain ⟨ad, z, rfl, hb1, hx, hc⟩ := RdI.atI (HR.out wr hB) hlt
      have HX := Lib.hid hx
      have HD := Lib.hid (fun W hW => decimal_any z W (HZ.out z (List.mem_of_getElem? hx)) hW)
      clear hx
      go_wp2_with (first | (go_at_call 57; (with_reducible refine Calls.mono (HD.out _ (HL.out _ hB)) ?_); rintro ee wz ⟨rfl, hb⟩; replace O := Lib.hid (O.out.later hb); replace hB := bel_step hB hb; clear hb) | (at_builtin; refine wpl_app_str rfl _ _ rfl w.heap.size ((zs.take k).map dcB) _ (by rfl) (O.out.later (al_ _ _)) _ _ 1 (by rfl) ((Blk.new _ _ _).cell 0) (by rw [List.length_map, List.length_take]; omega) (by have := hB.size; simp; omega) ?_; intro A3 m3 c3 w3 ho3 hg3 _; have rw3 := own_rowW O.out; replace O := Lib.hid ho3; replace hB := (hB.alloc hB.size _).grown hg3 (by have := hB.size; simp; omega) (fun b e => (by have := (rw3 b e).1; omega)); clear ho3 hg3 rw3))
      rw [← dc_take HX.out] at O
      go_roundw
      case rel => exact ⟨k + 1, _, _, _, by go_num, rfl, by omega, O, hB⟩
      case measure => simp [intOf]; omega
    · obtain rfl : k = n := by omega
      rw [List.take_of_length_le (by rw [hl.out]; exact Nat.le_refl _)] at O
      have HJ := Lib.hid (join_any w.heap.size A1 m1 c1 zs wr O.out HZ.out (by rw [hl.out]; omega))
      go_wp2_with (go_at_call 58; (with_reducible refine Calls.mono HJ.out ?_); rintro ee wz ⟨rfl, hb⟩; replace hB := bel_step hB hb; clear hb)
      go_returns
      exact ⟨rfl, hB⟩
theorem txL_app (ds : List Int) : ∀ (l : List Int) (b : Nat) (x : Int), txL ds b (l ++ [x]) = txL ds b l ++ [if hs ds ((b + l.length : Nat) : Int) = true then IntKind.i64.wrap (-x) else x]
  | [], b, x => by simp [txL]
  | y :: r, b, x => by
    have ih := txL_app ds r (b + 1) x
    simp only [List.cons_append, txL, List.length_cons]
    rw [ih, show b + 1 + r.length = b + (r.length + 1) by omega]
theorem txL_take {ss : List Int} (ds : List Int) {k : Nat} {x : Int} (h : ss[k]? = some x) : txL ds 0 (ss.take (k + 1)) = txL ds 0 (ss.take k) ++ [if hs ds (k : Int) = true then IntKind.i64.wrap (-x) else x] := by
  have hk : k < ss.length := (List.getElem?_eq_some_iff.1 h).1
  rw [take_app h, txL_app, List.length_take, Nat.zero_add, Nat.min_eq_left (by omega)]
theorem txL_len (ds : List Int) : ∀ (l : List Int) (b : Nat), (txL ds b l).length = l.length
  | [], _ => rfl
  | x :: r, b => by simp [txL, txL_len ds r (b + 1)]
theorem txL_in {ds : List Int} : ∀ (l : List Int) (b : Nat), (∀ x ∈ l, I64' x) → ∀ x ∈ txL ds b l, I64' x
  | [], _, _, x, h => by cases h
  | y :: r, b, hl, x, h => by
    rcases List.mem_cons.1 h with h1 | h1
    · rw [h1]
      split
      · unfold I64' IntKind.wrap; simp [IntKind.signed, IntKind.bits]; omega
      · exact hl y (by simp)
    · exact txL_in r (b + 1) (fun z hz => hl z (by simp [hz])) x h1
set_option maxHeartbeats 4000000 in
theorem text_any (S : Option Addr) (n c : Nat) (ss : List Int) (D : Option Addr) (m d : Nat) (ds : List Int) (ch : Int) (w : World) (hS : RdI w w.heap.size S n ss) (hD : RdI w w.heap.size D m ds) (hn : n ≤ 1000000) (hm : m ≤ 3000000) (hz : ∀ z ∈ ss, I64' z) (hc : I64' ch) (hL : Lb w) : Calls Tryz.prog 22 #[.agg #[.slice S n c, .slice D m d, .int .i64 ch]] w fun e w' => e = .returned (.string ⟨(Lib.join ((ch :: txL ds 0 ss).map Lib.itoa) [32]).toArray⟩) ∧ Below w.heap.size w w' := by
  have hl := Lib.hid hS.len
  have HRS := Lib.hid (fun W (hB : Below w.heap.size w W) => (hS.below hB))
  have HL := Lib.hid (fun W (hB : Below w.heap.size w W) => hL.later hB)
  have HX := Lib.hid (fun W x (hB : Below w.heap.size w W) => isDead_any S n c D m d ds ch x W ((hD.below hB).more hB.size) hm)
  have HZ : Hid (∀ z ∈ ch :: txL ds 0 ss, I64' z) := Lib.hid (fun z h => by
    rcases List.mem_cons.1 h with h1 | h1
    · rw [h1]; exact hc
    · exact txL_in ss 0 hz z h1)
  have BB := Lib.hid ((Blk.new w 26 #[.slice S n c, .slice D m d, .int .i64 ch]).alloc (.cells #[.int .i64 ch] 2))
  have hB : Below w.heap.size w ((w.alloc (.cells #[.slice S n c, .slice D m d, .int .i64 ch] 26)).alloc (.cells #[.int .i64 ch] 2)) := (al_ _ _).alloc (by simp) _
  have O : Hid (OwI ((w.alloc (.cells #[.slice S n c, .slice D m d, .int .i64 ch] 26)).alloc (.cells #[.int .i64 ch] 2)) (w.heap.size + 1) (.slice (some ⟨w.heap.size + 1, 0, none⟩) 1 1) [ch]) := Lib.hid (by
    have h1 := World.ownsRow_lit (base := w.heap.size + 1) (e := 2) (size := 1) (w.alloc (.cells #[.slice S n c, .slice D m d, .int .i64 ch] 26)) #[.int .i64 ch] 1 (by simp) (by unfold maxLen; omega) rfl
    rw [World.size_alloc] at h1
    exact h1)
  clear hS hD hz hc hL
  go_enter Tryz.func22, Tryz.ntmps22
  go_wp2
  go_loopw [3, 12] (fun x i wr => ∃ (k : Nat) (A1 : Option Addr) (m1 c1 : Nat), i = .int .i64 k ∧ x = .slice A1 m1 c1 ∧ k ≤ n ∧ Hid (OwI wr (w.heap.size + 1) (.slice A1 m1 c1) (ch :: txL ds 0 (ss.take k))) ∧ Hid (Blk wr w.heap.size 26 #[.slice S n c, .slice D m d, .int .i64 ch]) ∧ Below w.heap.size w wr) (fun _ i _ => n - (intOf i).toNat)
  case atStart => exact ⟨0, _, _, _, rfl, rfl, Nat.zero_le _, O, BB, hB⟩
  case round =>
    clear hB O BB
    obtain ⟨k, A1, m1, c1, rfl, rfl, hk, O, BB, hB⟩ := hrel
    obtain ⟨c0, c1', c2⟩ := c3_cells BB.out
    have hlB := BB.out.lt
    by_cases hlt : k < n
    · obtain ⟨ad, z, rfl, hb1, hx, hc⟩ := RdI.atI (HRS.out wr hB) hlt
      have HT := Lib.hid (txL_take ds hx)
      clear hx
      cases hq : hs ds (k : Int) with
      | false =>
        rw [hq, if_neg (by decide)] at HT
        go_wp2_with (first | (go_at_call 36; (with_reducible refine Calls.mono (HX.out _ _ hB) ?_); rintro ee wz ⟨rfl, hb⟩; rw [hq]; replace O := Lib.hid (O.out.later hb); replace BB := Lib.hid (blk_later BB.out hb); replace hB := bel_step hB hb; clear hb c0 c1' c2 hlB; obtain ⟨c0, c1', c2⟩ := c3_cells BB.out; have hlB := BB.out.lt) | (at_builtin; refine wpl_app_intM rfl _ _ rfl (w.heap.size + 1) (ch :: txL ds 0 (ss.take k)) _ (by rfl) (O.out.later (al_ _ _)) _ _ 1 (by rfl) ((Blk.new _ _ _).cell 0) (by rw [List.length_cons, txL_len, List.length_take]; omega) (by have := hlB; simp; omega) ?_; intro A3 m3 c3 w3 ho3 hg3 _; have rw3 := own_rowI O.out; replace O := Lib.hid ho3; replace BB := Lib.hid ((BB.out.alloc _).grown hg3 (fun e => by have := (rw3 _ e.symm).1; omega)); replace hB := (hB.alloc hB.size _).grown hg3 (by have := hB.size; simp; omega) (fun b e => (by have := (rw3 b e).1; omega)); clear ho3 hg3 rw3))
        exact ⟨⟨k + 1, _, _, _, by go_num, rfl, by omega, Lib.hid (by rw [HT.out]; exact O.out), BB, hB⟩, by simp [intOf]; omega⟩
      | true =>
        rw [hq, if_pos rfl, IntWalk.i64_left] at HT
        go_wp2_with (first | (go_at_call 36; (with_reducible refine Calls.mono (HX.out _ _ hB) ?_); rintro ee wz ⟨rfl, hb⟩; rw [hq]; replace O := Lib.hid (O.out.later hb); replace BB := Lib.hid (blk_later BB.out hb); replace hB := bel_step hB hb; clear hb c0 c1' c2 hlB; obtain ⟨c0, c1', c2⟩ := c3_cells BB.out; have hlB := BB.out.lt) | (at_builtin; refine wpl_app_intM rfl _ _ rfl (w.heap.size + 1) (ch :: txL ds 0 (ss.take k)) _ (by rfl) (O.out.later (al_ _ _)) _ _ 1 (by rfl) ((Blk.new _ _ _).cell 0) (by rw [List.length_cons, txL_len, List.length_take]; omega) (by have := hlB; simp; omega) ?_; intro A3 m3 c3 w3 ho3 hg3 _; have rw3 := own_rowI O.out; replace O := Lib.hid ho3; replace BB := Lib.hid ((BB.out.alloc _).grown hg3 (fun e => by have := (rw3 _ e.symm).1; omega)); replace hB := (hB.alloc hB.size _).grown hg3 (by have := hB.size; simp; omega) (fun b e => (by have := (rw3 b e).1; omega)); clear ho3 hg3 rw3))
        exact ⟨⟨k + 1, _, _, _, by go_num, rfl, by omega, Lib.hid (by rw [HT.out]; exact O.out), BB, hB⟩, by simp [intOf]; omega⟩
    · obtain rfl : k = n := by omega
      rw [List.take_of_length_le (by rw [hl.out]; exact Nat.le_refl _)] at O
      obtain rfl : m1 = (ch :: txL ds 0 ss).length := O.out.rd.1
      have HJ := Lib.hid (joined_any A1 _ c1 (ch :: txL ds 0 ss) wr O.out.rd.2 HZ.out (by rw [List.length_cons, txL_len, hl.out]; omega) (HL.out _ hB))
      go_wp2_with (go_at_call 43; (with_reducible refine Calls.mono HJ.out ?_); rintro ee wz ⟨rfl, hb⟩; replace hB := bel_step hB hb; clear hb)
      go_returns
      exact ⟨rfl, hB⟩
end Go.Proofs.YtaikfclgmkfooaaGreatDoor
