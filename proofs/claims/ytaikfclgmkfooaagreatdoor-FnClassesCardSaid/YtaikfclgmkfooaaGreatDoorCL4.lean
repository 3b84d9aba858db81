/-
  Walks of LastMember on both sides.
-/
import Derived.Test.YtaikfclgmkfooaaGreatDoorCL3
set_option linter.unusedSimpArgs false
set_option linter.unusedVariables false
namespace Go.Proofs.YtaikfclgmkfooaaGreatDoor
open Go Go.RowKit
set_option maxHeartbeats 2000000 in
theorem iLM_any (S : Option Addr) (n c : Nat) (ss : List Int) (D : Option Addr) (m d : Nat) (ds : List Int) (ch v k : Int) (w : World) (hS : RdI w w.heap.size S n ss) (hD : RdI w w.heap.size D m ds) (hn : n ≤ 1000000) (hm : m ≤ 3000000) (hv : LM ss ds ch v k) : Calls Tryz.prog 15 #[.agg #[.slice S n c, .slice D m d, .int .i64 ch]] w fun ee w' => ee = .returned (.tuple #[.int .i64 v, .int .i64 k]) ∧ Below w.heap.size w w' := by
  have H1 := fun W (hB : Below w.heap.size w W) => iIsC_any S n c ss D m d ds ch W ((hS.below hB).more hB.size) ((hD.below hB).more hB.size) (by omega) (by omega)
  have BB := Lib.hid (Blk.new w 26 #[.slice S n c, .slice D m d, .int .i64 ch])
  have hB : Below w.heap.size w (w.alloc (.cells #[.slice S n c, .slice D m d, .int .i64 ch] 26)) := al_ _ _
  have hl1 := hS.len
  have hl2 := hD.len
  unfold LM at hv
  rw [show (ds.length : Int) = (m : Int) by omega, show (ss.length : Int) = (n : Int) by omega] at hv
  have H2 := Lib.hid (fun W x (hB : Below w.heap.size w W) => isDead_any S n c D m d ds ch x W ((hD.below hB).more hB.size) hm)
  clear hS hD
  rcases hv with ⟨hok, rfl, rfl⟩ | ⟨hok, hne, rfl, rfl⟩ | ⟨hok, hne, rfl, q, rfl, hq, hf⟩
  · rw [hok] at H1
    replace H1 := Lib.hid H1
    clear hok H2
    (try clear y0 y1 y2); obtain ⟨y0, y1, y2⟩ := c3_cells BB.out; have hlB := BB.out.lt
    go_enter Tryz.func15, Tryz.ntmps15
    go_wp2_with (go_at_call 18; (with_reducible refine Calls.mono (H1.out _ hB) ?_); rintro ee wz ⟨rfl, hb⟩; replace hB := bel_step hB hb; replace BB := Lib.hid (blk_later BB.out hb); clear hb; (try clear y0 y1 y2); obtain ⟨y0, y1, y2⟩ := c3_cells BB.out; have hlB := BB.out.lt)
    go_returns
    exact ⟨rfl, hB⟩
  · rw [hok] at H1
    replace H1 := Lib.hid H1
    clear hok H2
    have hq : ((m : Int) == (n : Int) - 1) = false := by rw [beq_eq_false_iff_ne]; exact hne
    have q1 := IntWalk.i64_in ((n : Int) - 1) (by omega)
    clear hne
    (try clear y0 y1 y2); obtain ⟨y0, y1, y2⟩ := c3_cells BB.out; have hlB := BB.out.lt
    go_enter Tryz.func15, Tryz.ntmps15
    go_wp2_with (go_at_call 18; (with_reducible refine Calls.mono (H1.out _ hB) ?_); rintro ee wz ⟨rfl, hb⟩; replace hB := bel_step hB hb; replace BB := Lib.hid (blk_later BB.out hb); clear hb; (try clear y0 y1 y2); obtain ⟨y0, y1, y2⟩ := c3_cells BB.out; have hlB := BB.out.lt)
    go_returns
    exact ⟨rfl, hB⟩
  · rw [hok] at H1
    replace H1 := Lib.hid H1
    clear hok
    have hq2 : ((m : Int) != (n : Int) - 1) = false := by rw [bne, beq_iff_eq.2 hne]; rfl
    have q1 := IntWalk.i64_in ((n : Int) - 1) (by omega)
    replace hf := Lib.hid hf
    clear hne
    (try clear y0 y1 y2); obtain ⟨y0, y1, y2⟩ := c3_cells BB.out; have hlB := BB.out.lt
    go_enter Tryz.func15, Tryz.ntmps15
    go_wp2_with (go_at_call 18; (with_reducible refine Calls.mono (H1.out _ hB) ?_); rintro ee wz ⟨rfl, hb⟩; replace hB := bel_step hB hb; replace BB := Lib.hid (blk_later BB.out hb); clear hb; (try clear y0 y1 y2); obtain ⟨y0, y1, y2⟩ := c3_cells BB.out; have hlB := BB.out.lt)
    go_loopw [4] (fun i wr => ∃ j : Nat, i = .int .i64 j ∧ j ≤ q ∧ Hid (Blk wr w.heap.size 26 #[.slice S n c, .slice D m d, .int .i64 ch]) ∧ Below w.heap.size w wr) (fun i _ => q - (intOf i).toNat)
    case atStart => exact ⟨0, rfl, Nat.zero_le _, BB, hB⟩
    case round =>
      clear hB BB y0 y1 y2 hlB
      obtain ⟨j, rfl, hj, BB, hB⟩ := hrel
      (try clear y0 y1 y2); obtain ⟨y0, y1, y2⟩ := c3_cells BB.out; have hlB := BB.out.lt
      by_cases hlt : j < q
      · have H3 := fun W hB => H2.out W (j : Int) hB
        rw [hf.out.2 j hlt] at H3
        replace H3 := Lib.hid H3
        go_wp2_with (go_at_call 36; (with_reducible refine Calls.mono (H3.out _ hB) ?_); rintro ee wq ⟨rfl, hb⟩; replace hB := bel_step hB hb; replace BB := Lib.hid (blk_later BB.out hb); clear hb; (try clear y0 y1 y2); obtain ⟨y0, y1, y2⟩ := c3_cells BB.out; have hlB := BB.out.lt)
        go_roundw
        case rel => exact ⟨j + 1, by go_num, by omega, BB, hB⟩
        case measure => simp [intOf]; omega
      · obtain rfl : j = q := by omega
        have H3 := fun W hB => H2.out W (j : Int) hB
        rw [hf.out.1] at H3
        replace H3 := Lib.hid H3
        go_wp2_with (go_at_call 36; (with_reducible refine Calls.mono (H3.out _ hB) ?_); rintro ee wq ⟨rfl, hb⟩; replace hB := bel_step hB hb; replace BB := Lib.hid (blk_later BB.out hb); clear hb; (try clear y0 y1 y2); obtain ⟨y0, y1, y2⟩ := c3_cells BB.out; have hlB := BB.out.lt)
        go_returns
        exact ⟨rfl, hB⟩
set_option maxHeartbeats 2000000 in
theorem sLM_any (S : Option Addr) (n c : Nat) (ss : List Int) (D : Option Addr) (m d : Nat) (ds : List Int) (ch v k : Int) (w : World) (hS : RdI w w.heap.size S n ss) (hD : RdI w w.heap.size D m ds) (hn : n ≤ 1000000) (hm : m ≤ 3000000) (hv : LM ss ds ch v k) : Calls Tryz.prog 16 #[.agg #[.slice S n c, .slice D m d, .int .i64 ch]] w fun ee w' => ee = .returned (.tuple #[.int .i64 v, .int .i64 k]) ∧ Below w.heap.size w w' := by
  have H1 := fun W (hB : Below w.heap.size w W) => sIsC_any S n c ss D m d ds ch W ((hS.below hB).more hB.size) ((hD.below hB).more hB.size) (by omega) (by omega)
  have BB := Lib.hid (Blk.new w 26 #[.slice S n c, .slice D m d, .int .i64 ch])
  have hB : Below w.heap.size w (w.alloc (.cells #[.slice S n c, .slice D m d, .int .i64 ch] 26)) := al_ _ _
  have hl1 := hS.len
  have hl2 := hD.len
  unfold LM at hv
  rw [show (ds.length : Int) = (m : Int) by omega, show (ss.length : Int) = (n : Int) by omega] at hv
  have H2 := Lib.hid (fun W x (hB : Below w.heap.size w W) => has_any D m d ds x W ((hD.below hB).more hB.size) hm)
  clear hS hD
  rcases hv with ⟨hok, rfl, rfl⟩ | ⟨hok, hne, rfl, rfl⟩ | ⟨hok, hne, rfl, q, rfl, hq, hf⟩
  · rw [hok] at H1
    replace H1 := Lib.hid H1
    clear hok H2
    (try clear y0 y1 y2); obtain ⟨y0, y1, y2⟩ := c3_cells BB.out; have hlB := BB.out.lt
    go_enter Tryz.func16, Tryz.ntmps16
    go_wp2_with (go_at_call 23; (with_reducible refine Calls.mono (H1.out _ hB) ?_); rintro ee wz ⟨rfl, hb⟩; replace hB := bel_step hB hb; replace BB := Lib.hid (blk_later BB.out hb); clear hb; (try clear y0 y1 y2); obtain ⟨y0, y1, y2⟩ := c3_cells BB.out; have hlB := BB.out.lt)
    go_returns
    exact ⟨rfl, hB⟩
  · rw [hok] at H1
    replace H1 := Lib.hid H1
    clear hok H2
    have hq : (((n : Int) - (m : Int)) == 1) = false := by rw [beq_eq_false_iff_ne]; omega
    have q1 := IntWalk.i64_in ((n : Int) - (m : Int)) (by omega)
    clear hne
    (try clear y0 y1 y2); obtain ⟨y0, y1, y2⟩ := c3_cells BB.out; have hlB := BB.out.lt
    go_enter Tryz.func16, Tryz.ntmps16
    go_wp2_with (go_at_call 23; (with_reducible refine Calls.mono (H1.out _ hB) ?_); rintro ee wz ⟨rfl, hb⟩; replace hB := bel_step hB hb; replace BB := Lib.hid (blk_later BB.out hb); clear hb; (try clear y0 y1 y2); obtain ⟨y0, y1, y2⟩ := c3_cells BB.out; have hlB := BB.out.lt)
    go_returns
    exact ⟨rfl, hB⟩
  · rw [hok] at H1
    replace H1 := Lib.hid H1
    clear hok
    have hq2 : (((n : Int) - (m : Int)) != 1) = false := by rw [bne, beq_iff_eq.2 (by omega)]; rfl
    have q1 := IntWalk.i64_in ((n : Int) - (m : Int)) (by omega)
    replace hf := Lib.hid hf
    clear hne
    (try clear y0 y1 y2); obtain ⟨y0, y1, y2⟩ := c3_cells BB.out; have hlB := BB.out.lt
    go_enter Tryz.func16, Tryz.ntmps16
    go_wp2_with (go_at_call 23; (with_reducible refine Calls.mono (H1.out _ hB) ?_); rintro ee wz ⟨rfl, hb⟩; replace hB := bel_step hB hb; replace BB := Lib.hid (blk_later BB.out hb); clear hb; (try clear y0 y1 y2); obtain ⟨y0, y1, y2⟩ := c3_cells BB.out; have hlB := BB.out.lt)
    go_loopw [4] (fun i wr => ∃ j : Nat, i = .int .i64 j ∧ j ≤ q ∧ Hid (Blk wr w.heap.size 26 #[.slice S n c, .slice D m d, .int .i64 ch]) ∧ Below w.heap.size w wr) (fun i _ => q - (intOf i).toNat)
    case atStart => exact ⟨0, rfl, Nat.zero_le _, BB, hB⟩
    case round =>
      clear hB BB y0 y1 y2 hlB
      obtain ⟨j, rfl, hj, BB, hB⟩ := hrel
      (try clear y0 y1 y2); obtain ⟨y0, y1, y2⟩ := c3_cells BB.out; have hlB := BB.out.lt
      by_cases hlt : j < q
      · have H3 := H2.out wr (j : Int) hB
        rw [hf.out.2 j hlt] at H3
        replace H3 := Lib.hid H3
        go_wp2_with (go_at_call 24; (with_reducible refine Calls.mono H3.out ?_); rintro ee wq ⟨rfl, rfl⟩)
        go_roundw
        case rel => exact ⟨j + 1, by go_num, by omega, BB, hB⟩
        case measure => simp [intOf]; omega
      · obtain rfl : j = q := by omega
        have H3 := H2.out wr (j : Int) hB
        rw [hf.out.1] at H3
        replace H3 := Lib.hid H3
        go_wp2_with (go_at_call 24; (with_reducible refine Calls.mono H3.out ?_); rintro ee wq ⟨rfl, rfl⟩)
        go_returns
        exact ⟨rfl, hB⟩
end Go.Proofs.YtaikfclgmkfooaaGreatDoor
