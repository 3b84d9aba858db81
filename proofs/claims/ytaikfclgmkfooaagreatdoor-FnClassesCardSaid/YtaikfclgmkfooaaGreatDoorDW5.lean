/-
  Walks of ReadClass: the reference's side.
-/
import Derived.Test.YtaikfclgmkfooaaGreatDoorDW4
import Derived.Test.YtaikfclgmkfooaaGreatDoorC2
set_option linter.unusedSimpArgs false
set_option linter.unusedVariables false
namespace Go.Proofs.YtaikfclgmkfooaaGreatDoor
open Go Go.RowKit
/-- a class of the call's own, in two rows -/
def OwD (w : World) (base : Nat) (vs vd : Value) (ss ds : List Int) : Prop := OwI w base vs ss ∧ OwI w base vd ds ∧ ∀ q p, vs.ownBlock = some q → vd.ownBlock = some p → q ≠ p
theorem OwD.later {w w' : World} {base : Nat} {vs vd : Value} {ss ds : List Int} (h : OwD w base vs vd ss ds) (hb : Below w.heap.size w w') : OwD w' base vs vd ss ds := ⟨h.1.later hb, h.2.1.later hb, h.2.2⟩
theorem OwD.mono {w : World} {base base' : Nat} {vs vd : Value} {ss ds : List Int} (h : OwD w base vs vd ss ds) (hb : base' ≤ base) : OwD w base' vs vd ss ds := ⟨h.1.mono hb, h.2.1.mono hb, h.2.2⟩
theorem OwD.nil {w : World} {base : Nat} : OwD w base (.slice none 0 0) (.slice none 0 0) [] [] := ⟨World.ownsRow_nil _ _ _ _, World.ownsRow_nil _ _ _ _, fun q p e => by cases e⟩
theorem OwD.off {w w' : World} {base p : Nat} {vs vd : Value} {ss ds : List Int} (h : OwD w base vs vd ss ds) (hg : w.grownBy w' (some p)) (h1 : ∀ q, vs.ownBlock = some q → q ≠ p) (h2 : ∀ q, vd.ownBlock = some q → q ≠ p) : OwD w' base vs vd ss ds := ⟨h.1.off hg h1, h.2.1.off hg h2, h.2.2⟩
theorem OwD.store {w : World} {base : Nat} {vs vd : Value} {ss ds : List Int} (h : OwD w base vs vd ss ds) {p : Addr} (hp : p.block < base) (u : Value) : OwD (w.setCell p u) base vs vd ss ds :=
  h.off (grownBy_one w p u) (fun q e => by have := own_rowI h.1 q e; omega) (fun q e => by have := own_rowI h.2.1 q e; omega)
theorem OwD.rdS {w : World} {base : Nat} {S D : Option Addr} {n c m d : Nat} {ss ds : List Int} (h : OwD w base (.slice S n c) (.slice D m d) ss ds) : (n = ss.length ∧ m = ds.length) ∧ RdI w w.heap.size S n ss ∧ RdI w w.heap.size D m ds := ⟨⟨h.1.rd.1, h.2.1.rd.1⟩, h.1.rd.2, h.2.1.rd.2⟩
theorem OwD.rows {w : World} {base : Nat} {vs vd : Value} {ss ds : List Int} (h : OwD w base vs vd ss ds) : (∀ q, vs.ownBlock = some q → base ≤ q ∧ q < w.heap.size) ∧ ∀ q, vd.ownBlock = some q → base ≤ q ∧ q < w.heap.size := ⟨own_rowI h.1, own_rowI h.2.1⟩
/-- what reading gives: a class with code 0, or none with code 6 -/
def rcT : Option (List Int × List Int × Int) → List Int × List Int × Int × Int
  | some c => (c.1, c.2.1, c.2.2, 0)
  | none => ([], [], 0, 6)
def RcP (t : List Int × List Int × Int × Int) (w w' : World) (e : Ending) : Prop := Below w.heap.size w w' ∧ ∃ S n c D m d, e = .returned (.tuple #[.agg #[.slice S n c, .slice D m d, .int .i64 t.2.2.1], .int .i64 t.2.2.2]) ∧ OwD w' w.heap.size (.slice S n c) (.slice D m d) t.1 t.2.1
theorem RcP.no {t : List Int × List Int × Int × Int} {w w' : World} (ht : t = ([], [], 0, 6)) (hb : Below w.heap.size w w') : RcP t w w' (.returned (.tuple #[.agg #[.slice none 0 0, .slice none 0 0, .int .i64 0], .int .i64 6])) := by
  subst ht
  exact ⟨hb, none, 0, 0, none, 0, 0, rfl, OwD.nil⟩
theorem deadOf_app : ∀ (l : List Int) (b : Nat) (x : Int), deadOf b (l ++ [x]) = deadOf b l ++ (if x < 0 then [((b + l.length : Nat) : Int)] else [])
  | [], b, x => by
    simp only [List.nil_append, deadOf, List.length_nil, Nat.add_zero]
  | y :: r, b, x => by
    have ih := deadOf_app r (b + 1) x
    simp only [List.cons_append, deadOf, List.length_cons]
    rw [ih, show b + 1 + r.length = b + (r.length + 1) by omega]
    split <;> rfl
theorem deadOf_len : ∀ (l : List Int) (b : Nat), (deadOf b l).length ≤ l.length
  | [], _ => Nat.le_refl _
  | x :: r, b => by
    have := deadOf_len r (b + 1)
    unfold deadOf
    split <;> simp <;> omega
theorem take_app {r : List Int} {j : Nat} {x : Int} (h : r[j]? = some x) : r.take (j + 1) = r.take j ++ [x] := by rw [List.take_add_one, h]; rfl
theorem deadOf_take {r : List Int} {j : Nat} {x : Int} (h : r[j]? = some x) : deadOf 0 (r.take (j + 1)) = deadOf 0 (r.take j) ++ (if x < 0 then [(j : Int)] else []) := by
  have hj : j < r.length := (List.getElem?_eq_some_iff.1 h).1
  rw [take_app h, deadOf_app, List.length_take, Nat.zero_add, Nat.min_eq_left (by omega)]
theorem shS_take {r : List Int} {j : Nat} {x : Int} (h : r[j]? = some x) : shS (r.take (j + 1)) = shS (r.take j) ++ [if x < 0 then -x else x] := by rw [take_app h]; unfold shS; rw [List.map_append]; rfl
theorem shS_max {r : List Int} {j : Nat} {x : Int} (h : r[j]? = some x) : shS (r.take (j + 1)) = shS (r.take j) ++ [max x (-x)] := by
  rw [shS_take h]
  congr 2
  split <;> omega
theorem shI_take {r : List Int} {j : Nat} {x : Int} (h : r[j]? = some x) : shI (r.take (j + 1)) = shI (r.take j) ++ [if x < 0 then IntKind.i64.wrap (-x) else x] := by rw [take_app h]; unfold shI; rw [List.map_append]; rfl
theorem nums_ne {f : List UInt8 → Option Int} {l : List UInt8} {ns : List Int} (h : nums f (spl l) = some ns) : ∃ n r, ns = n :: r := by
  have h1 := nums_len _ _ h
  cases ns with
  | nil => exact absurd (List.eq_nil_of_length_eq_zero h1.symm) (spl_ne l)
  | cons n r => exact ⟨n, r, rfl⟩
theorem bts_len (ws : List ByteArray) : (bts ws).length = ws.length := by simp [bts]
theorem spl_len : ∀ l : List UInt8, (spl l).length ≤ l.length + 1
  | [] => by simp [spl]
  | c :: r => by
    have ih := spl_len r
    unfold spl
    split
    · simp; omega
    · split
      · simp
      · next h t e => rw [e] at ih; simp at ih ⊢; omega
set_option maxHeartbeats 4000000 in
set_option maxRecDepth 100000 in
theorem sRead_any (s : ByteArray) (w : World) (hs : s.size ≤ 1048576) : Calls Tryz.prog 10 #[.string s] w fun e w' => RcP (rcT (rdS s.data.toList)) w w' e := by
  have H1 := Lib.hid (fun W => split_any s W hs)
  have hwl := spl_len s.data.toList
  rw [size_list] at hwl
  have HWL := Lib.hid hwl
  have BR := Lib.hid (Blk.new w 26 #[.slice none 0 0, .slice none 0 0, .int .i64 0])
  have hB : Below w.heap.size w (w.alloc (.cells #[.slice none 0 0, .slice none 0 0, .int .i64 0] 26)) := al_ _ _
  obtain ⟨L, hL⟩ : ∃ L, L = s.data.toList := ⟨_, rfl⟩
  rw [← hL] at HWL ⊢
  replace hL := Lib.hid hL
  go_enter Tryz.func10, Tryz.ntmps10
  go_wp2_with (first | (go_at_call 31; (with_reducible refine Calls.mono (H1.out _) ?_); rintro ee w1 ⟨hb, A, n, c, ws, rfl, ho, hw, hz⟩; have O1 := Lib.hid ho; have HW := Lib.hid hw; have HZ := Lib.hid hz; clear ho hw hz; replace hB := bel_step hB hb; replace BR := Lib.hid (blk_later BR.out hb); (try clear x0 x1 x2 y0 y1 y2); obtain ⟨⟨x0, x1, x2⟩, y0, y1, y2⟩ := r3_cells BR.out; have hlR := BR.out.lt; clear hb; refine Hid.out ?_))
  obtain rfl : n = ws.length := O1.out.rd.1
  have H2 := Lib.hid (numbers_any A ws.length c ws w1 O1.out.rd.2 (by have := HWL.out; rw [hL.out, ← HW.out, bts_len] at this; omega) (fun x hx => by have := HZ.out x hx; omega))
  rw [HW.out, ← hL.out] at H2
  refine Lib.hid ?_
  go_wp2_with (first | (go_at_call 30; (with_reducible refine Calls.mono H2.out ?_); rintro ee w2 ⟨hb, A2, n2, c2, b, rfl, ht, hf⟩; replace hB := bel_step hB hb; replace BR := Lib.hid (blk_later BR.out hb); (try clear x0 x1 x2 y0 y1 y2); obtain ⟨⟨x0, x1, x2⟩, y0, y1, y2⟩ := r3_cells BR.out; have hlR := BR.out.lt; clear hb; refine Hid.out ?_))
  refine Lib.hid ?_
  clear O1 HZ HW H2 H1
  cases b with
  | false =>
    have HQ : Hid (rdS L = none) := Lib.hid (by unfold rdS; rw [hf rfl])
    clear ht hf
    go_wp2
    (try simp only [Exit.inBlock, Exit.then]); refine bodyPost_ret (v := .tuple #[.agg #[.slice none 0 0, .slice none 0 0, .int .i64 0], .int .i64 6]) (by simp [results, Tryz.results10, go_sem, x0, x1, x2, hlR]; done) rfl ?_
    exact RcP.no (by rw [HQ.out]; rfl) (by go_grown)
  | true =>
    obtain ⟨ns, hns, ho⟩ := ht rfl
    obtain ⟨v0, r, rfl⟩ := nums_ne hns
    have O2 := Lib.hid ho
    have HNS := Lib.hid hns
    have HV := Lib.hid (nums_sgn _ _ hns).2
    clear ht hf ho hns
    obtain rfl : n2 = r.length + 1 := by have := O2.out.rd.1; simpa using this
    obtain ⟨ad, z, rfl, hbz, hz, hc⟩ := RdI.atI O2.out.rd.2 (show 0 < r.length + 1 by omega)
    obtain rfl : v0 = z := by simpa using hz
    rw [add_zero'] at hc
    clear hz
    have hG : w2.heap.size < w2.heap.size + 1 + 1 := by omega
    have O3 : Hid (OwD (((w2.alloc (.cells #[] 2)).alloc (.cells #[] 2)).alloc (.cells #[.slice (some ⟨w2.heap.size, 0, none⟩) 0 0, .slice (some ⟨w2.heap.size + 1, 0, none⟩) 0 0, .int .i64 v0] 26)) w2.heap.size (.slice (some ⟨w2.heap.size, 0, none⟩) 0 0) (.slice (some ⟨w2.heap.size + 1, 0, none⟩) 0 0) [] []) := Lib.hid ⟨((ownEmpty w2 _ (Nat.le_refl _)).alloc _).alloc _, (by have h := ownEmpty (w2.alloc (.cells #[] 2)) w2.heap.size (by simp); rw [World.size_alloc] at h; exact h.alloc _), fun q p e1 e2 => by simp only [Value.ownBlock, Option.some.injEq] at e1 e2; omega⟩
    have B3 : Hid (Blk (((w2.alloc (.cells #[] 2)).alloc (.cells #[] 2)).alloc (.cells #[.slice (some ⟨w2.heap.size, 0, none⟩) 0 0, .slice (some ⟨w2.heap.size + 1, 0, none⟩) 0 0, .int .i64 v0] 26)) (w2.heap.size + 1 + 1) 26 #[.slice (some ⟨w2.heap.size, 0, none⟩) 0 0, .slice (some ⟨w2.heap.size + 1, 0, none⟩) 0 0, .int .i64 v0]) := Lib.hid (by have h := Blk.new ((w2.alloc (.cells #[] 2)).alloc (.cells #[] 2)) 26 #[.slice (some ⟨w2.heap.size, 0, none⟩) 0 0, .slice (some ⟨w2.heap.size + 1, 0, none⟩) 0 0, .int .i64 v0]; simp only [World.size_alloc] at h; exact h)
    have hb3 : Below w2.heap.size w2 (((w2.alloc (.cells #[] 2)).alloc (.cells #[] 2)).alloc (.cells #[.slice (some ⟨w2.heap.size, 0, none⟩) 0 0, .slice (some ⟨w2.heap.size + 1, 0, none⟩) 0 0, .int .i64 v0] 26)) := ((al_ w2 _).alloc (by simp) _).alloc (by simp; omega) _
    have HRr := Lib.hid (fun W (hb : Below w2.heap.size w2 W) => (O2.out.rd.2.below hb).more hb.size)
    have HBR := Lib.hid (fun W (hb : Below w2.heap.size w2 W) => blk_later BR.out hb)
    have HBB := Lib.hid (fun W (hb : Below w2.heap.size w2 W) => bel_step hB hb)
    have hrl : r.length ≤ 1048576 := by have h1 := nums_len _ _ HNS.out; have h2 := HWL.out; simp at h1; omega
    go_wp2
    go_loopw [7] (fun i wr => ∃ (k : Nat) (S : Option Addr) (n c : Nat) (D : Option Addr) (m d : Nat), i = .int .i64 k ∧ 1 ≤ k ∧ k ≤ r.length + 1 ∧ Below w2.heap.size w2 wr ∧ Hid (Blk wr (w2.heap.size + 1 + 1) 26 #[.slice S n c, .slice D m d, .int .i64 v0]) ∧ Hid (OwD wr w2.heap.size (.slice S n c) (.slice D m d) (shS (r.take (k - 1))) (deadOf 0 (r.take (k - 1)))) ∧ Hid ((∀ q, (Value.slice S n c).ownBlock = some q → q ≠ (w2.heap.size + 1 + 1)) ∧ ∀ q, (Value.slice D m d).ownBlock = some q → q ≠ (w2.heap.size + 1 + 1))) (fun i _ => r.length + 1 - (intOf i).toNat)
    case atStart => exact ⟨1, _, _, _, _, _, _, rfl, Nat.le_refl _, by omega, hb3, B3, by simpa [shS, deadOf] using O3, Lib.hid ⟨fun q e => by simp only [Value.ownBlock, Option.some.injEq] at e; omega, fun q e => by simp only [Value.ownBlock, Option.some.injEq] at e; omega⟩⟩
    case round =>
      clear hb3 B3 O3
      obtain ⟨k, S, n, c, D, m, d, rfl, hk1, hk, hb, BC, OC, hq⟩ := hrel
      obtain ⟨⟨o0, o1, o2⟩, p0, p1, p2⟩ := r3_cells BC.out
      have hlC := BC.out.lt
      by_cases hlt : k < r.length + 1
      · obtain ⟨_, x, e1, hbx, hx, hcx⟩ := RdI.atI (HRr.out wr hb) hlt
        cases e1
        obtain ⟨j, hj⟩ : ∃ j, j = k - 1 := ⟨_, rfl⟩
        have hx2 : Hid (r[j]? = some x) := Lib.hid (by rw [show k = j + 1 by omega] at hx; simpa using hx)
        have hxb := HV.out x (List.mem_of_getElem? hx)
        rw [← hj] at OC
        replace hj := Lib.hid hj
        clear hx
        have qn := IntWalk.i64_in (-x) (by omega)
        have qk := IntWalk.i64_in ((k : Int) - 1) (by omega)
        have HS8 : Hid (∀ W', Below wr.heap.size wr W' → (W'.cell? ⟨(w2.heap.size + 1 + 1), 0, none⟩ = some (.slice S n c) ∧ W'.cell? (ad.add k) = some (.int .i64 x))) := Lib.hid (fun W' hb => ⟨keepC hb o0, keepC hb hcx⟩)
        have hbl : (ad.add k).block < wr.heap.size := by rw [block_of_add]; exact hbx
        go_wp2
        refine wp_region_D 15 (fun W' => W'.cell? ⟨(w2.heap.size + 1 + 1), 0, none⟩ = some (.slice S n c) ∧ W'.cell? (ad.add k) = some (.int .i64 x)) (by kernel_rfl) ?_
        have hS0 := HS8.out _ (Below.refl _ _).drew
        refine wpAnyD_take (i := 0) (v := ?_) rfl (by kernel_rfl) (fun _ _ _ h => h) (Or.inl ⟨by rfl, ?_⟩) (by assumption) ?_; rotate_left; (intro w' hSw; (try dsimp only at hSw); go_simp; with_reducible rfl); (try simp only [List.getElem_toArray, List.getElem_cons_zero, List.getElem_cons_succ]); (try simp only [Act.put, List.setIfInBounds_toArray, List.set_cons_zero, List.set_cons_succ])
        refine wpAnyD_take (i := 1) (v := ?_) rfl (by kernel_rfl) (fun _ _ _ h => h) (Or.inl ⟨by rfl, ?_⟩) (by assumption) ?_; rotate_left; (intro w' hSw; (try dsimp only at hSw); go_simp; with_reducible rfl); (try simp only [List.getElem_toArray, List.getElem_cons_zero, List.getElem_cons_succ]); (try simp only [Act.put, List.setIfInBounds_toArray, List.set_cons_zero, List.set_cons_succ])
        refine wpAnyD_take (i := 2) (v := ?_) rfl (by kernel_rfl) (fun _ _ _ h => h) (Or.inl ⟨by rfl, ?_⟩) (by assumption) ?_; rotate_left; (intro w' hSw; (try dsimp only at hSw); go_simp; with_reducible rfl); (try simp only [List.getElem_toArray, List.getElem_cons_zero, List.getElem_cons_succ]); (try simp only [Act.put, List.setIfInBounds_toArray, List.set_cons_zero, List.set_cons_succ])
        refine wpAnyD_take (i := 3) (v := ?_) rfl (by kernel_rfl) (fun _ _ _ h => h) (Or.inl ⟨by rfl, ?_⟩) (by assumption) ?_; rotate_left; (intro w' hSw; (try dsimp only at hSw); go_simp; with_reducible rfl); (try simp only [List.getElem_toArray, List.getElem_cons_zero, List.getElem_cons_succ]); (try simp only [Act.put, List.setIfInBounds_toArray, List.set_cons_zero, List.set_cons_succ])
        refine wpAnyD_take (i := 4) (v := ?_) rfl (by kernel_rfl) (fun _ _ _ h => h) (Or.inl ⟨by rfl, ?_⟩) (by assumption) ?_; rotate_left; (intro w' hSw; (try dsimp only at hSw); go_simp; with_reducible rfl); (try simp only [List.getElem_toArray, List.getElem_cons_zero, List.getElem_cons_succ]); (try simp only [Act.put, List.setIfInBounds_toArray, List.set_cons_zero, List.set_cons_succ])
        refine wpAnyD_take (i := 5) (v := ?_) rfl (by kernel_rfl) (fun _ _ _ h => h) (Or.inl ⟨by rfl, ?_⟩) (by assumption) ?_; rotate_left; (intro w' hSw; (try dsimp only at hSw); go_simp; with_reducible rfl); (try simp only [List.getElem_toArray, List.getElem_cons_zero, List.getElem_cons_succ]); (try simp only [Act.put, List.setIfInBounds_toArray, List.set_cons_zero, List.set_cons_succ])
        refine wpAnyD_take (i := 6) (v := ?_) rfl (by kernel_rfl) (fun _ _ _ h => h) (Or.inl ⟨by rfl, ?_⟩) (by assumption) ?_; rotate_left; (intro w' hSw; (try dsimp only at hSw); go_simp; with_reducible rfl); (try simp only [List.getElem_toArray, List.getElem_cons_zero, List.getElem_cons_succ]); (try simp only [Act.put, List.setIfInBounds_toArray, List.set_cons_zero, List.set_cons_succ])
        refine wpAnyD_take (i := 7) (v := ?_) rfl (by kernel_rfl) (fun _ _ _ h => h) (Or.inl ⟨by rfl, ?_⟩) (by assumption) ?_; rotate_left; (intro w' hSw; (try dsimp only at hSw); go_simp; with_reducible rfl); (try simp only [List.getElem_toArray, List.getElem_cons_zero, List.getElem_cons_succ]); (try simp only [Act.put, List.setIfInBounds_toArray, List.set_cons_zero, List.set_cons_succ])
        refine wpAnyD_take (i := 8) (v := ?_) rfl (by kernel_rfl) (fun _ _ _ h => h) (Or.inl ⟨by rfl, ?_⟩) (by assumption) ?_; rotate_left; (intro w' hSw; (try dsimp only at hSw); go_simp; with_reducible rfl); (try simp only [List.getElem_toArray, List.getElem_cons_zero, List.getElem_cons_succ]); (try simp only [Act.put, List.setIfInBounds_toArray, List.set_cons_zero, List.set_cons_succ])
        refine wpAnyD_take (i := 9) (v := ?_) rfl (by kernel_rfl) (fun _ _ _ h => h) (Or.inl ⟨by rfl, ?_⟩) (by assumption) ?_; rotate_left; (intro w' hSw; (try dsimp only at hSw); go_simp; with_reducible rfl); (try simp only [List.getElem_toArray, List.getElem_cons_zero, List.getElem_cons_succ]); (try simp only [Act.put, List.setIfInBounds_toArray, List.set_cons_zero, List.set_cons_succ])
        refine wpAnyD_take (i := 10) (v := ?_) rfl (by kernel_rfl) (fun _ _ _ h => h) (Or.inl ⟨by rfl, ?_⟩) (by assumption) ?_; rotate_left; (intro w' hSw; (try dsimp only at hSw); go_simp; with_reducible rfl); (try simp only [List.getElem_toArray, List.getElem_cons_zero, List.getElem_cons_succ]); (try simp only [Act.put, List.setIfInBounds_toArray, List.set_cons_zero, List.set_cons_succ])
        refine wpAnyD_take (i := 11) (v := ?_) rfl (by kernel_rfl) (fun _ _ _ h => h) (Or.inl ⟨by rfl, ?_⟩) (by assumption) ?_; rotate_left; (intro w' hSw; (try dsimp only at hSw); go_simp; with_reducible rfl); (try simp only [List.getElem_toArray, List.getElem_cons_zero, List.getElem_cons_succ]); (try simp only [Act.put, List.setIfInBounds_toArray, List.set_cons_zero, List.set_cons_succ])
        refine wpAnyD_one (i := 12) rfl (by kernel_rfl) (fun K hK => ?_)
        go_simp
        have hba := al_ wr (.cells #[.int .i64 (max x (-x))] 2)
        have lit : (wr.alloc (.cells #[.int .i64 (max x (-x))] 2)).drew.cell? ⟨wr.heap.size, 0, none⟩ = some (.int .i64 (max x (-x))) := (Blk.new wr 2 #[.int .i64 (max x (-x))]).cell 0
        have hS9 := HS8.out _ hba.drew
        refine hK _ _ (fun _ => hS9) ?_; clear hK K; (try simp only [List.getElem_toArray, List.getElem_cons_zero, List.getElem_cons_succ]); (try simp only [Act.put, List.setIfInBounds_toArray, List.set_cons_zero, List.set_cons_succ])
        have OA := Lib.hid ((OC.out.later hba).later (Below.refl _ _).drew)
        have BA := Lib.hid (blk_later BC.out hba.drew)
        have hlA := BA.out.lt
        have hb9 : Below w2.heap.size w2 (wr.alloc (.cells #[.int .i64 (max x (-x))] 2)).drew := bel_at hb hba.drew hb.size
        generalize (wr.alloc (.cells #[.int .i64 (max x (-x))] 2)).drew = wv at *
        refine wpAnyD_one (i := 13) rfl (by kernel_rfl) (fun K hK => ?_)
        refine step_app_intM (by rfl) _ _ (by rfl) w2.heap.size (shS (r.take j)) _ (by rfl) OA.out.1 ⟨wr.heap.size, 0, none⟩ (max x (-x)) 1 (by rfl) lit (by unfold shS; rw [List.length_map, List.length_take]; omega) hb9.size ?_
        intro A9 m9 c9 w9 ho9 hg9 hq9
        have rwS := own_rowI OA.out.1
        have rwD := own_rowI OA.out.2.1
        have B9 := Lib.hid (BA.out.grown hg9 (fun e => hq.out.1 _ e.symm rfl))
        have hS10 : w9.cell? ⟨(w2.heap.size + 1 + 1), 0, none⟩ = some (.slice S n c) ∧ w9.cell? (ad.add k) = some (.int .i64 x) := ⟨B9.out.cell 0, (World.cell?_of_block (hg9.block _ (by rw [block_of_add]; have := hb9.size; omega) (fun e => by have := rwS _ e.symm; rw [block_of_add] at this; omega))).trans hS9.2⟩
        have hb10 : Below w2.heap.size w2 w9 := hb9.grown hg9 hb9.size (fun q e => (rwS q e).1)
        have O9 : Hid (OwD w9 w2.heap.size (.slice A9 m9 c9) (.slice D m d) (shS (r.take (j + 1))) (deadOf 0 (r.take j))) := Lib.hid ⟨by rw [shS_max hx2.out]; exact ho9, OA.out.2.1.other hg9 (fun q e e2 => OA.out.2.2 q q e2 e rfl), fun q p e1 e2 => by rcases hq9 q e1 with h | h; exact OA.out.2.2 q p h e2; have := (rwD p e2).2; omega⟩
        have hq10 : Hid (∀ q, (Value.slice A9 m9 c9).ownBlock = some q → q ≠ (w2.heap.size + 1 + 1)) := Lib.hid (fun q e => by rcases hq9 q e with h | h; exact hq.out.1 q h; omega)
        clear ho9 hg9 hq9 lit hS0 hS9 BA OA hlA rwS rwD hba
        refine hK _ _ (fun _ => hS10) ?_; clear hK K; (try simp only [List.getElem_toArray, List.getElem_cons_zero, List.getElem_cons_succ]); (try simp only [Act.put, List.setIfInBounds_toArray, List.set_cons_zero, List.set_cons_succ])
        refine wpAnyD_take (i := 14) (v := ?_) rfl (by kernel_rfl) (fun _ _ _ h => h) (Or.inl ⟨by rfl, ?_⟩) (by assumption) ?_; rotate_left; (intro w' hSw; (try dsimp only at hSw); go_simp; with_reducible rfl); (try simp only [List.getElem_toArray, List.getElem_cons_zero, List.getElem_cons_succ]); (try simp only [Act.put, List.setIfInBounds_toArray, List.set_cons_zero, List.set_cons_succ])
        obtain ⟨⟨o0', o1', o2'⟩, p0', p1', p2'⟩ := r3_cells B9.out
        have hl9 := B9.out.lt
        refine wpAnyD_one (i := 15) rfl (by kernel_rfl) (fun K hK => ?_)
        go_simp
        refine hK _ _ (fun h => absurd rfl h) ?_
        clear hK K
        refine wpAnyD_done (by kernel_rfl) ?_ _
        have hb11 := hb10.setCell (p := ⟨(w2.heap.size + 1 + 1), 0, none⟩) (by show w2.heap.size ≤ (w2.heap.size + 1 + 1); omega) (.slice A9 m9 c9)
        have B11 : Hid (Blk (w9.setCell ⟨(w2.heap.size + 1 + 1), 0, none⟩ (.slice A9 m9 c9)) (w2.heap.size + 1 + 1) 26 #[.slice A9 m9 c9, .slice D m d, .int .i64 v0]) := Lib.hid (B9.out.set_ 0 _)
        have O11 := Lib.hid (O9.out.off (grownBy_one w9 ⟨(w2.heap.size + 1 + 1), 0, none⟩ (.slice A9 m9 c9)) hq10.out hq.out.2)
        have hc11 : (w9.setCell ⟨(w2.heap.size + 1 + 1), 0, none⟩ (.slice A9 m9 c9)).cell? (ad.add k) = some (.int .i64 x) := (World.cell?_setCell_other w9 _ _ _ (fun e => by have h1 := congrArg Addr.block e; rw [block_of_add] at h1; have h2 : ad.block = (w2.heap.size + 1 + 1) := h1.symm; omega)).trans hS10.2
        clear B9 O9 hb10 hS10 o0' o1' o2' p0' p1' p2' hl9 hb9
        generalize w9.setCell ⟨(w2.heap.size + 1 + 1), 0, none⟩ (.slice A9 m9 c9) = w11 at *
        obtain ⟨⟨o0', o1', o2'⟩, p0', p1', p2'⟩ := r3_cells B11.out
        have hl11 := B11.out.lt
        by_cases hneg : x < 0
        · have HDe : Hid (deadOf 0 (r.take (j + 1)) = deadOf 0 (r.take j) ++ [(k : Int) - 1]) := Lib.hid (by rw [deadOf_take hx2.out, if_pos hneg]; congr 2; have := hj.out; omega)
          go_wp2_with (at_builtin; refine wpl_app_intM rfl _ _ rfl w2.heap.size (deadOf 0 (r.take j)) _ (by rfl) (O11.out.2.1.later (al_ _ _)) _ _ 1 (by rfl) ((Blk.new _ _ _).cell 0) (by have h1 := deadOf_len (r.take j) 0; rw [List.length_take] at h1; omega) (by have := hb11.size; simp; omega) ?_; intro A3 m3 c3 w3 ho3 hg3 hq3; refine Hid.out ?_)
          have rwS := own_rowI O11.out.1
          have rwD := own_rowI O11.out.2.1
          have B12 := Lib.hid ((B11.out.alloc _).grown hg3 (fun e => hq.out.2 _ e.symm rfl))
          have hb12 := (hb11.alloc hb11.size (.cells #[.int .i64 ((k : Int) - 1)] 2)).grown hg3 (by have := hb11.size; simp; omega) (fun q e => (rwD q e).1)
          have O12 : Hid (OwD w3 w2.heap.size (.slice A9 m9 c9) (.slice A3 m3 c3) (shS (r.take (j + 1))) (deadOf 0 (r.take (j + 1)))) := Lib.hid ⟨(O11.out.1.alloc _).other hg3 (fun q e e2 => O11.out.2.2 q q e e2 rfl), by rw [HDe.out]; exact ho3, fun q p e1 e2 => by rcases hq3 p e2 with h | h; exact O11.out.2.2 q p e1 h; have := (rwS q e1).2; rw [World.size_alloc] at h; omega⟩
          have hq12 : Hid (∀ q, (Value.slice A3 m3 c3).ownBlock = some q → q ≠ (w2.heap.size + 1 + 1)) := Lib.hid (fun q e => by rcases hq3 q e with h | h; exact hq.out.2 q h; rw [World.size_alloc] at h; omega)
          clear ho3 hg3 hq3 rwS rwD o0' o1' o2' p0' p1' p2' hl11 hc11
          obtain ⟨⟨o0', o1', o2'⟩, p0', p1', p2'⟩ := r3_cells B12.out
          have hl12 := B12.out.lt
          refine Lib.hid ?_
          go_wp2
          go_roundw
          case rel => exact ⟨k + 1, A9, m9, c9, A3, m3, c3, by go_num, by omega, by omega, hb12.setCell (p := ⟨(w2.heap.size + 1 + 1), 1, none⟩) (by show w2.heap.size ≤ (w2.heap.size + 1 + 1); omega) _, B12.out.set_ 1 _, by rw [show k + 1 - 1 = j + 1 by have := hj.out; omega]; exact O12.out.off (grownBy_one w3 ⟨(w2.heap.size + 1 + 1), 1, none⟩ _) hq10.out hq12.out, Lib.hid ⟨hq10.out, hq12.out⟩⟩
          case measure => simp [intOf]; omega
        · have HDe : Hid (deadOf 0 (r.take (j + 1)) = deadOf 0 (r.take j)) := Lib.hid (by rw [deadOf_take hx2.out, if_neg hneg, List.append_nil])
          go_wp2
          go_roundw
          case rel => exact ⟨k + 1, _, _, _, _, _, _, by go_num, by omega, by omega, hb11, B11, by rw [show k + 1 - 1 = j + 1 by have := hj.out; omega, HDe.out]; exact O11, Lib.hid ⟨hq10.out, hq.out.2⟩⟩
          case measure => simp [intOf]; omega
      · obtain rfl : k = r.length + 1 := by omega
        rw [Nat.add_sub_cancel, List.take_of_length_le (Nat.le_refl _)] at OC
        have hcp := OC.out.rdS
        have hsl : (shS r).length = r.length := by simp [shS]
        have hdl := deadOf_len r 0
        have HC := Lib.hid (sIsC_any S n c (shS r) D m d (deadOf 0 r) v0 wr hcp.2.1 hcp.2.2 (by omega) (by omega))
        have HE : Hid (rdS L = if okC (shS r) (deadOf 0 r) v0 = true then some (shS r, deadOf 0 r, v0) else none) := Lib.hid (by unfold rdS; rw [HNS.out])
        have hB' := HBB.out wr hb
        have BR' := Lib.hid (HBR.out wr hb)
        clear hcp hsl hdl HRr HBR HBB
        generalize okC (shS r) (deadOf 0 r) v0 = ok at *
        go_wp2_with (go_at_call 23; (with_reducible refine Calls.mono HC.out ?_); rintro ee w4 ⟨rfl, hb4⟩; refine Hid.out ?_)
        replace BC := Lib.hid (blk_later BC.out hb4)
        replace OC := Lib.hid (OC.out.later hb4)
        replace BR' := Lib.hid (blk_later BR'.out hb4)
        replace hB' := bel_step hB' hb4
        clear o0 o1 o2 p0 p1 p2 x0 x1 x2 y0 y1 y2
        obtain ⟨⟨o0, o1, o2⟩, p0, p1, p2⟩ := r3_cells BC.out
        obtain ⟨⟨x0, x1, x2⟩, y0, y1, y2⟩ := r3_cells BR'.out
        have hlw := hlR
        clear hlR
        have hlR := BR'.out.lt
        have hlC2 := BC.out.lt
        refine Lib.hid ?_
        cases ok with
        | false =>
          have HQ : Hid (rdS L = none) := Lib.hid (by rw [HE.out]; rfl)
          go_wp2
          (try simp only [Exit.inBlock, Exit.then]); refine bodyPost_ret (v := .tuple #[.agg #[.slice none 0 0, .slice none 0 0, .int .i64 0], .int .i64 6]) (by simp [results, Tryz.results10, go_sem, x0, x1, x2, hlR]; done) rfl ?_
          exact RcP.no (by rw [HQ.out]; rfl) (by go_grown)
        | true =>
          have HQ : Hid (rdS L = some (shS r, deadOf 0 r, v0)) := Lib.hid (by rw [HE.out]; rfl)
          go_wp2
          (try simp only [Exit.inBlock, Exit.then]); refine bodyPost_ret (v := .tuple #[.agg #[.slice S n c, .slice D m d, .int .i64 v0], .int .i64 0]) (by simp [results, Tryz.results10, go_sem, x0, x1, x2, hlR]; done) rfl ?_
          rw [HQ.out]
          exact ⟨by go_grown, S, n, c, D, m, d, rfl, (((OC.out.store (by show w.heap.size < _; omega) _).store (by show w.heap.size < _; omega) _).store (by show w.heap.size < _; omega) _).mono (by omega)⟩
end Go.Proofs.YtaikfclgmkfooaaGreatDoor
