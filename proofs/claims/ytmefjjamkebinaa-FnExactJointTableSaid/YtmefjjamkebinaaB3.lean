/-
  Contracts of the joint table: the list of the products of the lives, up to the first that is nought.
-/
import Derived.Test.YtmefjjamkebinaaA3
import Derived.Test.YtmefjjamkebinaaOL
import Derived.Test.YtmefjjamkebinaaRT
set_option linter.unusedSimpArgs false
set_option linter.unusedVariables false
namespace Go.Proofs.Ytmefjjamkebinaa
open Go.RowKit
/-- the lives of both at the k-th time -/
def jt (f x : Int) (n : Nat) (xs : List Int) (g y : Int) (m : Nat) (ys : List Int) (k : Nat) : Int := lv f n xs (x + k) * lv g m ys (y + k) / lv g m ys y
theorem jt_bd {f x : Int} {n : Nat} {xs : List Int} {g y : Int} {m : Nat} {ys : List Int} (hT : okTP f n xs) (hU : okTP g m ys) (hx : f ≤ x) (hy : g ≤ y) (h1 : 1 ≤ lv g m ys y) (k : Nat) : 0 ≤ jt f x n xs g y m ys k ∧ jt f x n xs g y m ys k ≤ 1000000000000 := by
  have b1 := lv_bd hT (age := x + k) (by omega)
  have b2 := lv_bd hU (age := y + k) (by omega)
  have h2 : 0 ≤ lv f n xs (x + k) * lv g m ys (y + k) := Int.mul_nonneg b1.1 b2.1
  have h3 : lv f n xs (x + k) * lv g m ys (y + k) ≤ 1000000 * 1000000 := Int.mul_le_mul b1.2 b2.2 b2.1 (by omega)
  unfold jt
  exact ⟨Int.ediv_nonneg h2 (by omega), Int.le_trans (Int.ediv_le_self _ h2) (by omega)⟩
theorem jt_end {f x : Int} {n : Nat} {xs : List Int} {g y : Int} {m : Nat} {ys : List Int} (hx : f ≤ x) : jt f x n xs g y m ys n = 0 := by
  have h1 : lv f n xs (x + n) = 0 := if_neg (by omega)
  unfold jt
  rw [h1, Int.zero_mul, Int.zero_ediv]
theorem first0 (p : Nat → Bool) : ∀ T : Nat, p T = true → ∃ k, k ≤ T ∧ p k = true ∧ ∀ i, i < k → p i = false := by
  have h : ∀ T : Nat, (∀ i, i < T → p i = false) ∨ ∃ k, k < T ∧ p k = true ∧ ∀ i, i < k → p i = false := by
    intro T
    induction T with
    | zero => exact .inl (fun i hi => by omega)
    | succ T ih =>
      rcases ih with ih | ⟨k, h1, h2, h3⟩
      · cases hp : p T with
        | true => exact .inr ⟨T, by omega, hp, ih⟩
        | false => exact .inl (fun i hi => by rcases Nat.lt_or_ge i T with h | h; exact ih i h; (obtain rfl : i = T := by omega); exact hp)
      · exact .inr ⟨k, by omega, h2, h3⟩
  intro T hT
  rcases h T with h1 | ⟨k, h1, h2, h3⟩
  · exact ⟨T, Nat.le_refl _, hT, h1⟩
  · exact ⟨k, by omega, h2, h3⟩
/-- the place of the first nought -/
def JK (f x : Int) (n : Nat) (xs : List Int) (g y : Int) (m : Nat) (ys : List Int) (K : Nat) : Prop := K ≤ n ∧ jt f x n xs g y m ys K = 0 ∧ ∀ i, i < K → jt f x n xs g y m ys i ≠ 0
theorem jk_ex {f x : Int} {n : Nat} {xs : List Int} {g y : Int} {m : Nat} {ys : List Int} (hx : f ≤ x) : ∃ K, JK f x n xs g y m ys K := by
  obtain ⟨k, h1, h2, h3⟩ := first0 (fun k => decide (jt f x n xs g y m ys k = 0)) n (decide_eq_true (jt_end hx))
  exact ⟨k, h1, of_decide_eq_true h2, fun i hi => of_decide_eq_false (h3 i hi)⟩
def jtL (f x : Int) (n : Nat) (xs : List Int) (g y : Int) (m : Nat) (ys : List Int) (k : Nat) : List Int := (List.range k).map (jt f x n xs g y m ys)
theorem jtL_succ {f x : Int} {n : Nat} {xs : List Int} {g y : Int} {m : Nat} {ys : List Int} (k : Nat) : jtL f x n xs g y m ys (k + 1) = jtL f x n xs g y m ys k ++ [jt f x n xs g y m ys k] := by unfold jtL; rw [List.range_succ, List.map_append]; rfl
theorem jtL_len {f x : Int} {n : Nat} {xs : List Int} {g y : Int} {m : Nat} {ys : List Int} (k : Nat) : (jtL f x n xs g y m ys k).length = k := by unfold jtL; simp
theorem c2_cells {W : World} {t : TypeId} {g : Nat} {f : Int} {A : Option Addr} {n c : Nat} (h : Blk W g t #[.int .i64 f, .slice A n c]) : W.cell? ⟨g, 0, none⟩ = some (.int .i64 f) ∧ W.cell? ⟨g, 1, none⟩ = some (.slice A n c) ∧ W.frozen? ⟨g, 0, none⟩ = false ∧ W.frozen? ⟨g, 1, none⟩ = false := ⟨h.cell 0, h.cell 1, h.frozen 0, h.frozen 1⟩
set_option maxHeartbeats 4000000 in
theorem iJt_any (f x : Int) (A : Option Addr) (n c : Nat) (xs : List Int) (g y : Int) (B : Option Addr) (m d : Nat) (ys : List Int) (K : Nat) (w : World) (h : RdI w w.heap.size A n xs) (h' : RdI w w.heap.size B m ys) (hT : okTP f n xs) (hU : okTP g m ys) (hx : f ≤ x ∧ x ≤ 100) (hy : g ≤ y ∧ y ≤ 150) (h1 : 1 ≤ lv g m ys y) (hK : JK f x n xs g y m ys K) : Calls Try.prog 29 #[.agg #[.int .i64 f, .slice A n c], .int .i64 x, .agg #[.int .i64 g, .slice B m d], .int .i64 y] w fun e w' => ∃ A' m' c', e = .returned (.agg #[.int .i64 x, .slice A' m' c']) ∧ OwI w' w.heap.size (.slice A' m' c') (jtL f x n xs g y m ys (K + 1)) ∧ Below w.heap.size w w' := by
  obtain ⟨W0, hW0⟩ : ∃ W0 : World, W0 = (w.alloc (.cells #[.int .i64 f, .slice A n c] 26)).alloc (.cells #[.int .i64 g, .slice B m d] 26) := ⟨_, rfl⟩
  have hB0 : Below w.heap.size w W0 := by rw [hW0]; exact ((Below.refl _ _).alloc (Nat.le_refl _) _).alloc (by simp) _
  have hs0 : W0.heap.size = w.heap.size + 1 + 1 := by rw [hW0]; simp
  have c0 : W0.cell? ⟨w.heap.size, 0, none⟩ = some (.int .i64 f) := by rw [hW0]; simp [go_sem]
  have c1 : W0.cell? ⟨w.heap.size, 1, none⟩ = some (.slice A n c) := by rw [hW0]; simp [go_sem]
  have c2 : W0.cell? ⟨w.heap.size + 1, 0, none⟩ = some (.int .i64 g) := by rw [hW0]; simp [go_sem]
  have c3 : W0.cell? ⟨w.heap.size + 1, 1, none⟩ = some (.slice B m d) := by rw [hW0]; simp [go_sem]
  have hs1 : w.heap.size < W0.heap.size := by omega
  have hs2 : w.heap.size + 1 < W0.heap.size := by omega
  clear hs0
  have hs0 : W0.heap.size = w.heap.size + 1 + 1 := by rw [hW0]; simp
  go_enter Try.func29, Try.ntmps29
  go_wp2_with fail
  try rw [← hW0]
  go_loopw [10] (fun i wr => ∃ k : Nat, k ≤ K ∧ i = .int .i64 k ∧ Below W0.heap.size W0 wr ∧ Hid (Blk wr (w.heap.size + 1 + 1) 26 #[.int .i64 0, .slice none 0 0]) ∧ ∃ A' m' c', Hid (Blk wr (w.heap.size + 1 + 1 + 1) 26 #[.int .i64 x, .slice A' m' c']) ∧ Hid (OwI wr (w.heap.size + 1 + 1 + 1 + 1) (.slice A' m' c') (jtL f x n xs g y m ys k))) (fun i _ => K + 1 - (intOf i).toNat)
  case atStart => exact ⟨0, Nat.zero_le _, rfl, by go_grown, (by have := (Blk.new W0 26 #[.int .i64 0, .slice none 0 0]).alloc (.cells #[.int .i64 x, .slice none 0 0] 26); rw [hs0] at this; exact this), none, 0, 0, (by have := Blk.new (W0.alloc (.cells #[.int .i64 0, .slice none 0 0] 26)) 26 #[.int .i64 x, .slice none 0 0]; rw [World.size_alloc, hs0] at this; exact this), World.ownsRow_nil _ _ _ _⟩
  case round =>
    obtain ⟨k, hk, rfl, hR, HR, A', m', c', HO, HL⟩ := hrel
    have hbr := bel_step hB0 hR
    obtain ⟨rfl, _⟩ := HL.out.rd
    have hlen := jtL_len (f := f) (x := x) (n := n) (xs := xs) (g := g) (y := y) (m := m) (ys := ys) k
    rw [hlen] at *
    have hn1 := hT.2.1.2
    have hKn := hK.1
    have hf0 := hT.1
    have hg0 := hU.1
    have L1 := Lib.hid (fun W (hB : Below w.heap.size w W) => iLives_any f A n c xs (x + k) W ((h.below hB).more hB.size) hT.1 hT.2.1.2 ⟨by omega, by omega⟩)
    have L2 := Lib.hid (fun W (hB : Below w.heap.size w W) => iLives_any g B m d ys (y + k) W ((h'.below hB).more hB.size) hU.1 hU.2.1.2 ⟨by omega, by omega⟩)
    have L3 := Lib.hid (fun W (hB : Below w.heap.size w W) => iLives_any g B m d ys y W ((h'.below hB).more hB.size) hU.1 hU.2.1.2 ⟨by omega, by omega⟩)
    have b1 := lv_bd hT (age := x + k) (by omega)
    have b2 := lv_bd hU (age := y + k) (by omega)
    have m1 := mul_bd b1 b2
    have m2 := jt_bd (x := x) hT hU hx.1 hy.1 h1 k
    have hjt : Hid (lv f n xs (x + k) * lv g m ys (y + k) / lv g m ys y = jt f x n xs g y m ys k) := rfl
    have hcase : (k < K ∧ Hid (jt f x n xs g y m ys k ≠ 0)) ∨ (Hid (k = K) ∧ Hid (jt f x n xs g y m ys k = 0)) := by
      rcases Nat.lt_or_ge k K with hq | hq
      · exact .inl ⟨hq, hK.2.2 k hq⟩
      · obtain rfl : k = K := by omega
        exact .inr ⟨rfl, hK.2.1⟩
    have HS := Lib.hid (jtL_succ (f := f) (x := x) (n := n) (xs := xs) (g := g) (y := y) (m := m) (ys := ys) k)
    have q3 := IntWalk.i64_in (x + k) (by omega)
    have q4 := IntWalk.i64_in (y + k) (by omega)
    have q1 := IntWalk.i64_in (lv f n xs (x + k) * lv g m ys (y + k)) (by omega)
    have x0 := fun X : InC wr => X.cell (keepC hR c0)
    have x1 := fun X : InC wr => X.cell (keepC hR c1)
    have x2 := fun X : InC wr => X.cell (keepC hR c2)
    have x3 := fun X : InC wr => X.cell (keepC hR c3)
    have hbr2 := Lib.hid hbr
    have hyne : (lv g m ys y == 0) = false := by rw [beq_eq_false_iff_ne]; omega
    have h1' : 1 ≤ lv g m ys y := h1
    generalize jt f x n xs g y m ys k = j at *
    generalize lv f n xs (x + k) = a at *
    generalize lv g m ys (y + k) = b at *
    generalize lv g m ys y = cc at *
    clear hK hT hU h h'
    go_wp2_with fail
    (refine wp_region_inC (by kernel_rfl) (by kernel_rfl) ?_; (repeat go_big_quiet_step ((first | (go_at_call 58; with_reducible exact Calls.inC (L1.out _ (bel_step hbr (InC.h _)))) | (go_at_call 58; with_reducible exact Calls.inC (L2.out _ (bel_step hbr (InC.h _)))) | (go_at_call 58; with_reducible exact Calls.inC (L3.out _ (bel_step hbr (InC.h _))))))); refine wpQuiet_nil ?_; rintro w1 ⟨⟨_, hb1⟩, rfl⟩)
    have e := hjt.out
    rw [e]
    clear e hjt m1 q1 x0 x1 x2 x3 L1 L2 L3
    have HO1 := Lib.hid (blk_later HO.out hb1)
    have HR1 := Lib.hid (blk_later HR.out hb1)
    have HL1 := Lib.hid (HL.out.later hb1)
    have hl1 := HO1.out.lt
    have hR1 := bel_step hR hb1
    obtain ⟨o0, o1, p0, p1⟩ := c2_cells HO1.out
    obtain ⟨r0, r1, t0, t1⟩ := c2_cells HR1.out
    rcases hcase with ⟨hlt, hj⟩ | ⟨hkK, hj⟩
    · have hj0 : (j == 0) = false := by rw [beq_eq_false_iff_ne]; exact hj.out
      go_wp2_with (at_builtin; refine wpl_app_int rfl _ _ rfl (w.heap.size + 1 + 1 + 1 + 1) (jtL f x n xs g y m ys k) _ (by rfl) (HL1.out.alloc _) ⟨w1.heap.size, 0, none⟩ j 1 (by rfl) (by simp [go_sem]) (by rw [jtL_len]; omega) (by simp; omega) ?_; intro v' w3 ho3 hg3; obtain ⟨A3, m3, c3, rfl⟩ := ho3.sl; have rw3 := own_rowI (HL1.out.alloc (.cells #[.int .i64 j] 2)); have HL3 := Lib.hid ho3; have hR3 := (hR1.alloc hR1.size (.cells #[.int .i64 j] 2)).grown hg3 (by have := hR1.size; simp; omega) (fun q e => by have := rw3 q e; omega); have HO3 := Lib.hid ((HO1.out.alloc _).grown hg3 (fun e => by have := rw3 _ e.symm; omega)); have HR3 := Lib.hid ((HR1.out.alloc _).grown hg3 (fun e => by have := rw3 _ e.symm; omega)); clear o0 o1 p0 p1 r0 r1 t0 t1 ho3 hg3 rw3; obtain ⟨o0, o1, p0, p1⟩ := c2_cells HO3.out; obtain ⟨r0, r1, t0, t1⟩ := c2_cells HR3.out; have hl3 := HO3.out.lt)
      go_roundw
      case rel => exact ⟨k + 1, by omega, by go_num, hR3.setCell (by show W0.heap.size ≤ w.heap.size + 1 + 1 + 1; omega) _, (HR3.out.far (by simp) _), A3, m3, c3, HO3.out.set_ 1 _, by rw [HS.out]; exact HL3.out.store (by simp) _⟩
      case measure => simp [intOf]; omega
    · have hj0 : (j == 0) = true := by rw [beq_iff_eq]; exact hj.out
      go_wp2_with (at_builtin; refine wpl_app_int rfl _ _ rfl (w.heap.size + 1 + 1 + 1 + 1) (jtL f x n xs g y m ys k) _ (by rfl) (HL1.out.alloc _) ⟨w1.heap.size, 0, none⟩ j 1 (by rfl) (by simp [go_sem]) (by rw [jtL_len]; omega) (by simp; omega) ?_; intro v' w3 ho3 hg3; obtain ⟨A3, m3, c3, rfl⟩ := ho3.sl; have rw3 := own_rowI (HL1.out.alloc (.cells #[.int .i64 j] 2)); have HL3 := Lib.hid ho3; have hR3 := (hR1.alloc hR1.size (.cells #[.int .i64 j] 2)).grown hg3 (by have := hR1.size; simp; omega) (fun q e => by have := rw3 q e; omega); have HO3 := Lib.hid ((HO1.out.alloc _).grown hg3 (fun e => by have := rw3 _ e.symm; omega)); have HR3 := Lib.hid ((HR1.out.alloc _).grown hg3 (fun e => by have := rw3 _ e.symm; omega)); clear o0 o1 p0 p1 r0 r1 t0 t1 ho3 hg3 rw3; obtain ⟨o0, o1, p0, p1⟩ := c2_cells HO3.out; obtain ⟨r0, r1, t0, t1⟩ := c2_cells HR3.out; have hl3 := HO3.out.lt)
      (try simp only [Exit.inBlock, Exit.then]); refine bodyPost_ret (v := .agg #[.int .i64 x, .slice A3 m3 c3]) (by simp [results, Try.results29, go_sem, *]) rfl ⟨A3, m3, c3, rfl, (by rw [← hkK.out, HS.out]; exact (((HL3.out.store (by simp) _).store (by simp) _).store (by simp) _).mono (by omega)), (by have hB := bel_step hB0 hR3; go_grown)⟩
set_option maxHeartbeats 4000000 in
theorem sJt_any (f x : Int) (A : Option Addr) (n c : Nat) (xs : List Int) (g y : Int) (B : Option Addr) (m d : Nat) (ys : List Int) (K : Nat) (w : World) (h : RdI w w.heap.size A n xs) (h' : RdI w w.heap.size B m ys) (hT : okTP f n xs) (hU : okTP g m ys) (hx : f ≤ x ∧ x ≤ 100) (hy : g ≤ y ∧ y ≤ 150) (h1 : 1 ≤ lv g m ys y) (hK : JK f x n xs g y m ys K) : Calls Try.prog 26 #[.agg #[.int .i64 f, .slice A n c], .int .i64 x, .agg #[.int .i64 g, .slice B m d], .int .i64 y] w fun e w' => ∃ A' m' c', e = .returned (.agg #[.int .i64 x, .slice A' m' c']) ∧ OwI w' w.heap.size (.slice A' m' c') (jtL f x n xs g y m ys (K + 1)) ∧ Below w.heap.size w w' := by
  obtain ⟨W0, hW0⟩ : ∃ W0 : World, W0 = (w.alloc (.cells #[.int .i64 f, .slice A n c] 26)).alloc (.cells #[.int .i64 g, .slice B m d] 26) := ⟨_, rfl⟩
  have hB0 : Below w.heap.size w W0 := by rw [hW0]; exact ((Below.refl _ _).alloc (Nat.le_refl _) _).alloc (by simp) _
  have hs0 : W0.heap.size = w.heap.size + 1 + 1 := by rw [hW0]; simp
  have c0 : W0.cell? ⟨w.heap.size, 0, none⟩ = some (.int .i64 f) := by rw [hW0]; simp [go_sem]
  have c1 : W0.cell? ⟨w.heap.size, 1, none⟩ = some (.slice A n c) := by rw [hW0]; simp [go_sem]
  have c2 : W0.cell? ⟨w.heap.size + 1, 0, none⟩ = some (.int .i64 g) := by rw [hW0]; simp [go_sem]
  have c3 : W0.cell? ⟨w.heap.size + 1, 1, none⟩ = some (.slice B m d) := by rw [hW0]; simp [go_sem]
  have hs1 : w.heap.size < W0.heap.size := by omega
  have hs2 : w.heap.size + 1 < W0.heap.size := by omega
  clear hs0
  have hs0 : W0.heap.size = w.heap.size + 1 + 1 := by rw [hW0]; simp
  go_enter Try.func26, Try.ntmps26
  go_wp2_with fail
  try rw [← hW0]
  go_loopw [10] (fun i wr => ∃ k : Nat, k ≤ K + 1 ∧ i = .int .i64 k ∧ Below W0.heap.size W0 wr ∧ Hid (Blk wr (w.heap.size + 1 + 1) 26 #[.int .i64 0, .slice none 0 0]) ∧ ∃ A' m' c', Hid (Blk wr (w.heap.size + 1 + 1 + 1 + 1) 26 #[.int .i64 x, .slice A' m' c']) ∧ Hid (OwI wr (w.heap.size + 1 + 1 + 1) (.slice A' m' c') (jtL f x n xs g y m ys k)) ∧ Hid (∀ q, (Value.slice A' m' c').ownBlock = some q → q ≠ w.heap.size + 1 + 1 + 1 + 1)) (fun i _ => K + 2 - (intOf i).toNat)
  case atStart => exact ⟨0, Nat.zero_le _, rfl, by go_grown, (by have := ((Blk.new W0 26 #[.int .i64 0, .slice none 0 0]).alloc (.cells #[] 2)).alloc (.cells #[.int .i64 x, .slice (some ⟨w.heap.size + 1 + 1 + 1, 0, none⟩) 0 0] 26); rw [hs0] at this; exact this), some ⟨w.heap.size + 1 + 1 + 1, 0, none⟩, 0, 0, (by have := Blk.new ((W0.alloc (.cells #[.int .i64 0, .slice none 0 0] 26)).alloc (.cells #[] 2)) 26 #[.int .i64 x, .slice (some ⟨w.heap.size + 1 + 1 + 1, 0, none⟩) 0 0]; rw [World.size_alloc, World.size_alloc, hs0] at this; exact this), (by have := (ownEmpty (W0.alloc (.cells #[.int .i64 0, .slice none 0 0] 26)) (w.heap.size + 1 + 1 + 1) (by simp; omega)).alloc (.cells #[.int .i64 x, .slice (some ⟨w.heap.size + 1 + 1 + 1, 0, none⟩) 0 0] 26); rw [World.size_alloc, hs0] at this; exact this), (fun q e => by simp only [Value.ownBlock, Option.some.injEq] at e; omega)⟩
  case round =>
    obtain ⟨k, hk, rfl, hR, HR, A', m', c', HO, HL, HQ⟩ := hrel
    have hbr := bel_step hB0 hR
    obtain ⟨rfl, _⟩ := HL.out.rd
    have hlen := jtL_len (f := f) (x := x) (n := n) (xs := xs) (g := g) (y := y) (m := m) (ys := ys) k
    generalize (jtL f x n xs g y m ys k).length = q at *
    subst q
    have hn1 := hT.2.1.2
    have hKn := hK.1
    have hf0 := hT.1
    have hg0 := hU.1
    obtain ⟨o0, o1, p0, p1⟩ := c2_cells HO.out
    obtain ⟨r0, r1, t0, t1⟩ := c2_cells HR.out
    have hl1 := HO.out.lt
    by_cases hkK : k = K + 1
    · subst hkK
      obtain ⟨ad, z, rfl, _, hz, hc⟩ := RdI.atI HL.out.rd.2 (k := K) (by omega)
      have hz0 : z = 0 := by
        unfold jtL at hz
        rw [List.getElem?_map, List.getElem?_range (by omega)] at hz
        simp only [Option.map_some, Option.some.injEq] at hz
        rw [← hz]
        exact hK.2.1
      subst hz0
      have hB := bel_step hB0 hR
      have HL' := Lib.hid HL.out
      have hk0 : ((((K + 1 : Nat) : Int)) == 0) = false := by rw [beq_eq_false_iff_ne]; omega
      clear hz HL hK hT hU h h'
      go_wp2
      (try simp only [Exit.inBlock, Exit.then])
      refine bodyPost_ret (v := .agg #[.int .i64 x, .slice (some ad) (K + 1) c']) (by simp [results, Try.results26, go_sem, *]) rfl ⟨some ad, K + 1, c', rfl, ((HL'.out.store (by simp) _).store (by simp) _).mono (by omega), by go_grown⟩
    · have hlt : k ≤ K := by omega
      have L1 := Lib.hid (fun W (hB : Below w.heap.size w W) => sLives_any f A n c xs (x + k) W ((h.below hB).more hB.size) hT.1 hT.2.1.2 ⟨by omega, by omega⟩)
      have L2 := Lib.hid (fun W (hB : Below w.heap.size w W) => sLives_any g B m d ys (y + k) W ((h'.below hB).more hB.size) hU.1 hU.2.1.2 ⟨by omega, by omega⟩)
      have L3 := Lib.hid (fun W (hB : Below w.heap.size w W) => sLives_any g B m d ys y W ((h'.below hB).more hB.size) hU.1 hU.2.1.2 ⟨by omega, by omega⟩)
      have b1 := lv_bd hT (age := x + k) (by omega)
      have b2 := lv_bd hU (age := y + k) (by omega)
      have m1 := mul_bd b1 b2
      have m2 := jt_bd (x := x) hT hU hx.1 hy.1 h1 k
      have hjt : Hid (lv f n xs (x + k) * lv g m ys (y + k) / lv g m ys y = jt f x n xs g y m ys k) := rfl
      have HS := Lib.hid (jtL_succ (f := f) (x := x) (n := n) (xs := xs) (g := g) (y := y) (m := m) (ys := ys) k)
      have q3 := IntWalk.i64_in (x + k) (by omega)
      have q4 := IntWalk.i64_in (y + k) (by omega)
      have q1 := IntWalk.i64_in (lv f n xs (x + k) * lv g m ys (y + k)) (by omega)
      have x0 := keepC hR c0
      have x1 := keepC hR c1
      have x2 := keepC hR c2
      have x3 := keepC hR c3
      have hyne : (lv g m ys y == 0) = false := by rw [beq_eq_false_iff_ne]; omega
      have hcase : (Hid (k = 0) ∧ ((k : Int) == 0) = true) ∨ (((k : Int) == 0) = false ∧ ∃ ad z, A' = some ad ∧ 0 < z ∧ wr.cell? (ad.add (k - 1)) = some (.int .i64 z) ∧ 1 ≤ k) := by
        rcases Nat.eq_zero_or_pos k with h0 | h0
        · exact .inl ⟨h0, by subst h0; rfl⟩
        · obtain ⟨ad, z, e1, _, hz, hc⟩ := RdI.atI HL.out.rd.2 (k := k - 1) (by omega)
          refine .inr ⟨by rw [beq_eq_false_iff_ne]; omega, ad, z, e1, ?_, hc, h0⟩
          unfold jtL at hz
          rw [List.getElem?_map, List.getElem?_range (by omega)] at hz
          simp only [Option.map_some, Option.some.injEq] at hz
          have h2 := hK.2.2 (k - 1) (by omega)
          have h3 := jt_bd (x := x) hT hU hx.1 hy.1 h1 (k - 1)
          omega
      have SS : Hid (∀ W', Below wr.heap.size wr W' → W'.cell? ⟨w.heap.size, 0, none⟩ = some (.int .i64 f) ∧ W'.cell? ⟨w.heap.size, 1, none⟩ = some (.slice A n c) ∧ W'.cell? ⟨w.heap.size + 1, 0, none⟩ = some (.int .i64 g) ∧ W'.cell? ⟨w.heap.size + 1, 1, none⟩ = some (.slice B m d) ∧ W'.cell? ⟨w.heap.size + 1 + 1 + 1 + 1, 1, none⟩ = some (.slice A' k c')) := Lib.hid (fun W' hb => ⟨keepC hb x0, keepC hb x1, keepC hb x2, keepC hb x3, keepC hb o1⟩)
      have SA : Hid (∀ W', Below W0.heap.size W0 W' → W'.cell? ⟨w.heap.size, 0, none⟩ = some (.int .i64 f) ∧ W'.cell? ⟨w.heap.size, 1, none⟩ = some (.slice A n c) ∧ W'.cell? ⟨w.heap.size + 1, 0, none⟩ = some (.int .i64 g) ∧ W'.cell? ⟨w.heap.size + 1, 1, none⟩ = some (.slice B m d)) := Lib.hid (fun W' hb => ⟨keepC hb c0, keepC hb c1, keepC hb c2, keepC hb c3⟩)
      have hl0 : w.heap.size < wr.heap.size := by omega
      have hl2 : w.heap.size + 1 < wr.heap.size := by omega
      generalize jt f x n xs g y m ys k = j at *
      generalize lv f n xs (x + k) = a at *
      generalize lv g m ys (y + k) = b at *
      generalize lv g m ys y = cc at *
      clear hK hT hU h h'
      have hQ := Lib.hid (fun q e => own_rowI HL.out q e)
      have hcc : ¬ cc = 0 := by omega
      have hqj : IntKind.i64.wrap ((a * b).tdiv cc) = j := by rw [Int.tdiv_eq_ediv_of_nonneg m1.1, hjt.out]; exact IntWalk.i64_in j (by omega)
      rcases hcase with ⟨hk0, hk1⟩ | ⟨hk1, ad, z, hA, hz, hc, hk2⟩
      · go_wp2_with fail
        refine wp_region_D 20 (fun W' : World => W'.cell? ⟨w.heap.size, 0, none⟩ = some (.int .i64 f) ∧ W'.cell? ⟨w.heap.size, 1, none⟩ = some (.slice A n c) ∧ W'.cell? ⟨w.heap.size + 1, 0, none⟩ = some (.int .i64 g) ∧ W'.cell? ⟨w.heap.size + 1, 1, none⟩ = some (.slice B m d) ∧ W'.cell? ⟨w.heap.size + 1 + 1 + 1 + 1, 1, none⟩ = some (.slice A' k c')) (by kernel_rfl) ?_
        have hS0 : (fun W' : World => W'.cell? ⟨w.heap.size, 0, none⟩ = some (.int .i64 f) ∧ W'.cell? ⟨w.heap.size, 1, none⟩ = some (.slice A n c) ∧ W'.cell? ⟨w.heap.size + 1, 0, none⟩ = some (.int .i64 g) ∧ W'.cell? ⟨w.heap.size + 1, 1, none⟩ = some (.slice B m d) ∧ W'.cell? ⟨w.heap.size + 1 + 1 + 1 + 1, 1, none⟩ = some (.slice A' k c')) wr.drew := SS.out _ (Below.refl _ _).drew
        refine wpAnyD_take (i := 0) (v := ?_) rfl (by kernel_rfl) (fun _ _ _ h => h) (Or.inl ⟨by rfl, ?_⟩) (by assumption) ?_; rotate_left; (intro w' hSw; (try dsimp only at hSw); go_simp; (try simp only [if_neg hcc, hqj, if_false]); with_reducible rfl); (try simp only [Act.put, List.setIfInBounds_toArray, List.set_cons_zero, List.set_cons_succ])
        refine wpAnyD_take (i := 1) (v := ?_) rfl (by kernel_rfl) (fun _ _ _ h => h) (Or.inl ⟨by rfl, ?_⟩) (by assumption) ?_; rotate_left; (intro w' hSw; (try dsimp only at hSw); go_simp; (try simp only [if_neg hcc, hqj, if_false]); with_reducible rfl); (try simp only [Act.put, List.setIfInBounds_toArray, List.set_cons_zero, List.set_cons_succ])
        refine wpAnyD_take (i := 2) (v := ?_) rfl (by kernel_rfl) (fun _ _ _ h => h) (Or.inl ⟨by rfl, ?_⟩) (by assumption) ?_; rotate_left; (intro w' hSw; (try dsimp only at hSw); go_simp; (try simp only [if_neg hcc, hqj, if_false]); with_reducible rfl); (try simp only [Act.put, List.setIfInBounds_toArray, List.set_cons_zero, List.set_cons_succ])
        refine wpAnyD_take (i := 3) (v := ?_) rfl (by kernel_rfl) (fun _ _ _ h => h) (Or.inl ⟨by rfl, ?_⟩) (by assumption) ?_; rotate_left; (intro w' hSw; (try dsimp only at hSw); go_simp; (try simp only [if_neg hcc, hqj, if_false]); with_reducible rfl); (try simp only [Act.put, List.setIfInBounds_toArray, List.set_cons_zero, List.set_cons_succ])
        refine wpAnyD_take (i := 4) (v := ?_) rfl (by kernel_rfl) (fun _ _ _ h => h) (Or.inl ⟨by rfl, ?_⟩) (by assumption) ?_; rotate_left; (intro w' hSw; (try dsimp only at hSw); go_simp; (try simp only [if_neg hcc, hqj, if_false]); with_reducible rfl); (try simp only [Act.put, List.setIfInBounds_toArray, List.set_cons_zero, List.set_cons_succ])
        refine wpAnyD_take (i := 5) (v := ?_) rfl (by kernel_rfl) (fun _ _ _ h => h) (Or.inl ⟨by rfl, ?_⟩) (by assumption) ?_; rotate_left; (intro w' hSw; (try dsimp only at hSw); go_simp; (try simp only [if_neg hcc, hqj, if_false]); with_reducible rfl); (try simp only [Act.put, List.setIfInBounds_toArray, List.set_cons_zero, List.set_cons_succ])
        refine wpAnyD_take (i := 7) (v := ?_) rfl (by kernel_rfl) (fun _ _ _ h => h) (Or.inl ⟨by rfl, ?_⟩) (by assumption) ?_; rotate_left; (intro w' hSw; (try dsimp only at hSw); go_simp; (try simp only [if_neg hcc, hqj, if_false]); with_reducible rfl); (try simp only [Act.put, List.setIfInBounds_toArray, List.set_cons_zero, List.set_cons_succ])
        refine wpAnyD_take (i := 8) (v := ?_) rfl (by kernel_rfl) (fun _ _ _ h => h) (Or.inl ⟨by rfl, ?_⟩) (by assumption) ?_; rotate_left; (intro w' hSw; (try dsimp only at hSw); go_simp; (try simp only [if_neg hcc, hqj, if_false]); with_reducible rfl); (try simp only [Act.put, List.setIfInBounds_toArray, List.set_cons_zero, List.set_cons_succ])
        refine wpAnyD_take (i := 9) (v := ?_) rfl (by kernel_rfl) (fun _ _ _ h => h) (Or.inl ⟨by rfl, ?_⟩) (by assumption) ?_; rotate_left; (intro w' hSw; (try dsimp only at hSw); go_simp; (try simp only [if_neg hcc, hqj, if_false]); with_reducible rfl); (try simp only [Act.put, List.setIfInBounds_toArray, List.set_cons_zero, List.set_cons_succ])
        refine wpAnyD_take (i := 10) (v := ?_) rfl (by kernel_rfl) (fun _ _ _ h => h) (Or.inl ⟨by rfl, ?_⟩) (by assumption) ?_; rotate_left; (intro w' hSw; (try dsimp only at hSw); go_simp; (try simp only [if_neg hcc, hqj, if_false]); with_reducible rfl); (try simp only [Act.put, List.setIfInBounds_toArray, List.set_cons_zero, List.set_cons_succ])
        refine wpAnyD_take (i := 13) (v := ?_) rfl (by kernel_rfl) (fun _ _ _ h => h) (Or.inl ⟨by rfl, ?_⟩) (by assumption) ?_; rotate_left; (intro w' hSw; (try dsimp only at hSw); go_simp; (try simp only [if_neg hcc, hqj, if_false]); with_reducible rfl); (try simp only [Act.put, List.setIfInBounds_toArray, List.set_cons_zero, List.set_cons_succ])
        refine wpAnyD_take (i := 14) (v := ?_) rfl (by kernel_rfl) (fun _ _ _ h => h) (Or.inl ⟨by rfl, ?_⟩) (by assumption) ?_; rotate_left; (intro w' hSw; (try dsimp only at hSw); go_simp; (try simp only [if_neg hcc, hqj, if_false]); with_reducible rfl); (try simp only [Act.put, List.setIfInBounds_toArray, List.set_cons_zero, List.set_cons_succ])
        refine wpAnyD_one (i := 6) rfl (by kernel_rfl) (fun K hK => ?_)
        go_simp
        (with_reducible refine Calls.mono (L1.out _ ?_) ?_)
        (first | exact bel_step hbr (Below.refl _ _).drew | exact bel_step hbr hb6 | exact bel_step hbr hb7)
        rintro ee w6 ⟨rfl, hb6⟩
        replace hb6 := bel_step (w := wr) (by first | exact (Below.refl _ _).drew | exact hb6 | exact hb7) hb6
        dsimp only
        have hS6 : (fun W' : World => W'.cell? ⟨w.heap.size, 0, none⟩ = some (.int .i64 f) ∧ W'.cell? ⟨w.heap.size, 1, none⟩ = some (.slice A n c) ∧ W'.cell? ⟨w.heap.size + 1, 0, none⟩ = some (.int .i64 g) ∧ W'.cell? ⟨w.heap.size + 1, 1, none⟩ = some (.slice B m d) ∧ W'.cell? ⟨w.heap.size + 1 + 1 + 1 + 1, 1, none⟩ = some (.slice A' k c')) w6 := SS.out _ hb6
        refine hK _ _ (fun _ => hS6) ?_; clear hK K; (try simp only [Act.put, List.setIfInBounds_toArray, List.set_cons_zero, List.set_cons_succ])
        refine wpAnyD_one (i := 11) rfl (by kernel_rfl) (fun K hK => ?_)
        go_simp
        (with_reducible refine Calls.mono (L2.out _ ?_) ?_)
        (first | exact bel_step hbr (Below.refl _ _).drew | exact bel_step hbr hb6 | exact bel_step hbr hb7)
        rintro ee w7 ⟨rfl, hb7⟩
        replace hb7 := bel_step (w := wr) (by first | exact (Below.refl _ _).drew | exact hb6 | exact hb7) hb7
        dsimp only
        have hS7 : (fun W' : World => W'.cell? ⟨w.heap.size, 0, none⟩ = some (.int .i64 f) ∧ W'.cell? ⟨w.heap.size, 1, none⟩ = some (.slice A n c) ∧ W'.cell? ⟨w.heap.size + 1, 0, none⟩ = some (.int .i64 g) ∧ W'.cell? ⟨w.heap.size + 1, 1, none⟩ = some (.slice B m d) ∧ W'.cell? ⟨w.heap.size + 1 + 1 + 1 + 1, 1, none⟩ = some (.slice A' k c')) w7 := SS.out _ hb7
        refine hK _ _ (fun _ => hS7) ?_; clear hK K; (try simp only [Act.put, List.setIfInBounds_toArray, List.set_cons_zero, List.set_cons_succ])
        refine wpAnyD_take (i := 12) (v := ?_) rfl (by kernel_rfl) (fun _ _ _ h => h) (Or.inl ⟨by rfl, ?_⟩) (by assumption) ?_; rotate_left; (intro w' hSw; (try dsimp only at hSw); go_simp; (try simp only [if_neg hcc, hqj, if_false]); with_reducible rfl); (try simp only [Act.put, List.setIfInBounds_toArray, List.set_cons_zero, List.set_cons_succ])
        refine wpAnyD_one (i := 15) rfl (by kernel_rfl) (fun K hK => ?_)
        go_simp
        (with_reducible refine Calls.mono (L3.out _ ?_) ?_)
        (first | exact bel_step hbr (Below.refl _ _).drew | exact bel_step hbr hb6 | exact bel_step hbr hb7)
        rintro ee w8 ⟨rfl, hb8⟩
        replace hb8 := bel_step (w := wr) (by first | exact (Below.refl _ _).drew | exact hb6 | exact hb7) hb8
        dsimp only
        have hS8 : (fun W' : World => W'.cell? ⟨w.heap.size, 0, none⟩ = some (.int .i64 f) ∧ W'.cell? ⟨w.heap.size, 1, none⟩ = some (.slice A n c) ∧ W'.cell? ⟨w.heap.size + 1, 0, none⟩ = some (.int .i64 g) ∧ W'.cell? ⟨w.heap.size + 1, 1, none⟩ = some (.slice B m d) ∧ W'.cell? ⟨w.heap.size + 1 + 1 + 1 + 1, 1, none⟩ = some (.slice A' k c')) w8 := SS.out _ hb8
        refine hK _ _ (fun _ => hS8) ?_; clear hK K; (try simp only [Act.put, List.setIfInBounds_toArray, List.set_cons_zero, List.set_cons_succ])
        refine wpAnyD_take (i := 16) (v := ?_) rfl (by kernel_rfl) (fun _ _ _ h => h) (Or.inl ⟨by rfl, ?_⟩) (by assumption) ?_; rotate_left; (intro w' hSw; (try dsimp only at hSw); go_simp; (try simp only [if_neg hcc, hqj, if_false]); with_reducible rfl); (try simp only [Act.put, List.setIfInBounds_toArray, List.set_cons_zero, List.set_cons_succ])
        refine wpAnyD_one (i := 17) rfl (by kernel_rfl) (fun K hK => ?_)
        go_simp
        have hS8a : (fun W' : World => W'.cell? ⟨w.heap.size, 0, none⟩ = some (.int .i64 f) ∧ W'.cell? ⟨w.heap.size, 1, none⟩ = some (.slice A n c) ∧ W'.cell? ⟨w.heap.size + 1, 0, none⟩ = some (.int .i64 g) ∧ W'.cell? ⟨w.heap.size + 1, 1, none⟩ = some (.slice B m d) ∧ W'.cell? ⟨w.heap.size + 1 + 1 + 1 + 1, 1, none⟩ = some (.slice A' k c')) (w8.alloc (.cells #[.int .i64 j] 2)) := SS.out _ (hb8.alloc hb8.size _)
        refine hK _ _ (fun _ => hS8a) ?_; clear hK K; (try simp only [Act.put, List.setIfInBounds_toArray, List.set_cons_zero, List.set_cons_succ])
        refine wpAnyD_one (i := 18) rfl (by kernel_rfl) (fun K hK => ?_)
        refine step_app_intL (by rfl) _ _ (by rfl) (w.heap.size + 1 + 1 + 1) (jtL f x n xs g y m ys k) _ (by rfl) ((HL.out.later hb8).alloc _) ⟨w8.heap.size, 0, none⟩ j 1 (by rfl) (by simp [go_sem]) (by rw [jtL_len]; omega) (by have := hb8.size; simp; omega) ?_; intro A3 m3 c3 w9 ho9 hg9 hq9; have rw9 := own_rowI ((HL.out.later hb8).alloc (.cells #[.int .i64 j] 2)); have HL9 := Lib.hid ho9; have hR8 := bel_step hR hb8; have hR9 := (hR8.alloc hR8.size (.cells #[.int .i64 j] 2)).grown hg9 (by have := hR8.size; simp; omega) (fun q e => by have := rw9 q e; omega); have HO9 := Lib.hid (((blk_later HO.out hb8).alloc _).grown hg9 (fun e => (HQ.out _ e.symm) rfl)); have HR9 := Lib.hid (((blk_later HR.out hb8).alloc _).grown hg9 (fun e => by have := rw9 _ e.symm; omega)); have hl8 := (blk_later HO.out hb8).lt; have Q9 : Hid (∀ q, (Value.slice A3 m3 c3).ownBlock = some q → q ≠ w.heap.size + 1 + 1 + 1 + 1) := Lib.hid (fun q e => (by rcases hq9 q e with e1 | e1; exact HQ.out q e1; (simp at e1; omega))); obtain ⟨o0_9, o1_9, p0_9, p1_9⟩ := c2_cells HO9.out; clear ho9 hq9
        have hS9 : (fun W' : World => W'.cell? ⟨w.heap.size, 0, none⟩ = some (.int .i64 f) ∧ W'.cell? ⟨w.heap.size, 1, none⟩ = some (.slice A n c) ∧ W'.cell? ⟨w.heap.size + 1, 0, none⟩ = some (.int .i64 g) ∧ W'.cell? ⟨w.heap.size + 1, 1, none⟩ = some (.slice B m d) ∧ W'.cell? ⟨w.heap.size + 1 + 1 + 1 + 1, 1, none⟩ = some (.slice A' k c')) w9 := ⟨(SA.out _ hR9).1, (SA.out _ hR9).2.1, (SA.out _ hR9).2.2.1, (SA.out _ hR9).2.2.2, o1_9⟩
        refine hK _ _ (fun _ => hS9) ?_; clear hK K; (try simp only [Act.put, List.setIfInBounds_toArray, List.set_cons_zero, List.set_cons_succ])
        refine wpAnyD_take (i := 19) (v := ?_) rfl (by kernel_rfl) (fun _ _ _ h => h) (Or.inl ⟨by rfl, ?_⟩) (by assumption) ?_; rotate_left; (intro w' hSw; (try dsimp only at hSw); go_simp; (try simp only [if_neg hcc, hqj, if_false]); with_reducible rfl); (try simp only [Act.put, List.setIfInBounds_toArray, List.set_cons_zero, List.set_cons_succ])
        refine wpAnyD_one (i := 20) rfl (by kernel_rfl) (fun K hK => ?_)
        go_simp
        refine hK _ _ (fun h => absurd rfl h) ?_; clear hK K
        refine wpAnyD_done (by kernel_rfl) ?_ _
        go_wp2
        go_roundw
        case rel => exact ⟨k + 1, by omega, by go_num, hR9.setCell (by show W0.heap.size ≤ w.heap.size + 1 + 1 + 1 + 1; omega) _, (HR9.out.far (by simp) _), A3, m3, c3, HO9.out.set_ 1 _, (by rw [HS.out]; exact HL9.out.off (grownBy_one _ _ _) Q9.out), Q9⟩
        case measure => simp [intOf]; omega
      · subst hA
        have hk3 : ((k : Int) - 1) = ((k - 1 : Nat) : Int) := by omega
        go_wp2_with fail
        clear hz hc hk3 hk1
        refine wp_region_D 20 (fun W' : World => W'.cell? ⟨w.heap.size, 0, none⟩ = some (.int .i64 f) ∧ W'.cell? ⟨w.heap.size, 1, none⟩ = some (.slice A n c) ∧ W'.cell? ⟨w.heap.size + 1, 0, none⟩ = some (.int .i64 g) ∧ W'.cell? ⟨w.heap.size + 1, 1, none⟩ = some (.slice B m d) ∧ W'.cell? ⟨w.heap.size + 1 + 1 + 1 + 1, 1, none⟩ = some (.slice (some ad) k c')) (by kernel_rfl) ?_
        have hS0 : (fun W' : World => W'.cell? ⟨w.heap.size, 0, none⟩ = some (.int .i64 f) ∧ W'.cell? ⟨w.heap.size, 1, none⟩ = some (.slice A n c) ∧ W'.cell? ⟨w.heap.size + 1, 0, none⟩ = some (.int .i64 g) ∧ W'.cell? ⟨w.heap.size + 1, 1, none⟩ = some (.slice B m d) ∧ W'.cell? ⟨w.heap.size + 1 + 1 + 1 + 1, 1, none⟩ = some (.slice (some ad) k c')) wr.drew := SS.out _ (Below.refl _ _).drew
        refine wpAnyD_take (i := 0) (v := ?_) rfl (by kernel_rfl) (fun _ _ _ h => h) (Or.inl ⟨by rfl, ?_⟩) (by assumption) ?_; rotate_left; (intro w' hSw; (try dsimp only at hSw); go_simp; (try simp only [if_neg hcc, hqj, if_false]); with_reducible rfl); (try simp only [Act.put, List.setIfInBounds_toArray, List.set_cons_zero, List.set_cons_succ])
        refine wpAnyD_take (i := 1) (v := ?_) rfl (by kernel_rfl) (fun _ _ _ h => h) (Or.inl ⟨by rfl, ?_⟩) (by assumption) ?_; rotate_left; (intro w' hSw; (try dsimp only at hSw); go_simp; (try simp only [if_neg hcc, hqj, if_false]); with_reducible rfl); (try simp only [Act.put, List.setIfInBounds_toArray, List.set_cons_zero, List.set_cons_succ])
        refine wpAnyD_take (i := 2) (v := ?_) rfl (by kernel_rfl) (fun _ _ _ h => h) (Or.inl ⟨by rfl, ?_⟩) (by assumption) ?_; rotate_left; (intro w' hSw; (try dsimp only at hSw); go_simp; (try simp only [if_neg hcc, hqj, if_false]); with_reducible rfl); (try simp only [Act.put, List.setIfInBounds_toArray, List.set_cons_zero, List.set_cons_succ])
        refine wpAnyD_take (i := 3) (v := ?_) rfl (by kernel_rfl) (fun _ _ _ h => h) (Or.inl ⟨by rfl, ?_⟩) (by assumption) ?_; rotate_left; (intro w' hSw; (try dsimp only at hSw); go_simp; (try simp only [if_neg hcc, hqj, if_false]); with_reducible rfl); (try simp only [Act.put, List.setIfInBounds_toArray, List.set_cons_zero, List.set_cons_succ])
        refine wpAnyD_take (i := 4) (v := ?_) rfl (by kernel_rfl) (fun _ _ _ h => h) (Or.inl ⟨by rfl, ?_⟩) (by assumption) ?_; rotate_left; (intro w' hSw; (try dsimp only at hSw); go_simp; (try simp only [if_neg hcc, hqj, if_false]); with_reducible rfl); (try simp only [Act.put, List.setIfInBounds_toArray, List.set_cons_zero, List.set_cons_succ])
        refine wpAnyD_take (i := 5) (v := ?_) rfl (by kernel_rfl) (fun _ _ _ h => h) (Or.inl ⟨by rfl, ?_⟩) (by assumption) ?_; rotate_left; (intro w' hSw; (try dsimp only at hSw); go_simp; (try simp only [if_neg hcc, hqj, if_false]); with_reducible rfl); (try simp only [Act.put, List.setIfInBounds_toArray, List.set_cons_zero, List.set_cons_succ])
        refine wpAnyD_take (i := 7) (v := ?_) rfl (by kernel_rfl) (fun _ _ _ h => h) (Or.inl ⟨by rfl, ?_⟩) (by assumption) ?_; rotate_left; (intro w' hSw; (try dsimp only at hSw); go_simp; (try simp only [if_neg hcc, hqj, if_false]); with_reducible rfl); (try simp only [Act.put, List.setIfInBounds_toArray, List.set_cons_zero, List.set_cons_succ])
        refine wpAnyD_take (i := 8) (v := ?_) rfl (by kernel_rfl) (fun _ _ _ h => h) (Or.inl ⟨by rfl, ?_⟩) (by assumption) ?_; rotate_left; (intro w' hSw; (try dsimp only at hSw); go_simp; (try simp only [if_neg hcc, hqj, if_false]); with_reducible rfl); (try simp only [Act.put, List.setIfInBounds_toArray, List.set_cons_zero, List.set_cons_succ])
        refine wpAnyD_take (i := 9) (v := ?_) rfl (by kernel_rfl) (fun _ _ _ h => h) (Or.inl ⟨by rfl, ?_⟩) (by assumption) ?_; rotate_left; (intro w' hSw; (try dsimp only at hSw); go_simp; (try simp only [if_neg hcc, hqj, if_false]); with_reducible rfl); (try simp only [Act.put, List.setIfInBounds_toArray, List.set_cons_zero, List.set_cons_succ])
        refine wpAnyD_take (i := 10) (v := ?_) rfl (by kernel_rfl) (fun _ _ _ h => h) (Or.inl ⟨by rfl, ?_⟩) (by assumption) ?_; rotate_left; (intro w' hSw; (try dsimp only at hSw); go_simp; (try simp only [if_neg hcc, hqj, if_false]); with_reducible rfl); (try simp only [Act.put, List.setIfInBounds_toArray, List.set_cons_zero, List.set_cons_succ])
        refine wpAnyD_take (i := 13) (v := ?_) rfl (by kernel_rfl) (fun _ _ _ h => h) (Or.inl ⟨by rfl, ?_⟩) (by assumption) ?_; rotate_left; (intro w' hSw; (try dsimp only at hSw); go_simp; (try simp only [if_neg hcc, hqj, if_false]); with_reducible rfl); (try simp only [Act.put, List.setIfInBounds_toArray, List.set_cons_zero, List.set_cons_succ])
        refine wpAnyD_take (i := 14) (v := ?_) rfl (by kernel_rfl) (fun _ _ _ h => h) (Or.inl ⟨by rfl, ?_⟩) (by assumption) ?_; rotate_left; (intro w' hSw; (try dsimp only at hSw); go_simp; (try simp only [if_neg hcc, hqj, if_false]); with_reducible rfl); (try simp only [Act.put, List.setIfInBounds_toArray, List.set_cons_zero, List.set_cons_succ])
        refine wpAnyD_one (i := 6) rfl (by kernel_rfl) (fun K hK => ?_)
        go_simp
        (with_reducible refine Calls.mono (L1.out _ ?_) ?_)
        (first | exact bel_step hbr (Below.refl _ _).drew | exact bel_step hbr hb6 | exact bel_step hbr hb7)
        rintro ee w6 ⟨rfl, hb6⟩
        replace hb6 := bel_step (w := wr) (by first | exact (Below.refl _ _).drew | exact hb6 | exact hb7) hb6
        dsimp only
        have hS6 : (fun W' : World => W'.cell? ⟨w.heap.size, 0, none⟩ = some (.int .i64 f) ∧ W'.cell? ⟨w.heap.size, 1, none⟩ = some (.slice A n c) ∧ W'.cell? ⟨w.heap.size + 1, 0, none⟩ = some (.int .i64 g) ∧ W'.cell? ⟨w.heap.size + 1, 1, none⟩ = some (.slice B m d) ∧ W'.cell? ⟨w.heap.size + 1 + 1 + 1 + 1, 1, none⟩ = some (.slice (some ad) k c')) w6 := SS.out _ hb6
        refine hK _ _ (fun _ => hS6) ?_; clear hK K; (try simp only [Act.put, List.setIfInBounds_toArray, List.set_cons_zero, List.set_cons_succ])
        refine wpAnyD_one (i := 11) rfl (by kernel_rfl) (fun K hK => ?_)
        go_simp
        (with_reducible refine Calls.mono (L2.out _ ?_) ?_)
        (first | exact bel_step hbr (Below.refl _ _).drew | exact bel_step hbr hb6 | exact bel_step hbr hb7)
        rintro ee w7 ⟨rfl, hb7⟩
        replace hb7 := bel_step (w := wr) (by first | exact (Below.refl _ _).drew | exact hb6 | exact hb7) hb7
        dsimp only
        have hS7 : (fun W' : World => W'.cell? ⟨w.heap.size, 0, none⟩ = some (.int .i64 f) ∧ W'.cell? ⟨w.heap.size, 1, none⟩ = some (.slice A n c) ∧ W'.cell? ⟨w.heap.size + 1, 0, none⟩ = some (.int .i64 g) ∧ W'.cell? ⟨w.heap.size + 1, 1, none⟩ = some (.slice B m d) ∧ W'.cell? ⟨w.heap.size + 1 + 1 + 1 + 1, 1, none⟩ = some (.slice (some ad) k c')) w7 := SS.out _ hb7
        refine hK _ _ (fun _ => hS7) ?_; clear hK K; (try simp only [Act.put, List.setIfInBounds_toArray, List.set_cons_zero, List.set_cons_succ])
        refine wpAnyD_take (i := 12) (v := ?_) rfl (by kernel_rfl) (fun _ _ _ h => h) (Or.inl ⟨by rfl, ?_⟩) (by assumption) ?_; rotate_left; (intro w' hSw; (try dsimp only at hSw); go_simp; (try simp only [if_neg hcc, hqj, if_false]); with_reducible rfl); (try simp only [Act.put, List.setIfInBounds_toArray, List.set_cons_zero, List.set_cons_succ])
        refine wpAnyD_one (i := 15) rfl (by kernel_rfl) (fun K hK => ?_)
        go_simp
        (with_reducible refine Calls.mono (L3.out _ ?_) ?_)
        (first | exact bel_step hbr (Below.refl _ _).drew | exact bel_step hbr hb6 | exact bel_step hbr hb7)
        rintro ee w8 ⟨rfl, hb8⟩
        replace hb8 := bel_step (w := wr) (by first | exact (Below.refl _ _).drew | exact hb6 | exact hb7) hb8
        dsimp only
        have hS8 : (fun W' : World => W'.cell? ⟨w.heap.size, 0, none⟩ = some (.int .i64 f) ∧ W'.cell? ⟨w.heap.size, 1, none⟩ = some (.slice A n c) ∧ W'.cell? ⟨w.heap.size + 1, 0, none⟩ = some (.int .i64 g) ∧ W'.cell? ⟨w.heap.size + 1, 1, none⟩ = some (.slice B m d) ∧ W'.cell? ⟨w.heap.size + 1 + 1 + 1 + 1, 1, none⟩ = some (.slice (some ad) k c')) w8 := SS.out _ hb8
        refine hK _ _ (fun _ => hS8) ?_; clear hK K; (try simp only [Act.put, List.setIfInBounds_toArray, List.set_cons_zero, List.set_cons_succ])
        refine wpAnyD_take (i := 16) (v := ?_) rfl (by kernel_rfl) (fun _ _ _ h => h) (Or.inl ⟨by rfl, ?_⟩) (by assumption) ?_; rotate_left; (intro w' hSw; (try dsimp only at hSw); go_simp; (try simp only [if_neg hcc, hqj, if_false]); with_reducible rfl); (try simp only [Act.put, List.setIfInBounds_toArray, List.set_cons_zero, List.set_cons_succ])
        refine wpAnyD_one (i := 17) rfl (by kernel_rfl) (fun K hK => ?_)
        go_simp
        have hS8a : (fun W' : World => W'.cell? ⟨w.heap.size, 0, none⟩ = some (.int .i64 f) ∧ W'.cell? ⟨w.heap.size, 1, none⟩ = some (.slice A n c) ∧ W'.cell? ⟨w.heap.size + 1, 0, none⟩ = some (.int .i64 g) ∧ W'.cell? ⟨w.heap.size + 1, 1, none⟩ = some (.slice B m d) ∧ W'.cell? ⟨w.heap.size + 1 + 1 + 1 + 1, 1, none⟩ = some (.slice (some ad) k c')) (w8.alloc (.cells #[.int .i64 j] 2)) := SS.out _ (hb8.alloc hb8.size _)
        refine hK _ _ (fun _ => hS8a) ?_; clear hK K; (try simp only [Act.put, List.setIfInBounds_toArray, List.set_cons_zero, List.set_cons_succ])
        refine wpAnyD_one (i := 18) rfl (by kernel_rfl) (fun K hK => ?_)
        refine step_app_intL (by rfl) _ _ (by rfl) (w.heap.size + 1 + 1 + 1) (jtL f x n xs g y m ys k) _ (by rfl) ((HL.out.later hb8).alloc _) ⟨w8.heap.size, 0, none⟩ j 1 (by rfl) (by simp [go_sem]) (by rw [jtL_len]; omega) (by have := hb8.size; simp; omega) ?_; intro A3 m3 c3 w9 ho9 hg9 hq9; have rw9 := own_rowI ((HL.out.later hb8).alloc (.cells #[.int .i64 j] 2)); have HL9 := Lib.hid ho9; have hR8 := bel_step hR hb8; have hR9 := (hR8.alloc hR8.size (.cells #[.int .i64 j] 2)).grown hg9 (by have := hR8.size; simp; omega) (fun q e => by have := rw9 q e; omega); have HO9 := Lib.hid (((blk_later HO.out hb8).alloc _).grown hg9 (fun e => (HQ.out _ e.symm) rfl)); have HR9 := Lib.hid (((blk_later HR.out hb8).alloc _).grown hg9 (fun e => by have := rw9 _ e.symm; omega)); have hl8 := (blk_later HO.out hb8).lt; have Q9 : Hid (∀ q, (Value.slice A3 m3 c3).ownBlock = some q → q ≠ w.heap.size + 1 + 1 + 1 + 1) := Lib.hid (fun q e => (by rcases hq9 q e with e1 | e1; exact HQ.out q e1; (simp at e1; omega))); obtain ⟨o0_9, o1_9, p0_9, p1_9⟩ := c2_cells HO9.out; clear ho9 hq9
        have hS9 : (fun W' : World => W'.cell? ⟨w.heap.size, 0, none⟩ = some (.int .i64 f) ∧ W'.cell? ⟨w.heap.size, 1, none⟩ = some (.slice A n c) ∧ W'.cell? ⟨w.heap.size + 1, 0, none⟩ = some (.int .i64 g) ∧ W'.cell? ⟨w.heap.size + 1, 1, none⟩ = some (.slice B m d) ∧ W'.cell? ⟨w.heap.size + 1 + 1 + 1 + 1, 1, none⟩ = some (.slice (some ad) k c')) w9 := ⟨(SA.out _ hR9).1, (SA.out _ hR9).2.1, (SA.out _ hR9).2.2.1, (SA.out _ hR9).2.2.2, o1_9⟩
        refine hK _ _ (fun _ => hS9) ?_; clear hK K; (try simp only [Act.put, List.setIfInBounds_toArray, List.set_cons_zero, List.set_cons_succ])
        refine wpAnyD_take (i := 19) (v := ?_) rfl (by kernel_rfl) (fun _ _ _ h => h) (Or.inl ⟨by rfl, ?_⟩) (by assumption) ?_; rotate_left; (intro w' hSw; (try dsimp only at hSw); go_simp; (try simp only [if_neg hcc, hqj, if_false]); with_reducible rfl); (try simp only [Act.put, List.setIfInBounds_toArray, List.set_cons_zero, List.set_cons_succ])
        refine wpAnyD_one (i := 20) rfl (by kernel_rfl) (fun K hK => ?_)
        go_simp
        refine hK _ _ (fun h => absurd rfl h) ?_; clear hK K
        refine wpAnyD_done (by kernel_rfl) ?_ _
        go_wp2
        go_roundw
        case rel => exact ⟨k + 1, by omega, by go_num, hR9.setCell (by show W0.heap.size ≤ w.heap.size + 1 + 1 + 1 + 1; omega) _, (HR9.out.far (by simp) _), A3, m3, c3, HO9.out.set_ 1 _, (by rw [HS.out]; exact HL9.out.off (grownBy_one _ _ _) Q9.out), Q9⟩
        case measure => simp [intOf]; omega
end Go.Proofs.Ytmefjjamkebinaa
