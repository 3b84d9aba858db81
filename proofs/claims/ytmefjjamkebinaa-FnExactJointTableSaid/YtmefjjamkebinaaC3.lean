/-
  Contracts of JointTable, of the program and of the reference.
-/
import Derived.Test.YtmefjjamkebinaaB3
import Derived.Test.YtmefjjamkebinaaJ5
set_option linter.unusedSimpArgs false
set_option linter.unusedVariables false
namespace Go.Proofs.Ytmefjjamkebinaa
open Go.RowKit
noncomputable def jtC (f x : Int) (n : Nat) (xs : List Int) (g y : Int) (m : Nat) (ys : List Int) : Int := prC f x n xs g y m ys true
def jtI (k v : Int) : Int := if k = 0 then v else 0
def jtX (k : Int) (zs : List Int) : List Int := if k = 0 then zs else []
set_option maxHeartbeats 2000000 in
theorem iJnt_any (f x : Int) (A : Option Addr) (n c : Nat) (xs : List Int) (g y : Int) (B : Option Addr) (m d : Nat) (ys : List Int) (K : Nat) (w : World) (h : RdI w w.heap.size A n xs) (hc : n ≤ c) (hcm : c ≤ maxLen) (hn : n ≤ 1048576) (h' : RdI w w.heap.size B m ys) (hd : m ≤ d) (hdm : d ≤ maxLen) (hm : m ≤ 1048576) (hK : f ≤ x → JK f x n xs g y m ys K) : Calls Try.prog 9 #[.agg #[.int .i64 f, .slice A n c], .int .i64 x, .agg #[.int .i64 g, .slice B m d], .int .i64 y] w fun e w' => ∃ A' m' c', e = .returned (.tuple #[.agg #[.int .i64 (jtI (jtC f x n xs g y m ys) x), .slice A' m' c'], .int .i64 (jtC f x n xs g y m ys)]) ∧ OwI w' w.heap.size (.slice A' m' c') (jtX (jtC f x n xs g y m ys) (jtL f x n xs g y m ys (K + 1))) ∧ Below w.heap.size w w' := by
  obtain ⟨W0, hW0⟩ : ∃ W0 : World, W0 = ((w.alloc (.cells #[.int .i64 f, .slice A n c] 26)).alloc (.cells #[.int .i64 g, .slice B m d] 26)).alloc (.cells #[.int .i64 0, .slice none 0 0] 26) := ⟨_, rfl⟩
  have hB0 : Below w.heap.size w W0 := by rw [hW0]; exact (((Below.refl _ _).alloc (Nat.le_refl _) _).alloc (by simp) _).alloc (by simp; omega) _
  have c0 : W0.cell? ⟨w.heap.size, 0, none⟩ = some (.int .i64 f) := by rw [hW0]; simp [go_sem]
  have c1 : W0.cell? ⟨w.heap.size, 1, none⟩ = some (.slice A n c) := by rw [hW0]; simp [go_sem]
  have c2 : W0.cell? ⟨w.heap.size + 1, 0, none⟩ = some (.int .i64 g) := by rw [hW0]; simp [go_sem]
  have c3 : W0.cell? ⟨w.heap.size + 1, 1, none⟩ = some (.slice B m d) := by rw [hW0]; simp [go_sem]
  have HR : Hid (Blk W0 (w.heap.size + 1 + 1) 26 #[.int .i64 0, .slice none 0 0]) := Lib.hid (by rw [hW0]; have := Blk.new ((w.alloc (.cells #[.int .i64 f, .slice A n c] 26)).alloc (.cells #[.int .i64 g, .slice B m d] 26)) 26 #[.int .i64 0, .slice none 0 0]; simpa using this)
  have x0 := fun X : InC W0 => X.cell c0
  have x1 := fun X : InC W0 => X.cell c1
  have x2 := fun X : InC W0 => X.cell c2
  have x3 := fun X : InC W0 => X.cell c3
  have HP : ∀ W, Below w.heap.size w W → Calls Try.prog 28 #[.agg #[.int .i64 f, .slice A n c], .int .i64 x, .agg #[.int .i64 g, .slice B m d], .int .i64 y, .int .i64 0] W (fun e w' => e = .returned (.int .i64 (jtC f x n xs g y m ys)) ∧ Below W.heap.size W w') := fun W hB => iPair_any f x A n c xs g y B m d ys 0 W ((h.below hB).more hB.size) hc hcm hn ((h'.below hB).more hB.size) hd hdm hm
  by_cases h0 : jtC f x n xs g y m ys = 0
  · obtain ⟨hT, hU, hx, hy, _, h1, h2⟩ := prC_split h0
    have hb1 := lv_bd hT (age := x) (by omega)
    have hb2 := lv_bd hU (age := y) (by omega)
    have HJ := Lib.hid (fun W (hB : Below w.heap.size w W) => iJt_any f x A n c xs g y B m d ys K W ((h.below hB).more hB.size) ((h'.below hB).more hB.size) hT hU hx hy (by omega) (hK hx.1))
    rw [h0] at HP ⊢
    have HP := Lib.hid HP
    show Calls _ _ _ _ (fun e w' => ∃ A' m' c', e = .returned (.tuple #[.agg #[.int .i64 x, .slice A' m' c'], .int .i64 0]) ∧ OwI w' w.heap.size (.slice A' m' c') (jtL f x n xs g y m ys (K + 1)) ∧ Below w.heap.size w w')
    generalize jtL f x n xs g y m ys (K + 1) = L at *
    clear h h' h0 hT hU hK h1 h2 hb1 hb2
    go_enter Try.func9, Try.ntmps9
    go_wp2_with fail
    try rw [← hW0]
    go_wp2_with (first
      | (go_at_call 28; (with_reducible refine Calls.mono (HP.out _ hB0) ?_); rintro ee w1 ⟨rfl, hb⟩; have hB1 := bel_step hB0 hb; have d0 := keepC hb c0; have d1 := keepC hb c1; have d2 := keepC hb c2; have d3 := keepC hb c3; have HR1 := Lib.hid (blk_later HR.out hb); obtain ⟨r0, r1, t0, t1⟩ := c2_cells HR1.out; clear hb)
      | (go_at_call 29; (with_reducible refine Calls.mono (HJ.out _ hB1) ?_); rintro ee w2 ⟨A2, m2, c2', rfl, ho, hb⟩; have hB2 := bel_step hB1 hb; have HR2 := Lib.hid (blk_later HR1.out hb); clear r0 r1 t0 t1; obtain ⟨r0, r1, t0, t1⟩ := c2_cells HR2.out; have HO := Lib.hid ho; have hlr := HR1.out.lt; clear ho hb))
    (try simp only [Exit.inBlock, Exit.then])
    refine bodyPost_ret (v := .tuple #[.agg #[.int .i64 x, .slice A2 m2 c2'], .int .i64 0]) (by simp [results, Try.results9, go_sem, *]) rfl ⟨A2, m2, c2', rfl, ?_, by have hB := hB2; go_grown⟩
    refine OwI.mono (base := w1.heap.size) ?_ hB1.size
    repeat (refine OwI.store ?_ hlr _)
    exact HO.out
  · have hk : jtC f x n xs g y m ys ≠ 0 := h0
    clear h0 hK
    generalize jtC f x n xs g y m ys = k at *
    show Calls _ _ _ _ (fun e w' => ∃ A' m' c', e = .returned (.tuple #[.agg #[.int .i64 (jtI k x), .slice A' m' c'], .int .i64 k]) ∧ OwI w' w.heap.size (.slice A' m' c') (jtX k (jtL f x n xs g y m ys (K + 1))) ∧ Below w.heap.size w w')
    rw [show jtI k x = 0 from if_neg hk, show jtX k (jtL f x n xs g y m ys (K + 1)) = [] from if_neg hk]
    have HP := Lib.hid HP
    have hk0 : (k == 0) = false := by rw [beq_eq_false_iff_ne]; exact hk
    clear h h' hk
    go_enter Try.func9, Try.ntmps9
    go_wp2_with fail
    try rw [← hW0]
    go_wp2_with (go_at_call 28; (with_reducible refine Calls.mono (HP.out _ hB0) ?_); rintro ee w1 ⟨rfl, hb⟩; have hB1 := bel_step hB0 hb; have HR1 := Lib.hid (blk_later HR.out hb); obtain ⟨r0, r1, t0, t1⟩ := c2_cells HR1.out; clear hb)
    (try simp only [Exit.inBlock, Exit.then])
    refine bodyPost_ret (v := .tuple #[.agg #[.int .i64 0, .slice none 0 0], .int .i64 k]) (by simp [results, Try.results9, go_sem, *]) rfl ⟨none, 0, 0, rfl, World.ownsRow_nil _ _ _ _, by have hB := hB1; go_grown⟩
set_option maxHeartbeats 2000000 in
theorem sJnt_any (f x : Int) (A : Option Addr) (n c : Nat) (xs : List Int) (g y : Int) (B : Option Addr) (m d : Nat) (ys : List Int) (K : Nat) (w : World) (h : RdI w w.heap.size A n xs) (hc : n ≤ c) (hcm : c ≤ maxLen) (hn : n ≤ 1048576) (h' : RdI w w.heap.size B m ys) (hd : m ≤ d) (hdm : d ≤ maxLen) (hm : m ≤ 1048576) (hK : f ≤ x → JK f x n xs g y m ys K) : Calls Try.prog 7 #[.agg #[.int .i64 f, .slice A n c], .int .i64 x, .agg #[.int .i64 g, .slice B m d], .int .i64 y] w fun e w' => ∃ A' m' c', e = .returned (.tuple #[.agg #[.int .i64 (jtI (jtC f x n xs g y m ys) x), .slice A' m' c'], .int .i64 (jtC f x n xs g y m ys)]) ∧ OwI w' w.heap.size (.slice A' m' c') (jtX (jtC f x n xs g y m ys) (jtL f x n xs g y m ys (K + 1))) ∧ Below w.heap.size w w' := by
  obtain ⟨W0, hW0⟩ : ∃ W0 : World, W0 = ((w.alloc (.cells #[.int .i64 f, .slice A n c] 26)).alloc (.cells #[.int .i64 g, .slice B m d] 26)).alloc (.cells #[.int .i64 0, .slice none 0 0] 26) := ⟨_, rfl⟩
  have hB0 : Below w.heap.size w W0 := by rw [hW0]; exact (((Below.refl _ _).alloc (Nat.le_refl _) _).alloc (by simp) _).alloc (by simp; omega) _
  have c0 : W0.cell? ⟨w.heap.size, 0, none⟩ = some (.int .i64 f) := by rw [hW0]; simp [go_sem]
  have c1 : W0.cell? ⟨w.heap.size, 1, none⟩ = some (.slice A n c) := by rw [hW0]; simp [go_sem]
  have c2 : W0.cell? ⟨w.heap.size + 1, 0, none⟩ = some (.int .i64 g) := by rw [hW0]; simp [go_sem]
  have c3 : W0.cell? ⟨w.heap.size + 1, 1, none⟩ = some (.slice B m d) := by rw [hW0]; simp [go_sem]
  have HR : Hid (Blk W0 (w.heap.size + 1 + 1) 26 #[.int .i64 0, .slice none 0 0]) := Lib.hid (by rw [hW0]; have := Blk.new ((w.alloc (.cells #[.int .i64 f, .slice A n c] 26)).alloc (.cells #[.int .i64 g, .slice B m d] 26)) 26 #[.int .i64 0, .slice none 0 0]; simpa using this)
  have x0 := fun X : InC W0 => X.cell c0
  have x1 := fun X : InC W0 => X.cell c1
  have x2 := fun X : InC W0 => X.cell c2
  have x3 := fun X : InC W0 => X.cell c3
  have HP : ∀ W, Below w.heap.size w W → Calls Try.prog 25 #[.agg #[.int .i64 f, .slice A n c], .int .i64 x, .agg #[.int .i64 g, .slice B m d], .int .i64 y, .bool true] W (fun e w' => e = .returned (.int .i64 (jtC f x n xs g y m ys)) ∧ Below W.heap.size W w') := fun W hB => sPair_any f x A n c xs g y B m d ys true W ((h.below hB).more hB.size) hc hcm hn ((h'.below hB).more hB.size) hd hdm hm
  by_cases h0 : jtC f x n xs g y m ys = 0
  · obtain ⟨hT, hU, hx, hy, _, h1, h2⟩ := prC_split h0
    have hb1 := lv_bd hT (age := x) (by omega)
    have hb2 := lv_bd hU (age := y) (by omega)
    have HJ := Lib.hid (fun W (hB : Below w.heap.size w W) => sJt_any f x A n c xs g y B m d ys K W ((h.below hB).more hB.size) ((h'.below hB).more hB.size) hT hU hx hy (by omega) (hK hx.1))
    rw [h0] at HP ⊢
    have HP := Lib.hid HP
    show Calls _ _ _ _ (fun e w' => ∃ A' m' c', e = .returned (.tuple #[.agg #[.int .i64 x, .slice A' m' c'], .int .i64 0]) ∧ OwI w' w.heap.size (.slice A' m' c') (jtL f x n xs g y m ys (K + 1)) ∧ Below w.heap.size w w')
    generalize jtL f x n xs g y m ys (K + 1) = L at *
    clear h h' h0 hT hU hK h1 h2 hb1 hb2
    go_enter Try.func7, Try.ntmps7
    go_wp2_with fail
    try rw [← hW0]
    go_wp2_with (first
      | (go_at_call 25; (with_reducible refine Calls.mono (HP.out _ hB0) ?_); rintro ee w1 ⟨rfl, hb⟩; have hB1 := bel_step hB0 hb; have d0 := keepC hb c0; have d1 := keepC hb c1; have d2 := keepC hb c2; have d3 := keepC hb c3; have HR1 := Lib.hid (blk_later HR.out hb); obtain ⟨r0, r1, t0, t1⟩ := c2_cells HR1.out; clear hb)
      | (go_at_call 26; (with_reducible refine Calls.mono (HJ.out _ hB1) ?_); rintro ee w2 ⟨A2, m2, c2', rfl, ho, hb⟩; have hB2 := bel_step hB1 hb; have HR2 := Lib.hid (blk_later HR1.out hb); clear r0 r1 t0 t1; obtain ⟨r0, r1, t0, t1⟩ := c2_cells HR2.out; have HO := Lib.hid ho; have hlr := HR1.out.lt; clear ho hb))
    (try simp only [Exit.inBlock, Exit.then])
    refine bodyPost_ret (v := .tuple #[.agg #[.int .i64 x, .slice A2 m2 c2'], .int .i64 0]) (by simp [results, Try.results7, go_sem, *]) rfl ⟨A2, m2, c2', rfl, ?_, by have hB := hB2; go_grown⟩
    refine OwI.mono (base := w1.heap.size) ?_ hB1.size
    repeat (refine OwI.store ?_ hlr _)
    exact HO.out
  · have hk : jtC f x n xs g y m ys ≠ 0 := h0
    clear h0 hK
    generalize jtC f x n xs g y m ys = k at *
    show Calls _ _ _ _ (fun e w' => ∃ A' m' c', e = .returned (.tuple #[.agg #[.int .i64 (jtI k x), .slice A' m' c'], .int .i64 k]) ∧ OwI w' w.heap.size (.slice A' m' c') (jtX k (jtL f x n xs g y m ys (K + 1))) ∧ Below w.heap.size w w')
    rw [show jtI k x = 0 from if_neg hk, show jtX k (jtL f x n xs g y m ys (K + 1)) = [] from if_neg hk]
    have HP := Lib.hid HP
    have hk0 : (k == 0) = false := by rw [beq_eq_false_iff_ne]; exact hk
    clear h h' hk
    go_enter Try.func7, Try.ntmps7
    go_wp2_with fail
    try rw [← hW0]
    go_wp2_with (go_at_call 25; (with_reducible refine Calls.mono (HP.out _ hB0) ?_); rintro ee w1 ⟨rfl, hb⟩; have hB1 := bel_step hB0 hb; have HR1 := Lib.hid (blk_later HR.out hb); obtain ⟨r0, r1, t0, t1⟩ := c2_cells HR1.out; clear hb)
    (try simp only [Exit.inBlock, Exit.then])
    refine bodyPost_ret (v := .tuple #[.agg #[.int .i64 0, .slice none 0 0], .int .i64 k]) (by simp [results, Try.results7, go_sem, *]) rfl ⟨none, 0, 0, rfl, World.ownsRow_nil _ _ _ _, by have hB := hB1; go_grown⟩
end Go.Proofs.Ytmefjjamkebinaa
