/-
  Contracts of spec.AddSpell and impl.AddSpell: the list with the spell added. Conditions: the slice reads as xs; n at most 1048576.
-/
import Derived.Test.YtldemcdocpdkfaaK5
import Derived.Test.YtldemcdocpdkfaaU5
import Derived.Test.YtldemcdocpdkfaaF5
import Derived.StillTailTactics
set_option linter.unusedSimpArgs false
set_option linter.unusedVariables false
namespace Go.Proofs.Ytldemcdocpdkfaa
open Go.ChangeShapes Go.WideShapes Go.ChangeAt Go.RowKit
theorem box_at {w : World} {g : Nat} {t : TypeId} {x y : Value} (h : w.heap[g]? = some (.cells #[x, y] t (0, 0))) : w.cell? ⟨g, 0, none⟩ = some x ∧ w.cell? ⟨g, 1, none⟩ = some y ∧ w.frozen? ⟨g, 0, none⟩ = false ∧ w.frozen? ⟨g, 1, none⟩ = false := by
  refine ⟨?_, ?_, ?_, ?_⟩ <;> simp [World.cell?, World.frozen?, h]
theorem box_set {w : World} {g : Nat} {t : TypeId} {x y x' y' : Value} (h : w.heap[g]? = some (.cells #[x, y] t (0, 0))) : ((w.setCell ⟨g, 0, none⟩ x').setCell ⟨g, 1, none⟩ y').heap[g]? = some (.cells #[x', y'] t (0, 0)) := by
  simp [World.setCell, Array.getElem?_modify, h]
theorem box_grown {w : World} {g : Nat} {x y : Value} : w.grownBy ((w.setCell ⟨g, 0, none⟩ x).setCell ⟨g, 1, none⟩ y) (some g) :=
  ⟨rfl, rfl, rfl, by simp [World.setCell], fun k hk hne => by
    have : g ≠ k := fun e => hne (by rw [e])
    simp [World.setCell, Array.getElem?_modify, this]⟩
theorem box_new (w : World) (o : Obj) : (w.alloc o).heap[w.heap.size]? = some o := by
  show (w.heap.push o)[w.heap.size]? = some o
  exact Array.getElem?_push_size
theorem grownBy_bel {a w w' : World} {row : Option Nat} (h : a.grownBy w row) (k : Below w.heap.size w w') : a.grownBy w' row :=
  ⟨k.os.trans h.os, k.tape.trans h.tape, k.output.trans h.output, Nat.le_trans h.size k.size, fun i hi hne => (k.block i (Nat.lt_of_lt_of_le hi h.size)).trans (h.block i hi hne)⟩
set_option maxHeartbeats 4000000 in
set_option maxRecDepth 100000 in
theorem sAdd_any (A : Option Addr) (n c : Nat) (xs : List (Int × Int)) (w : World) (h : RdP w w.heap.size A n xs) (a b : Int) (hn : n ≤ 1048576) : Calls Try.prog 39 #[.slice A n c, .agg #[.int .i64 a, .int .i64 b]] w fun e w' => ∃ A' m c', e = .returned (.tuple #[.slice A' m c', .int .i64 (addC xs a b)]) ∧ OwP w' w.heap.size (.slice A' m c') (addL xs a b) ∧ Below w.heap.size w w' := by
  have H := Lib.hid h
  have hl := h.len
  obtain ⟨W0, hW0⟩ : ∃ W0 : World, W0 = w.alloc (.cells #[.int .i64 a, .int .i64 b] 57) := ⟨_, rfl⟩
  have hB0 : Below w.heap.size w W0 := by rw [hW0]; exact (Below.refl _ _).alloc (Nat.le_refl _) _
  have c0 : W0.cell? ⟨w.heap.size, 0, none⟩ = some (.int .i64 a) := by rw [hW0]; simp [go_sem]
  have c1 : W0.cell? ⟨w.heap.size, 1, none⟩ = some (.int .i64 b) := by rw [hW0]; simp [go_sem]
  have hz0 : w.heap.size < W0.heap.size := by rw [hW0]; simp [go_sem]
  have HS := Lib.hid (fun W => sSpell_any a b W)
  have HC := fun W hR => sCk_any A n c xs W hR (spB a b) hn
  have hadC : addC xs a b = if spC xs (spB a b) = 0 then (if (addR a b xs).length ≤ 20 then 0 else 3) else spC xs (spB a b) := rfl
  have hadL : addL xs a b = if spC xs (spB a b) = 0 then (if (addR a b xs).length ≤ 20 then addR a b xs else []) else [] := rfl
  by_cases hK0 : spC xs (spB a b) = 0
  · rw [if_pos hK0] at hadC hadL
    have hpp : areS xs = true ∧ spB a b = true := by
      rcases spC_cases xs (spB a b) with ⟨_, p, q⟩ | ⟨p, _⟩ | ⟨p, _⟩
      · exact ⟨p, q⟩
      · rw [hK0] at p; cases p
      · rw [hK0] at p; cases p
    obtain ⟨ha, hb⟩ := hpp
    have hab := spB_iff.1 hb
    have hn20 := (areS_split ha).1
    rw [hl] at hn20
    rw [hK0] at HC
    rw [hb] at HC HS
    have HC := Lib.hid HC
    have HQ : Hid (addC xs a b = (if (addR a b xs).length ≤ 20 then 0 else 3) ∧ addL xs a b = (if (addR a b xs).length ≤ 20 then addR a b xs else [])) := Lib.hid ⟨hadC, hadL⟩
    clear hK0 h hb hadC hadL
    go_enter Try.func39, Try.ntmps39
    go_upto_region 1 with fail
    rw [← hW0]
    clear hW0
    have tok1 : True := trivial
    have tok2 : True := trivial
    go_wp2_with (first | (go_at_call 47; clear tok1; (with_reducible refine Calls.mono (HS.out _) ?_); rintro ee w1 ⟨rfl, hb1⟩; have hB1 := bel_step hB0 hb1) | (go_at_call 53; clear tok2; (with_reducible refine Calls.mono (HC.out _ (H.out.later hB1)) ?_); rintro ee w2 ⟨rfl, hb2⟩; have hB2 := bel_step hB1 hb2))
    have hb12 := bel_step hb1 hb2
    have d0 := keepC hb12 c0
    have d1 := keepC hb12 c1
    have hs2 := hB2.size
    have hz2 := hb12.size
    have hm2 := hb2.size
    have hm1 := hb1.size
    clear c0 c1 hb1 hb2
    go_loopw [7, 8] (fun v i wr => ∃ k : Nat, k ≤ n ∧ i = .int .i64 k ∧ (∃ A' m c', v = .slice A' m c') ∧ OwP wr w2.heap.size v (lowL a (xs.take k)) ∧ Below w2.heap.size w2 wr) (fun _ i _ => n - (intOf i).toNat)
    case atStart => exact ⟨0, Nat.zero_le _, rfl, ⟨_, _, _, rfl⟩, ownEmptyP _ _ (Nat.le_refl _), al_ _ _⟩
    case round =>
      obtain ⟨k, hk, rfl, ⟨A', m', c', rfl⟩, ho, hR⟩ := hrel
      have HO := Lib.hid ho
      have hcl := (addL_len a b (xs.take k)).1
      have hkl : (xs.take k).length ≤ 20 := by rw [List.length_take]; omega
      clear ho
      have hR2 := bel_step hB2 hR
      have hr2 := hR.size
      by_cases hlt : k < n
      · obtain ⟨ad, f, t, rfl, hbk, hz, hx, hy⟩ := RdP.atP (H.out.later hR2) hlt
        have f0 : ∀ x : InC wr, x.w.cell? ⟨w.heap.size, 0, none⟩ = some (.int .i64 a) := fun x => x.cell (keepC hR d0)
        have f1 : ∀ x : InC wr, x.w.cell? (ad.add (k * 2)) = some (.int .i64 f) := fun x => x.cell hx
        have f2 : ∀ x : InC wr, x.w.cell? ⟨(ad.add (k * 2)).block, (ad.add (k * 2)).off + 1, none⟩ = some (.int .i64 t) := fun x => x.cell hy
        have HF := Lib.hid (lowL_at (a := a) hz)
        have hkn : (k : Int) < (n : Int) := by omega
        cases hq : decide (t < a) with
        | true =>
          have HT : Hid (lowL a (xs.take (k + 1)) = lowL a (xs.take k) ++ [(f, t)]) := Lib.hid (by rw [HF.out, if_pos (of_decide_eq_true hq)])
          clear HF hz
          go_wp2_with fail
          (refine wp_region_inC (by kernel_rfl) (by kernel_rfl) ?_; (repeat go_big_quiet_step (fail)); refine wpQuiet_nil ?_; rintro w3 ⟨⟨_, hb3⟩, rfl⟩)
          have hx3 := keepC hb3 hx
          have hy3 := keepC hb3 hy
          have hm3 := hb3.size
          go_wp2_with (at_builtin; refine wpl_app_spell rfl _ _ rfl w2.heap.size (lowL a (xs.take k)) _ (by rfl) ((HO.out.later hb3).later (al_ w3 _)) ⟨w3.heap.size, 0, none⟩ f t 1 (by rfl) (by simp [go_sem]) (by simp [go_sem, Addr.add]) (by omega) (by simp; omega) ?_; intro v' w4 ho4 hg4; obtain ⟨A4, m4, c4, rfl⟩ := ho4.sl; have HO4 := Lib.hid ho4; clear ho4)
          go_roundw
          case rel => exact ⟨k + 1, by omega, by go_num, ⟨_, _, _, rfl⟩, by rw [HT.out]; exact HO4.out, (bel_step hR (hb3.trans ((al_ w3 _).mono hb3.size))).grown hg4 (Nat.le_trans hr2 (by simp; omega)) (own_row HO.out)⟩
          case measure => simp [intOf]; omega
        | false =>
          have HT : Hid (lowL a (xs.take (k + 1)) = lowL a (xs.take k)) := Lib.hid (by rw [HF.out, if_neg (of_decide_eq_false hq), List.append_nil])
          clear HF hz
          go_wp2_with fail
          (refine wp_region_inC (by kernel_rfl) (by kernel_rfl) ?_; (repeat go_big_quiet_step (fail)); refine wpQuiet_nil ?_; rintro w3 ⟨⟨_, hb3⟩, rfl⟩)
          go_wp2
          go_roundw
          case rel => exact ⟨k + 1, by omega, by go_num, ⟨_, _, _, rfl⟩, by rw [HT.out]; exact HO.out.later hb3, bel_step hR hb3⟩
          case measure => simp [intOf]; omega
      · have hkn : k = n := by omega
        have htk : xs.take k = xs := List.take_of_length_le (by omega)
        rw [htk] at HO hcl
        have hJ0 := joinS_inv ha ⟨hab.1.1, hab.2.2, hab.2.1.2⟩
        have e0 := keepC hR d0
        have e1 := keepC hR d1
        clear htk hkl
        subst hkn
        rename World => wl
        go_wp2
        go_loopw [10] (fun i wq => ∃ q : Nat, q ≤ k ∧ i = .int .i64 q ∧ wl.grownBy wq (some wl.heap.size) ∧ wq.heap[wl.heap.size]? = some (.cells #[.int .i64 (joinS a b (xs.take q)).1, .int .i64 (joinS a b (xs.take q)).2] 57 (0, 0))) (fun i _ => k - (intOf i).toNat)
        case atStart => exact ⟨0, Nat.zero_le _, rfl, World.grownBy_alloc _ _ _, box_new _ _⟩
        case round =>
          obtain ⟨q, hq, rfl, hG, hbx⟩ := hrel
          have hGs : wl.heap.size < wr.heap.size := (Array.getElem?_eq_some_iff.1 hbx).1
          have hJ := hJ0 q (by omega)
          generalize hjj : joinS a b (xs.take q) = jj at *
          obtain ⟨j0, j1⟩ := jj
          simp only at hbx hJ
          have hB6 := hR2.grown hG (by omega) (fun b e => by cases e; omega)
          by_cases hlt : q < k
          · obtain ⟨ad, f, t, rfl, hbk, hz, hx, hy⟩ := RdP.atP (H.out.later hB6) hlt
            have hkn : (q : Int) < (k : Int) := by omega
            have hws : wl.heap.size ≤ wr.heap.size := by omega
            have k0 : wr.cell? ⟨w.heap.size, 0, none⟩ = some (.int .i64 a) := (hG.cell_far _ (by simp only; omega) (by simp; omega)).trans e0
            have k1 : wr.cell? ⟨w.heap.size, 1, none⟩ = some (.int .i64 b) := (hG.cell_far _ (by simp only; omega) (by simp; omega)).trans e1
            have f0 : ∀ x : InC wr, x.w.cell? ⟨w.heap.size, 0, none⟩ = some (.int .i64 a) := fun x => x.cell k0
            have f1 : ∀ x : InC wr, x.w.cell? ⟨w.heap.size, 1, none⟩ = some (.int .i64 b) := fun x => x.cell k1
            have f2 : ∀ x : InC wr, x.w.cell? (ad.add (q * 2)) = some (.int .i64 f) := fun x => x.cell hx
            have f3 : ∀ x : InC wr, x.w.cell? ⟨(ad.add (q * 2)).block, (ad.add (q * 2)).off + 1, none⟩ = some (.int .i64 t) := fun x => x.cell hy
            have HF := Lib.hid (joinS_at (a := a) (b := b) hz)
            have hcase : (decide (a ≤ t) = false ∧ Hid (outB a b (f, t) = true)) ∨ (decide (a ≤ t) = true ∧ decide (f ≤ b) = false ∧ Hid (outB a b (f, t) = true)) ∨ (decide (a ≤ t) = true ∧ decide (f ≤ b) = true ∧ Hid (outB a b (f, t) = false)) := by
              unfold outB Hid
              by_cases p1 : a ≤ t
              · by_cases p2 : f ≤ b
                · refine .inr (.inr ⟨decide_eq_true p1, decide_eq_true p2, ?_⟩)
                  simp only [decide_eq_false (show ¬ t < a by omega), decide_eq_false (show ¬ b < f by omega), Bool.or_false]
                · refine .inr (.inl ⟨decide_eq_true p1, decide_eq_false p2, ?_⟩)
                  simp only [decide_eq_true (show b < f by omega), Bool.or_true]
              · refine .inl ⟨decide_eq_false p1, ?_⟩
                simp only [decide_eq_true (show t < a by omega), Bool.true_or]
            have HE1 : outB a b (f, t) = true → joinS a b (xs.take (q + 1)) = (j0, j1) := fun e => by rw [HF.out, hjj]; exact if_pos e
            have HE2 : outB a b (f, t) = false → joinS a b (xs.take (q + 1)) = (if f < j0 then f else j0, if j1 < t then t else j1) := fun e => by
              rw [HF.out, hjj]
              refine (if_neg (by rw [e]; simp)).trans ?_
              refine Prod.ext ?_ ?_
              · show min j0 f = (if f < j0 then f else j0)
                split <;> omega
              · show max j1 t = (if j1 < t then t else j1)
                split <;> omega
            clear HQ HS HC hJ0 HO hz HF
            rcases hcase with ⟨p1, HT⟩ | ⟨p1, p2, HT⟩ | ⟨p1, p2, HT⟩
            · have HV := Lib.hid (HE1 HT.out)
              clear HE1 HE2 HT
              go_wp2_with fail
              (refine wp_region_inC (by kernel_rfl) (by kernel_rfl) ?_; (repeat go_big_quiet_step (fail)); refine wpQuiet_nil ?_; rintro w3 ⟨⟨_, hb3⟩, rfl⟩)
              go_wp2
              go_roundw
              case rel => exact ⟨q + 1, by omega, by go_num, grownBy_bel hG hb3, by rw [HV.out]; exact (hb3.block _ hGs).trans hbx⟩
              case measure => simp [intOf]; omega
            · have HV := Lib.hid (HE1 HT.out)
              clear HE1 HE2 HT
              go_wp2_with fail
              (refine wp_region_inC (by kernel_rfl) (by kernel_rfl) ?_; (repeat go_big_quiet_step (fail)); refine wpQuiet_nil ?_; rintro w3 ⟨⟨_, hb3⟩, rfl⟩)
              go_wp2
              go_roundw
              case rel => exact ⟨q + 1, by omega, by go_num, grownBy_bel hG hb3, by rw [HV.out]; exact (hb3.block _ hGs).trans hbx⟩
              case measure => simp [intOf]; omega
            · have HV := Lib.hid (HE2 HT.out)
              clear HE1 HE2 HT
              go_wp2_with fail
              (refine wp_region_inC (by kernel_rfl) (by kernel_rfl) ?_; (repeat go_big_quiet_step (fail)); refine wpQuiet_nil ?_; rintro w3 ⟨⟨_, hb3⟩, rfl⟩)
              go_wp2
              have x0 := keepC hb3 hx
              have x1 := keepC hb3 hy
              have hbx3 := (hb3.block _ hGs).trans hbx
              have hG3 := grownBy_bel hG hb3
              clear f0 f1 f2 f3 hx hy k0 k1 e0 e1 d0 d1
              obtain ⟨x2, x3, _, _⟩ := box_at hbx3
              go_still_tail 17, (by kernel_rfl)
              have hG4 : wl.grownBy w3.drew (some wl.heap.size) := hG3.trans ⟨rfl, rfl, rfl, Nat.le_refl _, fun _ _ _ => rfl⟩
              have hbx4 : w3.drew.heap[wl.heap.size]? = _ := hbx3
              clear x0 x1 x2 x3
              change wpList _ _ _ _ _ w3.drew
              generalize w3.drew = w4 at *
              obtain ⟨z0, z1, z2, z3⟩ := box_at hbx4
              go_wp2
              go_roundw
              case rel => exact ⟨q + 1, by omega, by go_num, hG4.trans box_grown, by rw [HV.out]; exact box_set hbx4⟩
              case measure => simp [intOf]; omega
          · have hqk : q = k := by omega
            subst hqk
            rw [List.take_of_length_le (show xs.length ≤ q by omega)] at hjj
            have HO6 : OwP wr w2.heap.size (.slice A' m' c') (lowL a xs) := World.ownsRow.kept HO.out hG (by
              rcases HO.out.form with ⟨h1, _⟩ | ⟨g, cap, h1, h2, h3⟩
              · exact .inl (by rw [h1]; rfl)
              · refine .inr ?_
                rw [h1]
                intro e
                simp only [Value.ownBlock, Option.some.injEq] at e
                omega)
            have HO6 := Lib.hid HO6
            have hB7 := hR.grown hG hr2 (fun b e => by cases e; omega)
            have k0 := keepC hB7 d0
            have k1 := keepC hB7 d1
            obtain ⟨z0, z1, _, _⟩ := box_at hbx
            have hws : wl.heap.size ≤ wr.heap.size := hG.size
            clear HO hJ0 e0 e1
            go_wp2_with (at_builtin; refine wpl_app_spell rfl _ _ rfl w2.heap.size (lowL a xs) _ (by rfl) (HO6.out.alloc _) ⟨wr.heap.size, 0, none⟩ j0 j1 1 (by rfl) (by simp [go_sem]) (by simp [go_sem, Addr.add]) (by omega) (by simp; omega) ?_; intro v7 w7 ho7 hg7; obtain ⟨A7, m7, c7, rfl⟩ := ho7.sl; have HO7 := Lib.hid ho7; clear ho7)
            have ht7 := hg7.size
            have hw7 : wr.heap.size + 1 ≤ w7.heap.size := by simpa using ht7
            have hB8 : Below w2.heap.size w2 w7 := (bel_step hB7 (al_ wr _)).grown hg7 (by have := hB7.size; simp; omega) (own_row HO6.out)
            have hh7 := hB8.size
            have hlen := addR_len hab.2.2 ha (a := a) (b := b)
            have hlh := (addL_len a b xs).1
            clear hG hbx z0 z1 HO6 k0 k1 hg7 hJ
            go_loopw [7, 11] (fun v i wq => ∃ z : Nat, z ≤ q ∧ i = .int .i64 z ∧ (∃ A' m' c', v = .slice A' m' c') ∧ OwP wq w2.heap.size v ((lowL a xs ++ [(j0, j1)]) ++ highL b (xs.take z)) ∧ Below w2.heap.size w2 wq) (fun _ i _ => q - (intOf i).toNat)
            case atStart => exact ⟨0, Nat.zero_le _, rfl, ⟨_, _, _, rfl⟩, by simpa [highL] using HO7.out, hB8⟩
            case round =>
              obtain ⟨z, hz0, rfl, ⟨A8, m8, c8, rfl⟩, ho, hR3⟩ := hrel
              have HO8 := Lib.hid ho
              have hh3 := (addL_len a b (xs.take z)).2.1
              have hkl : (xs.take z).length ≤ 20 := by rw [List.length_take]; omega
              clear ho
              have hR4 := bel_step hB2 hR3
              have hr4 := hR3.size
              have k1 := keepC hR3 d1
              by_cases hlt : z < q
              · obtain ⟨ad, f, t, rfl, hbk, hz, hx, hy⟩ := RdP.atP (H.out.later hR4) hlt
                have f1 : ∀ x : InC wr, x.w.cell? ⟨w.heap.size, 1, none⟩ = some (.int .i64 b) := fun x => x.cell k1
                have f2 : ∀ x : InC wr, x.w.cell? (ad.add (z * 2)) = some (.int .i64 f) := fun x => x.cell hx
                have HF := Lib.hid (highL_at (b := b) hz)
                have hkn : (z : Int) < (q : Int) := by omega
                cases hq : decide (b < f) with
                | true =>
                  have HT : Hid (highL b (xs.take (z + 1)) = highL b (xs.take z) ++ [(f, t)]) := Lib.hid (by rw [HF.out, if_pos (of_decide_eq_true hq)])
                  clear HF hz HC HQ hlen
                  go_wp2_with fail
                  (refine wp_region_inC (by kernel_rfl) (by kernel_rfl) ?_; (repeat go_big_quiet_step (fail)); refine wpQuiet_nil ?_; rintro w3 ⟨⟨_, hb3⟩, rfl⟩)
                  have hx3 := keepC hb3 hx
                  have hy3 := keepC hb3 hy
                  have hm3 := hb3.size
                  clear f1 f2 hx hy k1 d0 d1
                  go_wp2_with (at_builtin; refine wpl_app_spell rfl _ _ rfl w2.heap.size ((lowL a xs ++ [(j0, j1)]) ++ highL b (xs.take z)) _ (by rfl) ((HO8.out.later hb3).later (al_ w3 _)) ⟨w3.heap.size, 0, none⟩ f t 1 (by rfl) (by simp [go_sem]) (by simp [go_sem, Addr.add]) (by simp; omega) (by simp; omega) ?_; intro v' w4 ho4 hg4; obtain ⟨A4, m4, c4, rfl⟩ := ho4.sl; have HO4 := Lib.hid ho4; clear ho4)
                  go_roundw
                  case rel => exact ⟨z + 1, by omega, by go_num, ⟨_, _, _, rfl⟩, by rw [HT.out, ← List.append_assoc]; exact HO4.out, (bel_step hR3 (hb3.trans ((al_ w3 _).mono hb3.size))).grown hg4 (Nat.le_trans hr4 (by simp; omega)) (own_row HO8.out)⟩
                  case measure => simp [intOf]; omega
                | false =>
                  have HT : Hid (highL b (xs.take (z + 1)) = highL b (xs.take z)) := Lib.hid (by rw [HF.out, if_neg (of_decide_eq_false hq), List.append_nil])
                  clear HF hz HC HQ hlen
                  go_wp2_with fail
                  (refine wp_region_inC (by kernel_rfl) (by kernel_rfl) ?_; (repeat go_big_quiet_step (fail)); refine wpQuiet_nil ?_; rintro w3 ⟨⟨_, hb3⟩, rfl⟩)
                  go_wp2
                  go_roundw
                  case rel => exact ⟨z + 1, by omega, by go_num, ⟨_, _, _, rfl⟩, by rw [HT.out]; exact HO8.out.later hb3, bel_step hR3 hb3⟩
                  case measure => simp [intOf]; omega
              · have hzq : z = q := by omega
                subst hzq
                have hE : (lowL a xs ++ [(j0, j1)]) ++ highL b (xs.take z) = addR a b xs := by
                  rw [List.take_of_length_le (show xs.length ≤ z by omega)]
                  unfold addR
                  rw [hjj, List.append_assoc]
                  rfl
                rw [hE] at HO8
                have hm8 := HO8.out.rd.1
                have HO9 := Lib.hid (HO8.out.mono hs2)
                clear HO8 hE hh3 hkl d0 d1 k1 HO7 hcl
                by_cases hc : (addR a b xs).length ≤ 20
                · rw [if_pos hc, if_pos hc] at HQ
                  generalize addR a b xs = R at *
                  subst hm8
                  have hcc : (R.length : Int) ≤ 20 := by omega
                  go_wp2
                  go_returns
                  exact ⟨_, _, _, by rw [HQ.out.1]; rfl, by rw [HQ.out.2]; exact HO9.out, hR4⟩
                · rw [if_neg hc, if_neg hc] at HQ
                  generalize addR a b xs = R at *
                  subst hm8
                  have hcc : 20 < (R.length : Int) := by omega
                  go_wp2
                  go_returns
                  exact ⟨none, 0, 0, by rw [HQ.out.1]; rfl, by rw [HQ.out.2]; exact World.ownsRow_nil _ _ _ _, hR4⟩
  · rw [if_neg hK0] at hadC hadL
    have hK1 : (spC xs (spB a b) != 0) = true := by simp [hK0]
    have HQ : Hid (addC xs a b = spC xs (spB a b) ∧ addL xs a b = []) := Lib.hid ⟨hadC, hadL⟩
    generalize spC xs (spB a b) = K at *
    generalize spB a b = sb at *
    have HC := Lib.hid HC
    clear hK0 h hadC hadL
    go_enter Try.func39, Try.ntmps39
    go_upto_region 1 with fail
    rw [← hW0]
    clear hW0
    have tok1 : True := trivial
    have tok2 : True := trivial
    go_wp2_with (first | (go_at_call 47; clear tok1; (with_reducible refine Calls.mono (HS.out _) ?_); rintro ee w1 ⟨rfl, hb1⟩; have hB1 := bel_step hB0 hb1) | (go_at_call 53; clear tok2; (with_reducible refine Calls.mono (HC.out _ (H.out.later hB1)) ?_); rintro ee w2 ⟨rfl, hb2⟩; have hB2 := bel_step hB1 hb2))
    go_returns
    exact ⟨none, 0, 0, by rw [HQ.out.1]; rfl, by rw [HQ.out.2]; exact World.ownsRow_nil _ _ _ _, hB2⟩
end Go.Proofs.Ytldemcdocpdkfaa
