/-
  Contracts of the functions of chapter 14: a copy of a list, Remarry.
-/
import Derived.Test.YtmgaooinkdmpbaaH4
import Derived.Test.YtmgaooinkdmpbaaD4
import Derived.Laws.AppendOwnNone
set_option linter.unusedSimpArgs false
set_option linter.unusedVariables false
namespace Go.Proofs.Ytmgaooinkdmpbaa
open Go.RowKit
theorem ownEmpty (w : World) (base : Nat) (h : base ≤ w.heap.size) : OwI (w.alloc (.cells #[] 2)) base (.slice (some ⟨w.heap.size, 0, none⟩) 0 0) [] :=
  World.ownsRow_lit (base := base) (e := 2) (size := 1) w #[] 0 h (by unfold maxLen; omega) rfl
theorem OwI.sl {w : World} {base : Nat} {v : Value} {zs : List Int} (h : OwI w base v zs) : ∃ A m c, v = .slice A m c := by
  rcases h.form with ⟨h1, _⟩ | ⟨g, cap, h1, _⟩
  · exact ⟨_, _, _, h1⟩
  · exact ⟨_, _, _, h1⟩
/-- append of a list that reads to a slice of the call's own -/
theorem wpl_app_ints {ops : Array Oper} {rest : List Oper} {o : Oper} {a : Act} {Q : Exit → Act → World → Prop} {w : World} (hgd : o.guard = none) (s x : Operand)
    (ho : o.op = .call { callee := .builtin .append, args := #[s, x], argTypes := #[22, 22] })
    (base : Nat) (zs : List Int) (v : Value) (hs : a.eval s = v) (hown : OwI w base v zs) (B : Nat) (A : Option Addr) (m c : Nat) (src : List Int) (hx : a.eval x = .slice A m c) (hr : RdI w B A m src) (hA : A = none → c = 0) (hl : zs.length + m ≤ 3000000) (hbase : base ≤ w.heap.size)
    (h : ∀ v' w', OwI w' base v' (zs ++ src) → w.grownBy w' v.ownBlock → wpList Try.prog ops Q rest (a.put o.dst v') w') : wpList Try.prog ops Q (o :: rest) a w := by
  have HN : (Try.prog.info? 2).map (fun i => (i.zero, i.size, i.bytes)) = some (some (.int .i64 0), 1, 8) := by kernel_rfl
  obtain ⟨i0, hi, hz0, hz1, hz2⟩ := info_parts HN
  cases A with
  | none =>
    have hm : m = 0 := by
      rcases Nat.eq_zero_or_pos m with h0 | h0
      · exact h0
      · obtain ⟨ad, h1, _⟩ := hr.2 h0
        cases h1
    have hsrc : src = [] := List.eq_nil_of_length_eq_zero (by rw [hr.len, hm])
    have hc := hA rfl
    subst hm hc hsrc
    refine wpList_append_own_none hgd s x 22 ho base 2 i0 1 Try.underlying22 hi v zs.length (zs.map (Value.int .i64)) hs hown hx ?_
    have := h v w (by rw [List.append_nil]; exact hown) (World.grownBy.refl _ _)
    exact this
  | some ad =>
    refine wpList_append_own w hgd s x 22 ho base 2 i0 (.int .i64 0) 1 8 Try.underlying22 hi hz0 hz1 hz2 rfl (by decide) v zs.length (zs.map (Value.int .i64)) hs hown ad m c (src.map (Value.int .i64)) hx (by rw [List.length_map, hr.len, Nat.mul_one]) ?_ ?_ ?_ ?_ hbase ?_
    · intro j u hj
      rw [List.getElem?_map] at hj
      cases hz : src[j]? with
      | none => rw [hz] at hj; cases hj
      | some z =>
        rw [hz] at hj
        simp only [Option.map_some, Option.some.injEq] at hj
        subst hj
        have hjl : j < m := by have := (List.getElem?_eq_some_iff.1 hz).1; rw [hr.len] at this; exact this
        obtain ⟨ad', z', e1, _, e2, e3⟩ := RdI.atI hr hjl
        cases e1
        rw [hz] at e2
        cases e2
        exact e3
    · intro u hu
      simp only [List.mem_map] at hu
      obtain ⟨z, _, rfl⟩ := hu
      rfl
    · unfold maxLen; omega
    · omega
    · intro v' w' h1 h2 _
      refine h v' w' ?_ h2
      unfold OwI
      rw [List.length_append, List.map_append, hr.len]
      exact h1
set_option maxHeartbeats 1000000 in
theorem sOwn_any (A : Option Addr) (n c : Nat) (xs : List Int) (w : World) (h : RdI w w.heap.size A n xs) (hA : A = none → c = 0) (hn : n ≤ 1048576) : Calls Try.prog 40 #[.slice A n c] w fun e w' => ∃ A' m' c', e = .returned (.slice A' m' c') ∧ OwI w' w.heap.size (.slice A' m' c') xs ∧ Below w.heap.size w w' := by
  have H := Lib.hid (h.cur (.cells #[] 2))
  clear h
  go_enter Try.func40, Try.ntmps40
  go_wp2_with (at_builtin; refine wpl_app_ints rfl _ _ rfl w.heap.size [] _ (by rfl) (ownEmpty w _ (Nat.le_refl _)) _ A n c xs (by rfl) H.out hA (by simp; omega) (by simp) ?_; intro v' w1 ho hg; obtain ⟨A1, m1, c1, rfl⟩ := ho.sl; rw [List.nil_append] at ho; have HO := Lib.hid ho; clear ho)
  go_ret
  exact ⟨_, _, _, rfl, HO.out, ((Below.refl _ _).alloc (Nat.le_refl _) _).grown hg (by simp) (some_le (Nat.le_refl _))⟩
set_option maxHeartbeats 1000000 in
theorem clone_any (A : Option Addr) (n c : Nat) (xs : List Int) (w : World) (h : RdI w w.heap.size A n xs) (hA : A = none → c = 0) (hn : n ≤ 1048576) : Calls Try.prog 44 #[.slice A n c] w fun e w' => ∃ A' m' c', e = .returned (.slice A' m' c') ∧ OwI w' w.heap.size (.slice A' m' c') xs ∧ Below w.heap.size w w' := by
  cases A with
  | none =>
    have hm : n = 0 := by
      rcases Nat.eq_zero_or_pos n with h0 | h0
      · exact h0
      · obtain ⟨ad, h1, _⟩ := h.2 h0
        cases h1
    have hx : Hid (xs = []) := List.eq_nil_of_length_eq_zero (by rw [h.len, hm])
    have hc := hA rfl
    subst hc
    clear h hm
    have e1 := @Lib.run_eql_slice_nil Try.prog
    go_enter Try.func44, Try.ntmps44
    go_wp2
    go_ret
    exact ⟨none, 0, 0, rfl, by rw [hx.out]; exact World.ownsRow_nil _ _ _ _, Below.refl _ _⟩
  | some ad =>
    have H := Lib.hid (h.cur (.cells #[] 2))
    clear h
    have e1 := @Lib.run_eql_slice_nil Try.prog
    go_enter Try.func44, Try.ntmps44
    go_wp2_with (at_builtin; refine wpl_app_ints rfl _ _ rfl w.heap.size [] _ (by rfl) (ownEmpty w _ (Nat.le_refl _)) _ (some ad) n c xs (by rfl) H.out hA (by simp; omega) (by simp) ?_; intro v' w1 ho hg; obtain ⟨A1, m1, c1, rfl⟩ := ho.sl; rw [List.nil_append] at ho; have HO := Lib.hid ho; clear ho)
    go_ret
    exact ⟨_, _, _, rfl, HO.out, ((Below.refl _ _).alloc (Nat.le_refl _) _).grown hg (by simp) (some_le (Nat.le_refl _))⟩
noncomputable def rmC (d m wd lf : Int) (n : Nat) (xs : List Int) (x : Int) : Int := if faC d m wd lf n xs (inR 0 35999 x) = 0 then (if widB wd lf x = true then 0 else 5) else faC d m wd lf n xs (inR 0 35999 x)
def rmI (k v : Int) : Int := if k = 0 then v else 0
def rmL (k : Int) (xs : List Int) : List Int := if k = 0 then xs else []
theorem rmL_len (k : Int) (xs : List Int) : (rmL k xs).length ≤ xs.length := by unfold rmL; split <;> simp
theorem rm_bad {d m wd lf : Int} {n : Nat} {xs : List Int} {x : Int} (h : faC d m wd lf n xs (inR 0 35999 x) ≠ 0) : rmC d m wd lf n xs x = faC d m wd lf n xs (inR 0 35999 x) := if_neg h
theorem rm_5 {d m wd lf : Int} {n : Nat} {xs : List Int} {x : Int} (h : faC d m wd lf n xs (inR 0 35999 x) = 0) (h2 : widB wd lf x = false) : rmC d m wd lf n xs x = 5 := by unfold rmC; rw [if_pos h, h2]; rfl
theorem rm_0 {d m wd lf : Int} {n : Nat} {xs : List Int} {x : Int} (h : faC d m wd lf n xs (inR 0 35999 x) = 0) (h2 : widB wd lf x = true) : rmC d m wd lf n xs x = 0 := by unfold rmC; rw [if_pos h, h2]; rfl
theorem rmI_k {k v : Int} (h : k ≠ 0) : rmI k v = 0 := if_neg h
theorem rmL_k {k : Int} {xs : List Int} (h : k ≠ 0) : rmL k xs = [] := if_neg h
theorem blk_later {w w' : World} {g : Nat} {t : TypeId} {cs : Array Value} (h : Blk w g t cs) (hb : Below w.heap.size w w') : Blk w' g t cs := h.below hb h.lt
theorem f5_cells {W : World} {g : Nat} {d m wd lf : Int} {A : Option Addr} {n c : Nat} (h : Blk W g 26 #[.int .i64 d, .int .i64 m, .int .i64 wd, .int .i64 lf, .slice A n c]) : W.cell? ⟨g, 0, none⟩ = some (.int .i64 d) ∧ W.cell? ⟨g, 1, none⟩ = some (.int .i64 m) ∧ W.cell? ⟨g, 2, none⟩ = some (.int .i64 wd) ∧ W.cell? ⟨g, 3, none⟩ = some (.int .i64 lf) ∧ W.cell? ⟨g, 4, none⟩ = some (.slice A n c) ∧ W.frozen? ⟨g, 0, none⟩ = false ∧ W.frozen? ⟨g, 1, none⟩ = false ∧ W.frozen? ⟨g, 2, none⟩ = false ∧ W.frozen? ⟨g, 3, none⟩ = false ∧ W.frozen? ⟨g, 4, none⟩ = false :=
  ⟨h.cell 0, h.cell 1, h.cell 2, h.cell 3, h.cell 4, h.frozen 0, h.frozen 1, h.frozen 2, h.frozen 3, h.frozen 4⟩
set_option maxHeartbeats 2000000 in
theorem iRem_any (d m wd lf : Int) (A : Option Addr) (n c : Nat) (xs : List Int) (x : Int) (w : World) (h : RdI w w.heap.size A n xs) (hc : n ≤ c) (hcm : c ≤ maxLen) (hn : n ≤ 1048576) (hA : A = none → c = 0) : Calls Try.prog 9 #[.agg #[.int .i64 d, .int .i64 m, .int .i64 wd, .int .i64 lf, .slice A n c], .int .i64 x] w (fun ee w' => ∃ A' m' c', ee = .returned (.tuple #[.agg #[.int .i64 (rmI (rmC d m wd lf n xs x) d), .int .i64 (rmI (rmC d m wd lf n xs x) m), .int .i64 (rmI (rmC d m wd lf n xs x) wd), .int .i64 (rmI (rmC d m wd lf n xs x) x), .slice A' m' c'], .int .i64 (rmC d m wd lf n xs x)]) ∧ OwI w' w.heap.size (.slice A' m' c') (rmL (rmC d m wd lf n xs x) xs) ∧ Below w.heap.size w w') := by
  have HC := fun W hR B hz => iCkF_any d m wd lf A n c xs B 1 1 [x] none 0 0 [] W hR hc hcm hn hz RdS.nil_ (by omega) (by omega)
  rw [all_1] at HC
  have H := Lib.hid h
  have hW : Below w.heap.size w ((w.alloc (.cells #[.int .i64 d, .int .i64 m, .int .i64 wd, .int .i64 lf, .slice A n c] 26)).alloc (.cells #[.int .i64 0, .int .i64 0, .int .i64 0, .int .i64 0, .slice none 0 0] 26)) := bel_step (al_ w _) (al_ _ _)
  have hW2 := bel_step hW (al_ _ (.cells #[.int .i64 x] 2))
  have L1 := Lib.hid (rd_litAt ((w.alloc (.cells #[.int .i64 d, .int .i64 m, .int .i64 wd, .int .i64 lf, .slice A n c] 26)).alloc (.cells #[.int .i64 0, .int .i64 0, .int .i64 0, .int .i64 0, .slice none 0 0] 26)) #[.int .i64 x] [x] 2 rfl 1 rfl (w.heap.size + 1 + 1) (by simp))
  have a_0 : (((w.alloc (.cells #[.int .i64 d, .int .i64 m, .int .i64 wd, .int .i64 lf, .slice A n c] 26)).alloc (.cells #[.int .i64 0, .int .i64 0, .int .i64 0, .int .i64 0, .slice none 0 0] 26))).cell? ⟨w.heap.size, 0, none⟩ = some (.int .i64 d) := (by simp [go_sem]); have a_1 : (((w.alloc (.cells #[.int .i64 d, .int .i64 m, .int .i64 wd, .int .i64 lf, .slice A n c] 26)).alloc (.cells #[.int .i64 0, .int .i64 0, .int .i64 0, .int .i64 0, .slice none 0 0] 26))).cell? ⟨w.heap.size, 1, none⟩ = some (.int .i64 m) := (by simp [go_sem]); have a_2 : (((w.alloc (.cells #[.int .i64 d, .int .i64 m, .int .i64 wd, .int .i64 lf, .slice A n c] 26)).alloc (.cells #[.int .i64 0, .int .i64 0, .int .i64 0, .int .i64 0, .slice none 0 0] 26))).cell? ⟨w.heap.size, 2, none⟩ = some (.int .i64 wd) := (by simp [go_sem]); have a_3 : (((w.alloc (.cells #[.int .i64 d, .int .i64 m, .int .i64 wd, .int .i64 lf, .slice A n c] 26)).alloc (.cells #[.int .i64 0, .int .i64 0, .int .i64 0, .int .i64 0, .slice none 0 0] 26))).cell? ⟨w.heap.size, 3, none⟩ = some (.int .i64 lf) := (by simp [go_sem]); have a_4 : (((w.alloc (.cells #[.int .i64 d, .int .i64 m, .int .i64 wd, .int .i64 lf, .slice A n c] 26)).alloc (.cells #[.int .i64 0, .int .i64 0, .int .i64 0, .int .i64 0, .slice none 0 0] 26))).cell? ⟨w.heap.size, 4, none⟩ = some (.slice A n c) := (by simp [go_sem])
  have HZ : Hid (Blk ((w.alloc (.cells #[.int .i64 d, .int .i64 m, .int .i64 wd, .int .i64 lf, .slice A n c] 26)).alloc (.cells #[.int .i64 0, .int .i64 0, .int .i64 0, .int .i64 0, .slice none 0 0] 26)) (w.heap.size + 1) 26 #[.int .i64 0, .int .i64 0, .int .i64 0, .int .i64 0, .slice none 0 0]) := Lib.hid (by have := Blk.new (w.alloc (.cells #[.int .i64 d, .int .i64 m, .int .i64 wd, .int .i64 lf, .slice A n c] 26)) 26 #[.int .i64 0, .int .i64 0, .int .i64 0, .int .i64 0, .slice none 0 0]; simpa using this)
  by_cases h0 : faC d m wd lf n xs (inR 0 35999 x) = 0
  · rw [h0] at HC
    have HC := Lib.hid HC
    have HG := fun W => iWid_any d m wd lf A n c xs x W
    cases hq : widB wd lf x with
    | false =>
      rw [rm_5 h0 hq]
      rw [hq] at HG
      simp only [rmI_k (k := 5) (by decide), rmL_k (k := 5) (by decide)]
      clear h h0 hq
      go_enter Try.func9, Try.ntmps9
      go_wp2_with (first | ((go_at_call 42; (with_reducible refine Calls.mono (HC.out _ (H.out.later hW2) _ L1.out) ?_); rintro ee w1 ⟨rfl, hb1⟩; have hB1 := bel_step hW2 hb1); have hbb1 := bel_step (al_ _ _) hb1; have b_0 := keepC hbb1 a_0; have b_1 := keepC hbb1 a_1; have b_2 := keepC hbb1 a_2; have b_3 := keepC hbb1 a_3; have b_4 := keepC hbb1 a_4; have HZ1 := Lib.hid (blk_later HZ.out hbb1); obtain ⟨z0, z1, z2, z3, z4, y0, y1, y2, y3, y4⟩ := f5_cells HZ1.out) | ((go_at_call 43; (with_reducible refine Calls.mono (HG _) ?_); rintro ee w2 ⟨rfl, hb2⟩; have hB2 := bel_step hB1 hb2); clear z0 z1 z2 z3 z4 y0 y1 y2 y3 y4; have HZ2 := Lib.hid (blk_later HZ1.out hb2); obtain ⟨z0, z1, z2, z3, z4, y0, y1, y2, y3, y4⟩ := f5_cells HZ2.out))
      ((try simp only [Exit.inBlock, Exit.then]); refine bodyPost_ret (v := .tuple #[.agg #[.int .i64 0, .int .i64 0, .int .i64 0, .int .i64 0, .slice none 0 0], .int .i64 5]) (by simp [results, Try.results9, go_sem, *]) rfl ⟨none, 0, 0, rfl, World.ownsRow_nil _ _ _ _, by first | (have hB := hB2; go_grown) | (have hB := hB1; go_grown)⟩)
    | true =>
      rw [rm_0 h0 hq]
      rw [hq] at HG
      have HL := Lib.hid (fun W hR => clone_any A n c xs W hR hA hn)
      show Calls _ _ _ _ (fun ee w' => ∃ A' m' c', ee = .returned (.tuple #[.agg #[.int .i64 d, .int .i64 m, .int .i64 wd, .int .i64 x, .slice A' m' c'], .int .i64 0]) ∧ OwI w' w.heap.size (.slice A' m' c') xs ∧ Below w.heap.size w w')
      clear h h0 hq
      go_enter Try.func9, Try.ntmps9
      go_wp2_with (first | ((go_at_call 42; (with_reducible refine Calls.mono (HC.out _ (H.out.later hW2) _ L1.out) ?_); rintro ee w1 ⟨rfl, hb1⟩; have hB1 := bel_step hW2 hb1); have hbb1 := bel_step (al_ _ _) hb1; have b_0 := keepC hbb1 a_0; have b_1 := keepC hbb1 a_1; have b_2 := keepC hbb1 a_2; have b_3 := keepC hbb1 a_3; have b_4 := keepC hbb1 a_4; have HZ1 := Lib.hid (blk_later HZ.out hbb1); obtain ⟨z0, z1, z2, z3, z4, y0, y1, y2, y3, y4⟩ := f5_cells HZ1.out) | ((go_at_call 43; (with_reducible refine Calls.mono (HG _) ?_); rintro ee w2 ⟨rfl, hb2⟩; have hB2 := bel_step hB1 hb2); have e_0 := keepC hb2 b_0; have e_1 := keepC hb2 b_1; have e_2 := keepC hb2 b_2; have e_3 := keepC hb2 b_3; have e_4 := keepC hb2 b_4; clear z0 z1 z2 z3 z4 y0 y1 y2 y3 y4; have HZ2 := Lib.hid (blk_later HZ1.out hb2); obtain ⟨z0, z1, z2, z3, z4, y0, y1, y2, y3, y4⟩ := f5_cells HZ2.out))
      have S5 := Lib.hid (fun W' (h : Below w2.heap.size w2 W') => And.intro (bel_step hB2 h) (And.intro (keepC h e_0) (And.intro (keepC h e_1) (And.intro (keepC h e_2) (And.intro (keepC h e_3) (keepC h e_4))))))
      clear a_0 a_1 a_2 a_3 a_4 b_0 b_1 b_2 b_3 b_4
      go_region_held3 (fun W' => Below w.heap.size w W' ∧ W'.cell? ⟨w.heap.size, 0, none⟩ = some (.int .i64 d) ∧ W'.cell? ⟨w.heap.size, 1, none⟩ = some (.int .i64 m) ∧ W'.cell? ⟨w.heap.size, 2, none⟩ = some (.int .i64 wd) ∧ W'.cell? ⟨w.heap.size, 3, none⟩ = some (.int .i64 lf) ∧ W'.cell? ⟨w.heap.size, 4, none⟩ = some (.slice A n c)) (first | exact S5.out _ (Below.refl _ _).drew | exact S5.out _ hb3 | (refine ⟨(by have hB := hB3; go_grown), ?_, ?_, ?_, ?_, ?_⟩ <;> simp [go_sem, *])) (first | (go_at_call 44; (with_reducible refine Calls.mono (HL.out _ (H.out.later hB2.drew)) ?_); rintro ee w3 ⟨A3, m3, c3, rfl, ho, hb3⟩; have HO := Lib.hid ho; clear ho; have hb3 := bel_step (w := w2) (Below.refl _ _).drew hb3; have hB3 := bel_step hB2 hb3; clear z0 z1 z2 z3 z4 y0 y1 y2 y3 y4; have HZ3 := Lib.hid (blk_later HZ2.out hb3); obtain ⟨z0, z1, z2, z3, z4, y0, y1, y2, y3, y4⟩ := f5_cells HZ3.out))
      have hlt2 := HZ2.out.lt
      go_wp2
      (try simp only [Exit.inBlock, Exit.then])
      refine bodyPost_ret (v := .tuple #[.agg #[.int .i64 d, .int .i64 m, .int .i64 wd, .int .i64 x, .slice A3 m3 c3], .int .i64 0]) (by simp [results, Try.results9, go_sem, *]) rfl ⟨A3, m3, c3, rfl, ?_, by have hB := hB3; go_grown⟩
      refine OwI.mono (base := w2.heap.size) ?_ hB2.size
      repeat (refine OwI.store ?_ hlt2 _)
      exact HO.out
  · have hk := h0
    rw [rm_bad h0]
    generalize faC d m wd lf n xs (inR 0 35999 x) = k at *
    simp only [rmI_k hk, rmL_k hk]
    have HC := Lib.hid HC
    clear h hk
    go_enter Try.func9, Try.ntmps9
    go_wp2_with ((go_at_call 42; (with_reducible refine Calls.mono (HC.out _ (H.out.later hW2) _ L1.out) ?_); rintro ee w1 ⟨rfl, hb1⟩; have hB1 := bel_step hW2 hb1); have hbb1 := bel_step (al_ _ _) hb1; have HZ1 := Lib.hid (blk_later HZ.out hbb1); obtain ⟨z0, z1, z2, z3, z4, y0, y1, y2, y3, y4⟩ := f5_cells HZ1.out)
    ((try simp only [Exit.inBlock, Exit.then]); refine bodyPost_ret (v := .tuple #[.agg #[.int .i64 0, .int .i64 0, .int .i64 0, .int .i64 0, .slice none 0 0], .int .i64 k]) (by simp [results, Try.results9, go_sem, *]) rfl ⟨none, 0, 0, rfl, World.ownsRow_nil _ _ _ _, by first | (have hB := hB2; go_grown) | (have hB := hB1; go_grown)⟩)
set_option maxHeartbeats 2000000 in
theorem sRem_any (d m wd lf : Int) (A : Option Addr) (n c : Nat) (xs : List Int) (x : Int) (w : World) (h : RdI w w.heap.size A n xs) (hc : n ≤ c) (hcm : c ≤ maxLen) (hn : n ≤ 1048576) (hA : A = none → c = 0) : Calls Try.prog 7 #[.agg #[.int .i64 d, .int .i64 m, .int .i64 wd, .int .i64 lf, .slice A n c], .int .i64 x] w (fun ee w' => ∃ A' m' c', ee = .returned (.tuple #[.agg #[.int .i64 (rmI (rmC d m wd lf n xs x) d), .int .i64 (rmI (rmC d m wd lf n xs x) m), .int .i64 (rmI (rmC d m wd lf n xs x) wd), .int .i64 (rmI (rmC d m wd lf n xs x) x), .slice A' m' c'], .int .i64 (rmC d m wd lf n xs x)]) ∧ OwI w' w.heap.size (.slice A' m' c') (rmL (rmC d m wd lf n xs x) xs) ∧ Below w.heap.size w w') := by
  have HC := fun W hR => sCkF_any d m wd lf A n c xs (inR 0 35999 x) W hR hc hcm hn
  have HM := fun W => l02Month_any x W
  have H := Lib.hid h
  have hW : Below w.heap.size w ((w.alloc (.cells #[.int .i64 d, .int .i64 m, .int .i64 wd, .int .i64 lf, .slice A n c] 26)).alloc (.cells #[.int .i64 0, .int .i64 0, .int .i64 0, .int .i64 0, .slice none 0 0] 26)) := bel_step (al_ w _) (al_ _ _)
  have a_0 : (((w.alloc (.cells #[.int .i64 d, .int .i64 m, .int .i64 wd, .int .i64 lf, .slice A n c] 26)).alloc (.cells #[.int .i64 0, .int .i64 0, .int .i64 0, .int .i64 0, .slice none 0 0] 26))).cell? ⟨w.heap.size, 0, none⟩ = some (.int .i64 d) := (by simp [go_sem]); have a_1 : (((w.alloc (.cells #[.int .i64 d, .int .i64 m, .int .i64 wd, .int .i64 lf, .slice A n c] 26)).alloc (.cells #[.int .i64 0, .int .i64 0, .int .i64 0, .int .i64 0, .slice none 0 0] 26))).cell? ⟨w.heap.size, 1, none⟩ = some (.int .i64 m) := (by simp [go_sem]); have a_2 : (((w.alloc (.cells #[.int .i64 d, .int .i64 m, .int .i64 wd, .int .i64 lf, .slice A n c] 26)).alloc (.cells #[.int .i64 0, .int .i64 0, .int .i64 0, .int .i64 0, .slice none 0 0] 26))).cell? ⟨w.heap.size, 2, none⟩ = some (.int .i64 wd) := (by simp [go_sem]); have a_3 : (((w.alloc (.cells #[.int .i64 d, .int .i64 m, .int .i64 wd, .int .i64 lf, .slice A n c] 26)).alloc (.cells #[.int .i64 0, .int .i64 0, .int .i64 0, .int .i64 0, .slice none 0 0] 26))).cell? ⟨w.heap.size, 3, none⟩ = some (.int .i64 lf) := (by simp [go_sem]); have a_4 : (((w.alloc (.cells #[.int .i64 d, .int .i64 m, .int .i64 wd, .int .i64 lf, .slice A n c] 26)).alloc (.cells #[.int .i64 0, .int .i64 0, .int .i64 0, .int .i64 0, .slice none 0 0] 26))).cell? ⟨w.heap.size, 4, none⟩ = some (.slice A n c) := (by simp [go_sem])
  have HZ : Hid (Blk ((w.alloc (.cells #[.int .i64 d, .int .i64 m, .int .i64 wd, .int .i64 lf, .slice A n c] 26)).alloc (.cells #[.int .i64 0, .int .i64 0, .int .i64 0, .int .i64 0, .slice none 0 0] 26)) (w.heap.size + 1) 26 #[.int .i64 0, .int .i64 0, .int .i64 0, .int .i64 0, .slice none 0 0]) := Lib.hid (by have := Blk.new (w.alloc (.cells #[.int .i64 d, .int .i64 m, .int .i64 wd, .int .i64 lf, .slice A n c] 26)) 26 #[.int .i64 0, .int .i64 0, .int .i64 0, .int .i64 0, .slice none 0 0]; simpa using this)
  have x_0 := fun x : InC ((w.alloc (.cells #[.int .i64 d, .int .i64 m, .int .i64 wd, .int .i64 lf, .slice A n c] 26)).alloc (.cells #[.int .i64 0, .int .i64 0, .int .i64 0, .int .i64 0, .slice none 0 0] 26)) => x.cell a_0; have x_1 := fun x : InC ((w.alloc (.cells #[.int .i64 d, .int .i64 m, .int .i64 wd, .int .i64 lf, .slice A n c] 26)).alloc (.cells #[.int .i64 0, .int .i64 0, .int .i64 0, .int .i64 0, .slice none 0 0] 26)) => x.cell a_1; have x_2 := fun x : InC ((w.alloc (.cells #[.int .i64 d, .int .i64 m, .int .i64 wd, .int .i64 lf, .slice A n c] 26)).alloc (.cells #[.int .i64 0, .int .i64 0, .int .i64 0, .int .i64 0, .slice none 0 0] 26)) => x.cell a_2; have x_3 := fun x : InC ((w.alloc (.cells #[.int .i64 d, .int .i64 m, .int .i64 wd, .int .i64 lf, .slice A n c] 26)).alloc (.cells #[.int .i64 0, .int .i64 0, .int .i64 0, .int .i64 0, .slice none 0 0] 26)) => x.cell a_3; have x_4 := fun x : InC ((w.alloc (.cells #[.int .i64 d, .int .i64 m, .int .i64 wd, .int .i64 lf, .slice A n c] 26)).alloc (.cells #[.int .i64 0, .int .i64 0, .int .i64 0, .int .i64 0, .slice none 0 0] 26)) => x.cell a_4
  by_cases h0 : faC d m wd lf n xs (inR 0 35999 x) = 0
  · have HG := fun W => sWid_any d m wd lf A n c xs x W
    have HC0 := HC
    rw [h0] at HC
    generalize hbx : inR 0 35999 x = bx at *
    have HC := Lib.hid HC
    clear HC0
    subst hbx
    cases hq : widB wd lf x with
    | false =>
      rw [rm_5 h0 hq]
      rw [hq] at HG
      simp only [rmI_k (k := 5) (by decide), rmL_k (k := 5) (by decide)]
      clear h h0 hq
      generalize inR 0 35999 x = bx at *
      go_enter Try.func7, Try.ntmps7
      go_wp2_with fail
      (refine wp_region_inC (by kernel_rfl) (by kernel_rfl) ?_; (repeat go_big_quiet_step ((first | (go_at_call 38; with_reducible exact Calls.inC_same (HM _)) | (go_at_call 37; with_reducible exact Calls.inC (HC.out _ (H.out.later (bel_step hW (InC.h _)))))))); refine wpQuiet_nil ?_; rintro w1 ⟨⟨_, hb1⟩, rfl⟩)
      have hB1 := bel_step hW hb1
      have HZ1 := Lib.hid (blk_later HZ.out hb1)
      obtain ⟨z0, z1, z2, z3, z4, y0, y1, y2, y3, y4⟩ := f5_cells HZ1.out
      have b_0 := keepC hb1 a_0; have b_1 := keepC hb1 a_1; have b_2 := keepC hb1 a_2; have b_3 := keepC hb1 a_3; have b_4 := keepC hb1 a_4
      clear x_0 x_1 x_2 x_3 x_4
      go_wp2_with ((go_at_call 39; (with_reducible refine Calls.mono (HG _) ?_); rintro ee w2 ⟨rfl, hb2⟩; have hB2 := bel_step hB1 hb2); clear z0 z1 z2 z3 z4 y0 y1 y2 y3 y4; have HZ2 := Lib.hid (blk_later HZ1.out hb2); obtain ⟨z0, z1, z2, z3, z4, y0, y1, y2, y3, y4⟩ := f5_cells HZ2.out)
      ((try simp only [Exit.inBlock, Exit.then]); refine bodyPost_ret (v := .tuple #[.agg #[.int .i64 0, .int .i64 0, .int .i64 0, .int .i64 0, .slice none 0 0], .int .i64 5]) (by simp [results, Try.results7, go_sem, *]) rfl ⟨none, 0, 0, rfl, World.ownsRow_nil _ _ _ _, by first | (have hB := hB2; go_grown) | (have hB := hB1; go_grown)⟩)
    | true =>
      rw [rm_0 h0 hq]
      rw [hq] at HG
      have HL := Lib.hid (fun W hR => sOwn_any A n c xs W hR hA hn)
      show Calls _ _ _ _ (fun ee w' => ∃ A' m' c', ee = .returned (.tuple #[.agg #[.int .i64 d, .int .i64 m, .int .i64 wd, .int .i64 x, .slice A' m' c'], .int .i64 0]) ∧ OwI w' w.heap.size (.slice A' m' c') xs ∧ Below w.heap.size w w')
      clear h h0 hq
      generalize inR 0 35999 x = bx at *
      go_enter Try.func7, Try.ntmps7
      go_wp2_with fail
      (refine wp_region_inC (by kernel_rfl) (by kernel_rfl) ?_; (repeat go_big_quiet_step ((first | (go_at_call 38; with_reducible exact Calls.inC_same (HM _)) | (go_at_call 37; with_reducible exact Calls.inC (HC.out _ (H.out.later (bel_step hW (InC.h _)))))))); refine wpQuiet_nil ?_; rintro w1 ⟨⟨_, hb1⟩, rfl⟩)
      have hB1 := bel_step hW hb1
      have HZ1 := Lib.hid (blk_later HZ.out hb1)
      obtain ⟨z0, z1, z2, z3, z4, y0, y1, y2, y3, y4⟩ := f5_cells HZ1.out
      have b_0 := keepC hb1 a_0; have b_1 := keepC hb1 a_1; have b_2 := keepC hb1 a_2; have b_3 := keepC hb1 a_3; have b_4 := keepC hb1 a_4
      clear x_0 x_1 x_2 x_3 x_4
      go_wp2_with ((go_at_call 39; (with_reducible refine Calls.mono (HG _) ?_); rintro ee w2 ⟨rfl, hb2⟩; have hB2 := bel_step hB1 hb2); have e_0 := keepC hb2 b_0; have e_1 := keepC hb2 b_1; have e_2 := keepC hb2 b_2; have e_3 := keepC hb2 b_3; have e_4 := keepC hb2 b_4; clear z0 z1 z2 z3 z4 y0 y1 y2 y3 y4; have HZ2 := Lib.hid (blk_later HZ1.out hb2); obtain ⟨z0, z1, z2, z3, z4, y0, y1, y2, y3, y4⟩ := f5_cells HZ2.out)
      have S5 := Lib.hid (fun W' (h : Below w2.heap.size w2 W') => And.intro (bel_step hB2 h) (And.intro (keepC h e_0) (And.intro (keepC h e_1) (And.intro (keepC h e_2) (And.intro (keepC h e_3) (keepC h e_4))))))
      clear a_0 a_1 a_2 a_3 a_4 b_0 b_1 b_2 b_3 b_4
      go_region_held3 (fun W' => Below w.heap.size w W' ∧ W'.cell? ⟨w.heap.size, 0, none⟩ = some (.int .i64 d) ∧ W'.cell? ⟨w.heap.size, 1, none⟩ = some (.int .i64 m) ∧ W'.cell? ⟨w.heap.size, 2, none⟩ = some (.int .i64 wd) ∧ W'.cell? ⟨w.heap.size, 3, none⟩ = some (.int .i64 lf) ∧ W'.cell? ⟨w.heap.size, 4, none⟩ = some (.slice A n c)) (first | exact S5.out _ (Below.refl _ _).drew | exact S5.out _ hb3 | (refine ⟨(by have hB := hB3; go_grown), ?_, ?_, ?_, ?_, ?_⟩ <;> simp [go_sem, *])) (first | (go_at_call 40; (with_reducible refine Calls.mono (HL.out _ (H.out.later hB2.drew)) ?_); rintro ee w3 ⟨A3, m3, c3, rfl, ho, hb3⟩; have HO := Lib.hid ho; clear ho; have hb3 := bel_step (w := w2) (Below.refl _ _).drew hb3; have hB3 := bel_step hB2 hb3; clear z0 z1 z2 z3 z4 y0 y1 y2 y3 y4; have HZ3 := Lib.hid (blk_later HZ2.out hb3); obtain ⟨z0, z1, z2, z3, z4, y0, y1, y2, y3, y4⟩ := f5_cells HZ3.out))
      have hlt2 := HZ2.out.lt
      go_wp2
      (try simp only [Exit.inBlock, Exit.then])
      refine bodyPost_ret (v := .tuple #[.agg #[.int .i64 d, .int .i64 m, .int .i64 wd, .int .i64 x, .slice A3 m3 c3], .int .i64 0]) (by simp [results, Try.results7, go_sem, *]) rfl ⟨A3, m3, c3, rfl, ?_, by have hB := hB3; go_grown⟩
      refine OwI.mono (base := w2.heap.size) ?_ hB2.size
      repeat (refine OwI.store ?_ hlt2 _)
      exact HO.out
  · have hk := h0
    rw [rm_bad h0]
    generalize faC d m wd lf n xs (inR 0 35999 x) = k at *
    simp only [rmI_k hk, rmL_k hk]
    have k0 : (k == 0) = false := by simpa using hk
    have HC := Lib.hid HC
    clear h hk
    generalize inR 0 35999 x = bx at *
    go_enter Try.func7, Try.ntmps7
    go_wp2_with fail
    (refine wp_region_inC (by kernel_rfl) (by kernel_rfl) ?_; (repeat go_big_quiet_step ((first | (go_at_call 38; with_reducible exact Calls.inC_same (HM _)) | (go_at_call 37; with_reducible exact Calls.inC (HC.out _ (H.out.later (bel_step hW (InC.h _)))))))); refine wpQuiet_nil ?_; rintro w1 ⟨⟨_, hb1⟩, rfl⟩)
    have hB1 := bel_step hW hb1
    have HZ1 := Lib.hid (blk_later HZ.out hb1)
    obtain ⟨z0, z1, z2, z3, z4, y0, y1, y2, y3, y4⟩ := f5_cells HZ1.out
    go_wp2
    ((try simp only [Exit.inBlock, Exit.then]); refine bodyPost_ret (v := .tuple #[.agg #[.int .i64 0, .int .i64 0, .int .i64 0, .int .i64 0, .slice none 0 0], .int .i64 k]) (by simp [results, Try.results7, go_sem, *]) rfl ⟨none, 0, 0, rfl, World.ownsRow_nil _ _ _ _, by first | (have hB := hB2; go_grown) | (have hB := hB1; go_grown)⟩)
end Go.Proofs.Ytmgaooinkdmpbaa
