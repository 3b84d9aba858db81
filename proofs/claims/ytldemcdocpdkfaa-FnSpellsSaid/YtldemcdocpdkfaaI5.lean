/-
  Contracts of the functions of chapter 15: the cases; append of one number; the copy of spells in a block of its own, and its marks.
-/
import Derived.Test.YtldemcdocpdkfaaH5
import Derived.Test.YtldemcdocpdkfaaS
set_option linter.unusedSimpArgs false
set_option linter.unusedVariables false
namespace Go.Proofs.Ytldemcdocpdkfaa
open Go.RowKit
theorem al_ (w : World) (o : Obj) : Below w.heap.size w (w.alloc o) := (Below.refl _ _).alloc (Nat.le_refl _) _
theorem ownEmpty (w : World) (base : Nat) (h : base ≤ w.heap.size) : OwI (w.alloc (.cells #[] 2)) base (.slice (some ⟨w.heap.size, 0, none⟩) 0 0) [] :=
  World.ownsRow_lit (base := base) (e := 2) (size := 1) w #[] 0 h (by unfold maxLen; omega) rfl
/-- append of one number to a slice of the call's own -/
theorem wpl_app_int {ops : Array Oper} {rest : List Oper} {o : Oper} {a : Act} {Q : Exit → Act → World → Prop} {w : World} (hgd : o.guard = none) (s x : Operand)
    (ho : o.op = .call { callee := .builtin .append, args := #[s, x], argTypes := #[31, 31] })
    (base : Nat) (zs : List Int) (v : Value) (hs : a.eval s = v) (hown : OwI w base v zs) (ad : Addr) (z : Int) (c : Nat) (hx : a.eval x = .slice (some ad) 1 c) (hc : w.cell? ad = some (.int .i64 z)) (hl : zs.length ≤ 1000000) (hbase : base ≤ w.heap.size)
    (h : ∀ v' w', OwI w' base v' (zs ++ [z]) → w.grownBy w' v.ownBlock → wpList Try.prog ops Q rest (a.put o.dst v') w') : wpList Try.prog ops Q (o :: rest) a w := by
  have HN : (Try.prog.info? 2).map (fun i => (i.zero, i.size, i.bytes)) = some (some (.int .i64 0), 1, 8) := by kernel_rfl
  obtain ⟨i0, hi, hz0, hz1, hz2⟩ := info_parts HN
  refine wpList_append_own w hgd s x 31 ho base 2 i0 (.int .i64 0) 1 8 Try.underlying31 hi hz0 hz1 hz2 rfl (by decide) v zs.length (zs.map (Value.int .i64)) hs hown ad 1 c [.int .i64 z] hx rfl ?_ ?_ ?_ ?_ hbase ?_
  · intro j u hj
    cases j with
    | zero => simp only [List.getElem?_cons_zero, Option.some.injEq] at hj; subst hj; rw [add_zero']; exact hc
    | succ j => simp at hj
  · intro u hu
    simp only [List.mem_singleton] at hu
    subst hu
    rfl
  · unfold maxLen; omega
  · omega
  · intro v' w' h1 h2 _
    refine h v' w' ?_ h2
    unfold OwI
    rw [List.length_append, List.map_append]
    exact h1
theorem OwI.sl {w : World} {base : Nat} {v : Value} {zs : List Int} (h : OwI w base v zs) : ∃ A m c, v = .slice A m c := by
  rcases h.form with ⟨h1, _⟩ | ⟨g, cap, h1, _⟩
  · exact ⟨_, _, _, h1⟩
  · exact ⟨_, _, _, h1⟩
def casL (xs : List (Int × Int)) : List Int := if areS xs = true then casF xs xs.length else []
def casC (xs : List (Int × Int)) : Int := if areS xs = true then 0 else 1
theorem cas_t {xs : List (Int × Int)} {n : Nat} (hl : xs.length = n) (h : areS xs = true) : casL xs = casF xs n ∧ casC xs = 0 := by unfold casL casC; rw [if_pos h, if_pos h, hl]; exact ⟨rfl, rfl⟩
theorem cas_f {xs : List (Int × Int)} (h : areS xs = false) : casL xs = [] ∧ casC xs = 1 := by unfold casL casC; rw [h]; exact ⟨rfl, rfl⟩
theorem casF_t {xs : List (Int × Int)} {k : Nat} (h : begB xs k = true) : casF xs (k + 1) = casF xs k ++ [(k : Int)] := by show (if _ then _ else _) = _; rw [if_pos h]
theorem casF_f {xs : List (Int × Int)} {k : Nat} (h : begB xs k = false) : casF xs (k + 1) = casF xs k := by show (if _ then _ else _) = _; rw [if_neg (by simp [h])]
set_option maxHeartbeats 2000000 in
theorem iCas_any (A : Option Addr) (n c : Nat) (xs : List (Int × Int)) (w : World) (h : RdP w w.heap.size A n xs) (hm : n ≤ 1048576) : Calls Try.prog 23 #[.slice A n c] w fun ee w' => ∃ A' m c', ee = .returned (.tuple #[.slice A' m c', .int .i64 (casC xs)]) ∧ OwI w' w.heap.size (.slice A' m c') (casL xs) ∧ Below w.heap.size w w' := by
  have HA := fun W hR => iAreS_any A n c xs W hR hm
  have H := Lib.hid h
  have hl := h.len
  cases ha : areS xs with
  | false =>
    have HQ := Lib.hid (cas_f ha)
    rw [ha] at HA
    have HA := Lib.hid HA
    clear h hl ha
    go_enter Try.func23, Try.ntmps23
    go_wp2_with (go_at_call 16; (with_reducible refine Calls.mono (HA.out _ H.out) ?_); rintro ee w1 ⟨rfl, hb1⟩; have hB1 := bel_step (Below.refl _ _) hb1)
    go_returns
    exact ⟨none, 0, 0, by rw [HQ.out.2]; rfl, by rw [HQ.out.1]; exact World.ownsRow_nil _ _ _ _, hB1⟩
  | true =>
    have HQ := Lib.hid (cas_t hl ha)
    rw [ha] at HA
    have HA := Lib.hid HA
    have hn := (areS_split ha).1
    rw [hl] at hn
    have HG := Lib.hid (fun W hR k hk => iBeg_any A n c xs W hR k hk hn ha)
    clear h hl ha
    go_enter Try.func23, Try.ntmps23
    go_wp2_with (go_at_call 16; (with_reducible refine Calls.mono (HA.out _ H.out) ?_); rintro ee w1 ⟨rfl, hb1⟩; have hB1 := bel_step (Below.refl _ _) hb1)
    go_loopw [4, 12] (fun v i wr => ∃ k : Nat, k ≤ n ∧ i = .int .i64 k ∧ (∃ A' m c', v = .slice A' m c') ∧ OwI wr w1.heap.size v (casF xs k) ∧ Below w1.heap.size w1 wr) (fun _ i _ => n - (intOf i).toNat)
    case atStart => exact ⟨0, Nat.zero_le _, rfl, ⟨_, _, _, rfl⟩, ownEmpty _ _ (Nat.le_refl _), al_ _ _⟩
    case round =>
      obtain ⟨k, hk, rfl, ⟨A', m', c', rfl⟩, ho, hR⟩ := hrel
      have HO := Lib.hid ho
      have hcl := casF_len xs k
      clear ho
      by_cases hlt : k < n
      · have HGk := fun W hR => HG.out W hR k hlt
        cases hq : begB xs k with
        | true =>
          have HF := Lib.hid (casF_t hq)
          rw [hq] at HGk
          have HGk := Lib.hid HGk
          clear hq
          have hR2 := bel_step hB1 hR
          go_wp2_with (first | ((go_at_call 51; (with_reducible refine Calls.mono (HGk.out _ (H.out.later hR2)) ?_); rintro ee w2 ⟨rfl, hb2⟩; have hB2 := bel_step hR hb2)) | (at_builtin; refine wpl_app_int rfl _ _ rfl w1.heap.size (casF xs k) _ (by rfl) ((HO.out.later hb2).later (al_ w2 _)) ⟨w2.heap.size, 0, none⟩ (k : Int) 1 (by rfl) (by simp [go_sem]) (by omega) (by have := hB2.size; simp; omega) ?_; intro v' w3 ho3 hg3; obtain ⟨A3, m3, c3, rfl⟩ := ho3.sl; have HO3 := Lib.hid ho3; clear ho3))
          go_roundw
          case rel => exact ⟨k + 1, by omega, by go_num, ⟨_, _, _, rfl⟩, by rw [HF.out]; exact HO3.out, grownOwn_below (hB2.trans ((al_ w2 _).mono hB2.size)) ((HO.out.later hb2).later (al_ w2 _)) hg3 (Nat.le_refl _) (by have := hB2.size; simp; omega)⟩
          case measure => simp [intOf]; omega
        | false =>
          have HF := Lib.hid (casF_f hq)
          rw [hq] at HGk
          have HGk := Lib.hid HGk
          clear hq
          have hR2 := bel_step hB1 hR
          go_wp2_with ((go_at_call 51; (with_reducible refine Calls.mono (HGk.out _ (H.out.later hR2)) ?_); rintro ee w2 ⟨rfl, hb2⟩; have hB2 := bel_step hR hb2))
          go_roundw
          case rel => exact ⟨k + 1, by omega, by go_num, ⟨_, _, _, rfl⟩, by rw [HF.out]; exact HO.out.later hb2, hB2⟩
          case measure => simp [intOf]; omega
      · have HE : Hid (k = n) := by show _ = _; omega
        go_wp2
        go_returns
        exact ⟨_, _, _, by rw [HQ.out.2]; rfl, by rw [HQ.out.1, ← HE.out]; exact HO.out.mono hB1.size, bel_step hB1 hR⟩
set_option maxHeartbeats 2000000 in
theorem sCas_any (A : Option Addr) (n c : Nat) (xs : List (Int × Int)) (w : World) (h : RdP w w.heap.size A n xs) (hm : n ≤ 1048576) : Calls Try.prog 22 #[.slice A n c] w fun ee w' => ∃ A' m c', ee = .returned (.tuple #[.slice A' m c', .int .i64 (casC xs)]) ∧ OwI w' w.heap.size (.slice A' m c') (casL xs) ∧ Below w.heap.size w w' := by
  have HA := fun W hR => sAreS_any A n c xs W hR hm
  have H := Lib.hid h
  have hl := h.len
  cases ha : areS xs with
  | false =>
    have HQ := Lib.hid (cas_f ha)
    rw [ha] at HA
    have HA := Lib.hid HA
    clear h hl ha
    go_enter Try.func22, Try.ntmps22
    go_wp2_with (go_at_call 14; (with_reducible refine Calls.mono (HA.out _ H.out) ?_); rintro ee w1 ⟨rfl, hb1⟩; have hB1 := bel_step (Below.refl _ _) hb1)
    go_returns
    exact ⟨none, 0, 0, by rw [HQ.out.2]; rfl, by rw [HQ.out.1]; exact World.ownsRow_nil _ _ _ _, hB1⟩
  | true =>
    have HQ := Lib.hid (cas_t hl ha)
    rw [ha] at HA
    have HA := Lib.hid HA
    have hn := (areS_split ha).1
    rw [hl] at hn
    have HG := Lib.hid (fun W hR k hk => sBeg_any A n c xs W hR k hk hn ha)
    clear h hl ha
    go_enter Try.func22, Try.ntmps22
    go_wp2_with (go_at_call 14; (with_reducible refine Calls.mono (HA.out _ H.out) ?_); rintro ee w1 ⟨rfl, hb1⟩; have hB1 := bel_step (Below.refl _ _) hb1)
    go_loopw [4, 5] (fun v i wr => ∃ k : Nat, k ≤ n ∧ i = .int .i64 k ∧ (∃ A' m c', v = .slice A' m c') ∧ OwI wr w1.heap.size v (casF xs k) ∧ Below w1.heap.size w1 wr) (fun _ i _ => n - (intOf i).toNat)
    case atStart => exact ⟨0, Nat.zero_le _, rfl, ⟨_, _, _, rfl⟩, ownEmpty _ _ (Nat.le_refl _), al_ _ _⟩
    case round =>
      obtain ⟨k, hk, rfl, ⟨A', m', c', rfl⟩, ho, hR⟩ := hrel
      have HO := Lib.hid ho
      have hcl := casF_len xs k
      clear ho
      by_cases hlt : k < n
      · have HGk := fun W hR => HG.out W hR k hlt
        have hlt' : (k : Int) < (n : Int) := by omega
        cases hq : begB xs k with
        | true =>
          have HF := Lib.hid (casF_t hq)
          rw [hq] at HGk
          have HGk := Lib.hid HGk
          clear hq
          have hR2 := bel_step hB1 hR
          go_wp2_with (first | ((go_at_call 52; (with_reducible refine Calls.mono (HGk.out _ (H.out.later hR2)) ?_); rintro ee w2 ⟨rfl, hb2⟩; have hB2 := bel_step hR hb2)) | (at_builtin; refine wpl_app_int rfl _ _ rfl w1.heap.size (casF xs k) _ (by rfl) ((HO.out.later hb2).later (al_ w2 _)) ⟨w2.heap.size, 0, none⟩ (k : Int) 1 (by rfl) (by simp [go_sem]) (by omega) (by have := hB2.size; simp; omega) ?_; intro v' w3 ho3 hg3; obtain ⟨A3, m3, c3, rfl⟩ := ho3.sl; have HO3 := Lib.hid ho3; clear ho3))
          go_roundw
          case rel => exact ⟨k + 1, by omega, by go_num, ⟨_, _, _, rfl⟩, by rw [HF.out]; exact HO3.out, grownOwn_below (hB2.trans ((al_ w2 _).mono hB2.size)) ((HO.out.later hb2).later (al_ w2 _)) hg3 (Nat.le_refl _) (by have := hB2.size; simp; omega)⟩
          case measure => simp [intOf]; omega
        | false =>
          have HF := Lib.hid (casF_f hq)
          rw [hq] at HGk
          have HGk := Lib.hid HGk
          clear hq
          have hR2 := bel_step hB1 hR
          go_wp2_with ((go_at_call 52; (with_reducible refine Calls.mono (HGk.out _ (H.out.later hR2)) ?_); rintro ee w2 ⟨rfl, hb2⟩; have hB2 := bel_step hR hb2))
          go_roundw
          case rel => exact ⟨k + 1, by omega, by go_num, ⟨_, _, _, rfl⟩, by rw [HF.out]; exact HO.out.later hb2, hB2⟩
          case measure => simp [intOf]; omega
      · have HE : Hid (k = n) := by show _ = _; omega
        go_wp2
        go_returns
        exact ⟨_, _, _, by rw [HQ.out.2]; rfl, by rw [HQ.out.1, ← HE.out]; exact HO.out.mono hB1.size, bel_step hB1 hR⟩
end Go.Proofs.Ytldemcdocpdkfaa
