/-
  Numerals as the reference writes them (l01Dec).
-/
import Derived.Test.YtaikfclgmkfooaaGreatDoorLD
import Derived.Test.YtaikfclgmkfooaaGreatDoorDR3
import Derived.Test.YtaikfclgmkfooaaGreatDoorSB
import Derived.Test.YtaikfclgmkfooaaGreatDoorQ
import Derived.Handy
import Derived.Test.YtaikfclgmkfooaaGreatDoorE1
namespace Go.Proofs.YtaikfclgmkfooaaGreatDoor
open Go Go.RowKit
set_option linter.unusedSimpArgs false
set_option linter.unusedVariables false
theorem conv1 (W : World) (g cap : Nat) (z : Int) (h0 : 0 ≤ z) (h1 : z < 256) (hc : W.cell? ⟨g, 0, none⟩ = some (.int .u8 z)) : (convert 22 9 (.slice (some ⟨g, 0, none⟩) 1 cap)).run Tryz.prog W = .ok (.string ⟨#[UInt8.ofNat z.toNat]⟩) W := by
  have h := run_convert_bytes_back (P := Tryz.prog) W 22 9 5 ⟨g, 0, none⟩ cap [UInt8.ofNat z.toNat] Tryz.underlying22 Tryz.underlying5 Tryz.underlying9 (fun j hj => by
    have h0 : j = 0 := by simpa using hj
    subst h0
    rw [add_zero', hc, List.getElem_cons_zero, UInt8.toNat_ofNat', Nat.mod_eq_of_lt (by omega)]
    congr 2
    omega)
  exact h
theorem ba_app (l m : List UInt8) : (⟨l.toArray⟩ ++ ⟨m.toArray⟩ : ByteArray) = ⟨(l ++ m).toArray⟩ := by
  refine ByteArray.ext ?_
  rw [ByteArray.data_append]
  simp
theorem bel_at {B : Nat} {w W w1 : World} (h : Below B w W) (hb : Below W.heap.size W w1) (hB : B ≤ W.heap.size) : Below B w w1 := h.trans (hb.mono hB)
theorem u8_in {z : Int} (h : 0 ≤ z ∧ z < 256) : IntKind.u8.wrap z = z := by unfold IntKind.wrap; simp [IntKind.signed, IntKind.bits]; omega
set_option maxRecDepth 20000 in
set_option maxHeartbeats 1000000 in
theorem dec_any : ∀ (u : Nat) (w : World), u < 1000000000000000 → Calls Tryz.prog 59 #[.int .i64 (u : Int)] w fun e w' => e = .returned (.string ⟨(Lib.decDigits u).toArray⟩) ∧ Below w.heap.size w w' := by
  intro u
  induction u using Nat.strongRecOn with
  | ind u ih =>
    intro w hu
    by_cases h : u < 10
    · have hd : Hid (Lib.decDigits u = [UInt8.ofNat (48 + (u : Int)).toNat]) := Lib.hid (by rw [Lib.decDigits, dif_pos h]; congr 2)
      generalize Lib.decDigits u = L at *
      have h0 : (0 : Int) ≤ (u : Int) ∧ (u : Int) < 10 := by omega
      clear ih hu h
      generalize (u : Int) = d at *
      have q1 := IntWalk.i64_in (48 + d) (by omega)
      have q2 := u8_in (z := 48 + d) (by omega)
      have hcv := conv1 (w.alloc (.cells #[.int .u8 (48 + d)] 5)) w.heap.size 1 (48 + d) (by omega) (by omega) ((Blk.new w 5 #[.int .u8 (48 + d)]).cell 0)
      go_enter Tryz.func59, Tryz.ntmps59
      go_wp2
      go_returns
      exact ⟨by rw [hd.out]; rfl, by go_grown⟩
    · have hd : Hid (Lib.decDigits u = Lib.decDigits (u / 10) ++ [UInt8.ofNat (48 + (u % 10 : Nat) : Int).toNat]) := Lib.hid (by rw [Lib.decDigits, dif_neg h]; congr 3)
      have HI := Lib.hid (fun W => ih (u / 10) (by omega) W (by omega))
      obtain ⟨q, hq⟩ : ∃ q : Int, q = ((u / 10 : Nat) : Int) := ⟨_, rfl⟩
      obtain ⟨r, hr⟩ : ∃ r : Int, r = ((u % 10 : Nat) : Int) := ⟨_, rfl⟩
      have h0 : (10 : Int) ≤ (u : Int) ∧ (u : Int) < 1000000000000000 := by omega
      have h1 : (0 : Int) ≤ r ∧ r < 10 := by omega
      have hqq : (u : Int) / 10 = q := by omega
      have hrr : (u : Int) % 10 = r := by omega
      rw [← hq] at HI
      rw [← hr] at hd
      have hLl : (Lib.decDigits (u / 10)).length ≤ 15 := dec_len 14 (u / 10) (by omega)
      generalize Lib.decDigits u = L at *
      generalize Lib.decDigits (u / 10) = L' at *
      clear ih hu h hq hr
      generalize (u : Int) = d at *
      have q1 := IntWalk.i64_in (48 + r) (by omega)
      have q2 := u8_in (z := 48 + r) (by omega)
      have q3 := IntWalk.i64_in q (by omega)
      have t1 : d.tdiv 10 = q := by rw [Int.tdiv_eq_ediv_of_nonneg (by omega)]; exact hqq
      have t2 : d.tmod 10 = r := by rw [Int.tmod_eq_emod_of_nonneg (by omega)]; exact hrr
      clear hqq hrr
      go_enter Tryz.func59, Tryz.ntmps59
      go_upto_region 3 with fail
      refine wp_region_D 10 (fun _ => True) (by kernel_rfl) ?_
      refine wpAnyD_take (i := 0) (v := ?_) rfl (by kernel_rfl) (fun _ _ _ h => h) (Or.inl ⟨by rfl, ?_⟩) (by trivial) ?_; rotate_left; (intro w' hSw; (try dsimp only at hSw); go_simp; with_reducible rfl); (try simp only [Act.put, List.setIfInBounds_toArray, List.set_cons_zero, List.set_cons_succ])
      refine wpAnyD_take (i := 1) (v := ?_) rfl (by kernel_rfl) (fun _ _ _ h => h) (Or.inl ⟨by rfl, ?_⟩) (by trivial) ?_; rotate_left; (intro w' hSw; (try dsimp only at hSw); go_simp; with_reducible rfl); (try simp only [Act.put, List.setIfInBounds_toArray, List.set_cons_zero, List.set_cons_succ])
      refine wpAnyD_take (i := 3) (v := ?_) rfl (by kernel_rfl) (fun _ _ _ h => h) (Or.inl ⟨by rfl, ?_⟩) (by trivial) ?_; rotate_left; (intro w' hSw; (try dsimp only at hSw); go_simp; with_reducible rfl); (try simp only [Act.put, List.setIfInBounds_toArray, List.set_cons_zero, List.set_cons_succ])
      refine wpAnyD_take (i := 4) (v := ?_) rfl (by kernel_rfl) (fun _ _ _ h => h) (Or.inl ⟨by rfl, ?_⟩) (by trivial) ?_; rotate_left; (intro w' hSw; (try dsimp only at hSw); go_simp; with_reducible rfl); (try simp only [Act.put, List.setIfInBounds_toArray, List.set_cons_zero, List.set_cons_succ])
      refine wpAnyD_take (i := 5) (v := ?_) rfl (by kernel_rfl) (fun _ _ _ h => h) (Or.inl ⟨by rfl, ?_⟩) (by trivial) ?_; rotate_left; (intro w' hSw; (try dsimp only at hSw); go_simp; with_reducible rfl); (try simp only [Act.put, List.setIfInBounds_toArray, List.set_cons_zero, List.set_cons_succ])
      refine wpAnyD_take (i := 6) (v := ?_) rfl (by kernel_rfl) (fun _ _ _ h => h) (Or.inl ⟨by rfl, ?_⟩) (by trivial) ?_; rotate_left; (intro w' hSw; (try dsimp only at hSw); go_simp; with_reducible rfl); (try simp only [Act.put, List.setIfInBounds_toArray, List.set_cons_zero, List.set_cons_succ])
      have hlen : ¬ 9223372036854775807 < L'.length + 1 := by omega
      have hcv := Lib.hid (fun (W : World) g (hc : W.cell? ⟨g, 0, none⟩ = some (.int .u8 (48 + r))) => conv1 W g 1 (48 + r) (by omega) (by omega) hc)
      clear q1 q2 q3 t1 t2
      refine wpAnyD_two (i := 2) (j := 7) rfl rfl (by kernel_rfl) (fun K hK => ?_) (fun K hK => ?_)
      · go_simp
        (with_reducible refine Calls.mono (HI.out _) ?_)
        rintro ee w8 ⟨rfl, hb⟩
        replace hb := bel_step (w := w) (Below.refl _ _).drew hb
        dsimp only
        refine hK _ _ (fun _ => trivial) ?_; clear hK K; (try simp only [Act.put, List.setIfInBounds_toArray, List.set_cons_zero, List.set_cons_succ])
        refine wpAnyD_one (i := 7) rfl (by kernel_rfl) (fun K hK => ?_)
        go_simp
        have hc8 := hcv.out (w8.alloc (.cells #[.int .u8 (48 + r)] 5)) w8.heap.size ((Blk.new w8 5 #[.int .u8 (48 + r)]).cell 0)
        have hb2 := hb.alloc hb.size (.cells #[.int .u8 (48 + r)] 5)
        refine hK _ _ (fun _ => trivial) ?_; clear hK K; (try simp only [Act.put, List.setIfInBounds_toArray, List.set_cons_zero, List.set_cons_succ])
        generalize w8.heap.size = g8 at *
        generalize w8.alloc (.cells #[.int .u8 (48 + r)] 5) = w9 at *
        refine wpAnyD_one (i := 8) rfl (by kernel_rfl) (fun K hK => ?_)
        go_simp
        refine hK _ _ (fun _ => trivial) ?_; clear hK K; (try simp only [Act.put, List.setIfInBounds_toArray, List.set_cons_zero, List.set_cons_succ])
        (refine wpAnyD_one (i := 9) rfl (by kernel_rfl) (fun K hK => ?_); go_simp; refine hK _ _ (fun _ => trivial) ?_; clear hK K; (try simp only [Act.put, List.setIfInBounds_toArray, List.set_cons_zero, List.set_cons_succ]); refine wpAnyD_one (i := 10) rfl (by kernel_rfl) (fun K hK => ?_); go_simp; refine hK _ _ (fun h => absurd rfl h) ?_; clear hK K; refine wpAnyD_done (by kernel_rfl) ?_ _; go_wp2; go_returns; exact ⟨(by rw [hd.out, ← ba_app]; rfl), hb2⟩)
      · go_simp
        have hc8 := (Blk.new w 5 #[.int .u8 (48 + r)])
        have hb2 : Below w.heap.size w (w.alloc (.cells #[.int .u8 (48 + r)] 5)) := (Below.refl _ _).alloc (Nat.le_refl _) _
        refine hK _ _ (fun _ => trivial) ?_; clear hK K; (try simp only [Act.put, List.setIfInBounds_toArray, List.set_cons_zero, List.set_cons_succ])
        have hc9 : (convert 22 9 (.slice (some ⟨w.heap.size, 0, none⟩) 1 1)).run Tryz.prog (w.alloc (.cells #[.int .u8 (48 + r)] 5)).drew = .ok (.string ⟨#[UInt8.ofNat (48 + r).toNat]⟩) (w.alloc (.cells #[.int .u8 (48 + r)] 5)).drew := hcv.out _ _ (hc8.cell 0)
        have hlt : w.heap.size ≤ (w.alloc (.cells #[.int .u8 (48 + r)] 5)).drew.heap.size := by simp
        generalize hG : w.heap.size = g8 at *
        replace hG := Lib.hid hG
        generalize w.alloc (.cells #[.int .u8 (48 + r)] 5) = w9 at *
        refine wpAnyD_two (i := 2) (j := 8) rfl rfl (by kernel_rfl) (fun K hK => ?_) (fun K hK => ?_)
        · go_simp
          (with_reducible refine Calls.mono (HI.out _) ?_)
          rintro ee w10 ⟨rfl, hb⟩
          have hc10 := hcv.out w10 g8 ((keepC hb (show w9.drew.cell? ⟨g8, 0, none⟩ = some (.int .u8 (48 + r)) from hc8.cell 0)))
          replace hb2 := bel_at hb2.drew hb hlt
          dsimp only
          refine hK _ _ (fun _ => trivial) ?_; clear hK K; (try simp only [Act.put, List.setIfInBounds_toArray, List.set_cons_zero, List.set_cons_succ])
          refine wpAnyD_one (i := 8) rfl (by kernel_rfl) (fun K hK => ?_)
          go_simp
          refine hK _ _ (fun _ => trivial) ?_; clear hK K; (try simp only [Act.put, List.setIfInBounds_toArray, List.set_cons_zero, List.set_cons_succ])
          (refine wpAnyD_one (i := 9) rfl (by kernel_rfl) (fun K hK => ?_); go_simp; refine hK _ _ (fun _ => trivial) ?_; clear hK K; (try simp only [Act.put, List.setIfInBounds_toArray, List.set_cons_zero, List.set_cons_succ]); refine wpAnyD_one (i := 10) rfl (by kernel_rfl) (fun K hK => ?_); go_simp; refine hK _ _ (fun h => absurd rfl h) ?_; clear hK K; refine wpAnyD_done (by kernel_rfl) ?_ _; go_wp2; go_returns; exact ⟨(by rw [hd.out, ← ba_app]; rfl), hG.out ▸ hb2⟩)
        · go_simp
          refine hK _ _ (fun _ => trivial) ?_; clear hK K; (try simp only [Act.put, List.setIfInBounds_toArray, List.set_cons_zero, List.set_cons_succ])
          refine wpAnyD_one (i := 2) rfl (by kernel_rfl) (fun K hK => ?_)
          go_simp
          (with_reducible refine Calls.mono (HI.out _) ?_)
          rintro ee w10 ⟨rfl, hb⟩
          replace hb2 := bel_at hb2.drew hb hlt
          dsimp only
          refine hK _ _ (fun _ => trivial) ?_; clear hK K; (try simp only [Act.put, List.setIfInBounds_toArray, List.set_cons_zero, List.set_cons_succ])
          (refine wpAnyD_one (i := 9) rfl (by kernel_rfl) (fun K hK => ?_); go_simp; refine hK _ _ (fun _ => trivial) ?_; clear hK K; (try simp only [Act.put, List.setIfInBounds_toArray, List.set_cons_zero, List.set_cons_succ]); refine wpAnyD_one (i := 10) rfl (by kernel_rfl) (fun K hK => ?_); go_simp; refine hK _ _ (fun h => absurd rfl h) ?_; clear hK K; refine wpAnyD_done (by kernel_rfl) ?_ _; go_wp2; go_returns; exact ⟨(by rw [hd.out, ← ba_app]; rfl), hG.out ▸ hb2⟩)
end Go.Proofs.YtaikfclgmkfooaaGreatDoor
