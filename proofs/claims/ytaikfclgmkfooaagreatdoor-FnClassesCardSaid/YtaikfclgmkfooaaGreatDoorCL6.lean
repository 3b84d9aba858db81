/-
  Draws of FnClasses: the walks of l01Damage and DrawReadClass.
-/
import Derived.Test.YtaikfclgmkfooaaGreatDoorCL3
import Derived.Test.YtaikfclgmkfooaaGreatDoorX1
set_option linter.unusedSimpArgs false
set_option linter.unusedVariables false
namespace Go.Proofs.YtaikfclgmkfooaaGreatDoor
open Go Go.RowKit
/-- a text, slightly changed -/
def DmP (B g : Nat) (t : ByteArray) (w : World) (e : Ending) (w' : World) : Prop := ∃ t' : ByteArray, e = .returned (.string t') ∧ t'.size ≤ t.size + 1 ∧ Src B w' g ∧ w.grownBy w' (some g)
theorem one8 {W : World} {g : Nat} (h : Blk W g 9 #[.string ⟨#[48]⟩, .string ⟨#[49]⟩, .string ⟨#[32]⟩, .string ⟨#[45]⟩, .string ⟨#[44]⟩, .string ⟨#[46]⟩, .string ⟨#[10]⟩, .string ⟨#[97]⟩]) {q : Nat} (hq : q < 8) : ∃ z : ByteArray, W.cell? ⟨g, q, none⟩ = some (.string z) ∧ z.size = 1 := by
  have hc := h.cell q
  obtain rfl | rfl | rfl | rfl | rfl | rfl | rfl | rfl : q = 0 ∨ q = 1 ∨ q = 2 ∨ q = 3 ∨ q = 4 ∨ q = 5 ∨ q = 6 ∨ q = 7 := by omega
  all_goals exact ⟨_, hc, rfl⟩
theorem cut_size (t : ByteArray) {k : Nat} (hk : k ≤ t.size) : (t.extract 0 k).size = k ∧ (t.extract k t.size).size = t.size - k := by
  rw [ByteArray.size_extract, ByteArray.size_extract]
  omega
set_option maxHeartbeats 4000000 in
set_option maxRecDepth 100000 in
theorem damage_any (B g : Nat) (t : ByteArray) (w : World) (h : Src B w g) (ht : t.size ≤ 100000) : Calls Tryz.prog 27 #[.pointer (some ⟨g, 0, none⟩), .string t] w (DmP B g t w) := by
  have SR := Lib.hid h
  have G : Hid (w.grownBy w (some g)) := World.grownBy.refl _ _
  have q1 := IntWalk.i64_in ((t.size : Int) + 1) (by omega)
  clear h
  go_enter Tryz.func27, Tryz.ntmps27
  go_upto_region 2 with (go_at_call 26; (with_reducible refine Calls.mono (next_any _ g _ _ SR.out) ?_); rintro ee wz ⟨r, rfl, hr, hs, hg⟩; replace SR := Lib.hid hs; replace G := Lib.hid (grownBy_tr G.out hg); clear hs hg)
  obtain ⟨k, hk, rfl⟩ : ∃ k : Nat, k < t.size + 1 ∧ r = (k : Int) := rng_nat (by omega) hr
  clear q1 hr
  have tok : True := trivial
  go_wp2_with (go_at_call 26; clear tok; (with_reducible refine Calls.mono (next_any _ g _ _ SR.out) ?_); rintro ee wz ⟨r8, rfl, hr8, hs, hg⟩; replace SR := Lib.hid hs; replace G := Lib.hid (grownBy_tr G.out hg); clear hs hg)
  · have hs := (cut_size t (k := k) (by omega)).1
    go_returns
    exact ⟨_, rfl, by omega, SR.out, G.out⟩
  · refine wp_region_D 13 (fun _ => True) (by kernel_rfl) ?_
    replace SR := Lib.hid (SR.out.drewN 1)
    replace G := Lib.hid (grownBy_drewN G.out 1)
    have hlg := SR.out.lt
    have SR' : Hid (Src B wz.drew g) := SR
    have G' : Hid (w.grownBy wz.drew (some g)) := G
    clear SR G
    have hlg' : g < wz.drew.heap.size := hlg
    generalize wz.drew = Wd at *
    clear hlg
    refine wpAnyD_take (i := 0) (v := ?_) rfl (by kernel_rfl) (fun _ _ _ h => h) (Or.inl ⟨by rfl, ?_⟩) (by trivial) ?_; rotate_left; (intro w' hSw; (try dsimp only at hSw); go_simp; with_reducible rfl); (try simp only [Act.put, List.setIfInBounds_toArray, List.set_cons_zero, List.set_cons_succ])
    refine wpAnyD_take (i := 1) (v := ?_) rfl (by kernel_rfl) (fun _ _ _ h => h) (Or.inl ⟨by rfl, ?_⟩) (by trivial) ?_; rotate_left; (intro w' hSw; (try dsimp only at hSw); go_simp; with_reducible rfl); (try simp only [Act.put, List.setIfInBounds_toArray, List.set_cons_zero, List.set_cons_succ])
    refine wpAnyD_take (i := 2) (v := ?_) rfl (by kernel_rfl) (fun _ _ _ h => h) (Or.inl ⟨by rfl, ?_⟩) (by trivial) ?_; rotate_left; (intro w' hSw; (try dsimp only at hSw); go_simp; rw [if_pos (show k ≤ t.size by omega)]); (try simp only [Act.put, List.setIfInBounds_toArray, List.set_cons_zero, List.set_cons_succ])
    refine wpAnyD_take (i := 4) (v := ?_) rfl (by kernel_rfl) (fun _ _ _ h => h) (Or.inl ⟨by rfl, ?_⟩) (by trivial) ?_; rotate_left; (intro w' hSw; (try dsimp only at hSw); go_simp; with_reducible rfl); (try simp only [Act.put, List.setIfInBounds_toArray, List.set_cons_zero, List.set_cons_succ])
    refine wpAnyD_take (i := 9) (v := ?_) rfl (by kernel_rfl) (fun _ _ _ h => h) (Or.inl ⟨by rfl, ?_⟩) (by trivial) ?_; rotate_left; (intro w' hSw; (try dsimp only at hSw); go_simp; with_reducible rfl); (try simp only [Act.put, List.setIfInBounds_toArray, List.set_cons_zero, List.set_cons_succ])
    refine wpAnyD_take (i := 10) (v := ?_) rfl (by kernel_rfl) (fun _ _ _ h => h) (Or.inl ⟨by rfl, ?_⟩) (by trivial) ?_; rotate_left; (intro w' hSw; (try dsimp only at hSw); go_simp; with_reducible rfl); (try simp only [Act.put, List.setIfInBounds_toArray, List.set_cons_zero, List.set_cons_succ])
    refine wpAnyD_take (i := 11) (v := ?_) rfl (by kernel_rfl) (fun _ _ _ h => h) (Or.inl ⟨by rfl, ?_⟩) (by trivial) ?_; rotate_left; (intro w' hSw; (try dsimp only at hSw); go_simp; rw [if_pos (show k ≤ t.size by omega)]); (try simp only [Act.put, List.setIfInBounds_toArray, List.set_cons_zero, List.set_cons_succ])
    obtain ⟨hs1, hs2⟩ := cut_size t (k := k) (by omega)
    generalize t.extract 0 k = X1 at *
    generalize t.extract k t.size = X2 at *
    refine wpAnyD_two (i := 3) (j := 5) rfl rfl (by kernel_rfl) (fun K hK => ?_) (fun K hK => ?_)
    · go_simp
      have BS := Lib.hid (Blk.new Wd 9 #[.string ⟨#[48]⟩, .string ⟨#[49]⟩, .string ⟨#[32]⟩, .string ⟨#[45]⟩, .string ⟨#[44]⟩, .string ⟨#[46]⟩, .string ⟨#[10]⟩, .string ⟨#[97]⟩])
      have SR := Lib.hid (SR'.out.alloc (.cells #[.string ⟨#[48]⟩, .string ⟨#[49]⟩, .string ⟨#[32]⟩, .string ⟨#[45]⟩, .string ⟨#[44]⟩, .string ⟨#[46]⟩, .string ⟨#[10]⟩, .string ⟨#[97]⟩] 9))
      have G := Lib.hid (grownBy_alloc G'.out (.cells #[.string ⟨#[48]⟩, .string ⟨#[49]⟩, .string ⟨#[32]⟩, .string ⟨#[45]⟩, .string ⟨#[44]⟩, .string ⟨#[46]⟩, .string ⟨#[10]⟩, .string ⟨#[97]⟩] 9))
      clear SR' G'
      refine hK _ _ (fun _ => trivial) ?_; clear hK K; (try simp only [Act.put, List.setIfInBounds_toArray, List.set_cons_zero, List.set_cons_succ])
      refine wpAnyD_one (i := 5) rfl (by kernel_rfl) (fun K hK => ?_)
      go_simp
      (with_reducible refine Calls.mono (next_any _ g _ _ SR.out) ?_)
      rintro ee w8 ⟨r9, rfl, hr9, hs, hg⟩
      dsimp only
      obtain ⟨q, hq, rfl⟩ : ∃ q : Nat, q < 8 ∧ r9 = (q : Int) := rng_nat (by omega) hr9
      replace SR := Lib.hid hs
      replace G := Lib.hid (grownBy_tr G.out hg)
      replace BS := Lib.hid (blk_far BS.out hg hlg')
      obtain ⟨z, hz, hz1⟩ := one8 BS.out hq
      clear hs hg hr9 BS
      refine hK _ _ (fun _ => trivial) ?_; clear hK K; (try simp only [Act.put, List.setIfInBounds_toArray, List.set_cons_zero, List.set_cons_succ])
      refine wpAnyD_one (i := 6) rfl (by kernel_rfl) (fun K hK => ?_); go_simp; rw [if_pos (show (q : Int) < 8 by omega)]; go_simp; refine hK _ _ (fun _ => trivial) ?_; clear hK K; (try simp only [Act.put, List.setIfInBounds_toArray, List.set_cons_zero, List.set_cons_succ]); refine wpAnyD_one (i := 7) rfl (by kernel_rfl) (fun K hK => ?_); go_simp; refine hK _ _ (fun _ => trivial) ?_; clear hK K; (try simp only [Act.put, List.setIfInBounds_toArray, List.set_cons_zero, List.set_cons_succ]); refine wpAnyD_one (i := 8) rfl (by kernel_rfl) (fun K hK => ?_); go_simp; rw [if_neg (show ¬ 9223372036854775807 < k + 1 by omega)]; go_simp; refine hK _ _ (fun _ => trivial) ?_; clear hK K; (try simp only [Act.put, List.setIfInBounds_toArray, List.set_cons_zero, List.set_cons_succ]); refine wpAnyD_one (i := 12) rfl (by kernel_rfl) (fun K hK => ?_); go_simp; rw [if_neg (show ¬ 9223372036854775807 < k + 1 + (t.size - k) by omega)]; go_simp; refine hK _ _ (fun _ => trivial) ?_; clear hK K; (try simp only [Act.put, List.setIfInBounds_toArray, List.set_cons_zero, List.set_cons_succ]); refine wpAnyD_one (i := 13) rfl (by kernel_rfl) (fun K hK => ?_); go_simp; refine hK _ _ (fun h => absurd rfl h) ?_; clear hK K; refine wpAnyD_done (by kernel_rfl) ?_ _; go_wp2; go_returns; exact ⟨_, rfl, by rw [ByteArray.size_append, ByteArray.size_append]; omega, SR.out, G.out⟩
    · go_simp
      (with_reducible refine Calls.mono (next_any _ g _ _ SR'.out) ?_)
      rintro ee w8 ⟨r9, rfl, hr9, hs, hg⟩
      dsimp only
      obtain ⟨q, hq, rfl⟩ : ∃ q : Nat, q < 8 ∧ r9 = (q : Int) := rng_nat (by omega) hr9
      have SR := Lib.hid (hs.alloc (.cells #[.string ⟨#[48]⟩, .string ⟨#[49]⟩, .string ⟨#[32]⟩, .string ⟨#[45]⟩, .string ⟨#[44]⟩, .string ⟨#[46]⟩, .string ⟨#[10]⟩, .string ⟨#[97]⟩] 9))
      have G := Lib.hid (grownBy_alloc (grownBy_tr G'.out hg) (.cells #[.string ⟨#[48]⟩, .string ⟨#[49]⟩, .string ⟨#[32]⟩, .string ⟨#[45]⟩, .string ⟨#[44]⟩, .string ⟨#[46]⟩, .string ⟨#[10]⟩, .string ⟨#[97]⟩] 9))
      obtain ⟨z, hz, hz1⟩ := one8 (Blk.new w8 9 #[.string ⟨#[48]⟩, .string ⟨#[49]⟩, .string ⟨#[32]⟩, .string ⟨#[45]⟩, .string ⟨#[44]⟩, .string ⟨#[46]⟩, .string ⟨#[10]⟩, .string ⟨#[97]⟩]) hq
      clear hs hg hr9 SR' G'
      refine hK _ _ (fun _ => trivial) ?_; clear hK K; (try simp only [Act.put, List.setIfInBounds_toArray, List.set_cons_zero, List.set_cons_succ])
      refine wpAnyD_one (i := 3) rfl (by kernel_rfl) (fun K hK => ?_)
      go_simp
      refine hK _ _ (fun _ => trivial) ?_; clear hK K; (try simp only [Act.put, List.setIfInBounds_toArray, List.set_cons_zero, List.set_cons_succ])
      refine wpAnyD_one (i := 6) rfl (by kernel_rfl) (fun K hK => ?_); go_simp; rw [if_pos (show (q : Int) < 8 by omega)]; go_simp; refine hK _ _ (fun _ => trivial) ?_; clear hK K; (try simp only [Act.put, List.setIfInBounds_toArray, List.set_cons_zero, List.set_cons_succ]); refine wpAnyD_one (i := 7) rfl (by kernel_rfl) (fun K hK => ?_); go_simp; refine hK _ _ (fun _ => trivial) ?_; clear hK K; (try simp only [Act.put, List.setIfInBounds_toArray, List.set_cons_zero, List.set_cons_succ]); refine wpAnyD_one (i := 8) rfl (by kernel_rfl) (fun K hK => ?_); go_simp; rw [if_neg (show ¬ 9223372036854775807 < k + 1 by omega)]; go_simp; refine hK _ _ (fun _ => trivial) ?_; clear hK K; (try simp only [Act.put, List.setIfInBounds_toArray, List.set_cons_zero, List.set_cons_succ]); refine wpAnyD_one (i := 12) rfl (by kernel_rfl) (fun K hK => ?_); go_simp; rw [if_neg (show ¬ 9223372036854775807 < k + 1 + (t.size - k) by omega)]; go_simp; refine hK _ _ (fun _ => trivial) ?_; clear hK K; (try simp only [Act.put, List.setIfInBounds_toArray, List.set_cons_zero, List.set_cons_succ]); refine wpAnyD_one (i := 13) rfl (by kernel_rfl) (fun K hK => ?_); go_simp; refine hK _ _ (fun h => absurd rfl h) ?_; clear hK K; refine wpAnyD_done (by kernel_rfl) ?_ _; go_wp2; go_returns; exact ⟨_, rfl, by rw [ByteArray.size_append, ByteArray.size_append]; omega, SR.out, G.out⟩
  · refine wp_region_D 8 (fun _ => True) (by kernel_rfl) ?_
    have q2 := IntWalk.i64_in ((k : Int) + 1) (by omega)
    refine wpAnyD_take (i := 0) (v := ?_) rfl (by kernel_rfl) (fun _ _ _ h => h) (Or.inl ⟨by rfl, ?_⟩) (by trivial) ?_; rotate_left; (intro w' hSw; (try dsimp only at hSw); go_simp; with_reducible rfl); (try simp only [Act.put, List.setIfInBounds_toArray, List.set_cons_zero, List.set_cons_succ])
    refine wpAnyD_take (i := 1) (v := ?_) rfl (by kernel_rfl) (fun _ _ _ h => h) (Or.inl ⟨by rfl, ?_⟩) (by trivial) ?_; rotate_left; (intro w' hSw; (try dsimp only at hSw); go_simp; with_reducible rfl); (try simp only [Act.put, List.setIfInBounds_toArray, List.set_cons_zero, List.set_cons_succ])
    refine wpAnyD_take (i := 2) (v := ?_) rfl (by kernel_rfl) (fun _ _ _ h => h) (Or.inl ⟨by rfl, ?_⟩) (by trivial) ?_; rotate_left; (intro w' hSw; (try dsimp only at hSw); go_simp; rw [if_pos (show k ≤ t.size by omega)]); (try simp only [Act.put, List.setIfInBounds_toArray, List.set_cons_zero, List.set_cons_succ])
    refine wpAnyD_take (i := 3) (v := ?_) rfl (by kernel_rfl) (fun _ _ _ h => h) (Or.inl ⟨by rfl, ?_⟩) (by trivial) ?_; rotate_left; (intro w' hSw; (try dsimp only at hSw); go_simp; with_reducible rfl); (try simp only [Act.put, List.setIfInBounds_toArray, List.set_cons_zero, List.set_cons_succ])
    refine wpAnyD_take (i := 4) (v := ?_) rfl (by kernel_rfl) (fun _ _ _ h => h) (Or.inl ⟨by rfl, ?_⟩) (by trivial) ?_; rotate_left; (intro w' hSw; (try dsimp only at hSw); go_simp; with_reducible rfl); (try simp only [Act.put, List.setIfInBounds_toArray, List.set_cons_zero, List.set_cons_succ])
    refine wpAnyD_take (i := 5) (v := ?_) rfl (by kernel_rfl) (fun _ _ _ h => h) (Or.inl ⟨by rfl, ?_⟩) (by trivial) ?_; rotate_left; (intro w' hSw; (try dsimp only at hSw); go_simp; with_reducible rfl); (try simp only [Act.put, List.setIfInBounds_toArray, List.set_cons_zero, List.set_cons_succ])
    refine wpAnyD_take (i := 6) (v := ?_) rfl (by kernel_rfl) (fun _ _ _ h => h) (Or.inl ⟨by rfl, ?_⟩) (by trivial) ?_; rotate_left; (intro w' hSw; (try dsimp only at hSw); go_simp; rw [if_pos (show 0 ≤ (k : Int) + 1 ∧ (k : Int) + 1 ≤ (t.size : Int) by omega)]); (try simp only [Act.put, List.setIfInBounds_toArray, List.set_cons_zero, List.set_cons_succ])
    have hs1 := (cut_size t (k := k) (by omega)).1
    have hs2 := (cut_size t (k := k + 1) (by omega)).2
    generalize t.extract 0 k = X1 at *
    generalize t.extract (k + 1) t.size = X2 at *
    clear q2
    refine wpAnyD_one (i := 7) rfl (by kernel_rfl) (fun K hK => ?_)
    go_simp
    rw [if_neg (show ¬ 9223372036854775807 < k + (t.size - (k + 1)) by omega)]
    go_simp
    refine hK _ _ (fun _ => trivial) ?_; clear hK K; (try simp only [Act.put, List.setIfInBounds_toArray, List.set_cons_zero, List.set_cons_succ])
    refine wpAnyD_one (i := 8) rfl (by kernel_rfl) (fun K hK => ?_)
    go_simp
    refine hK _ _ (fun h => absurd rfl h) ?_
    clear hK K
    refine wpAnyD_done (by kernel_rfl) ?_ _
    go_wp2
    go_returns
    exact ⟨_, rfl, by rw [ByteArray.size_append]; omega, SR.out.drewN 1, grownBy_drewN G.out 1⟩
  · go_returns
    exact ⟨_, rfl, by omega, SR.out, G.out⟩
  · go_returns
    exact ⟨_, rfl, by omega, SR.out, G.out⟩
theorem ctS_size (ss ds : List Int) (ch : Int) : (ctS ss ds ch).size ≤ 1342 := by
  unfold ctS
  split
  · next h => exact txB_size h
  · exact Nat.zero_le _
set_option maxHeartbeats 2000000 in
set_option maxRecDepth 100000 in
theorem drawRC_any (A0 : Option Addr) (n0 c0 : Nat) (w : World) (hC : ∀ W, Below w.heap.size w W → Code' W.heap.size W A0 n0) : Calls Tryz.prog 8 #[.slice A0 n0 c0] w (fun e w' => ∃ s : ByteArray, e = .returned (.string s) ∧ s.size ≤ 2000 ∧ Below w.heap.size w w') := by
  have HF := Lib.hid (fun W hb => from_any A0 n0 c0 W (hC W hb))
  clear hC
  go_enter Tryz.func8, Tryz.ntmps8
  go_upto_region 3 with (first | (go_at_call 21; (with_reducible refine Calls.mono (HF.out _ (Below.refl _ _)) ?_); rintro ee w1 ⟨g, rfl, hs, hB⟩; have hBg := hs.1; have SR := Lib.hid hs; clear hs) | (go_at_call 20; (with_reducible refine Calls.mono (l13Draw_any _ g _ SR.out) ?_); rintro ee w2 ⟨S, n, c, ss, D, m, d, ds, ch, rfl, ho, hop, hsl, hdl, hs, hg⟩; replace SR := Lib.hid hs; have hn := Lib.hid ho.rd.1; have hm := Lib.hid hop.rd.1; have RS := Lib.hid ho.rd.2; have RD := Lib.hid hop.rd.2; replace hB := belowG hB hg hBg hB.size; clear hs ho hop hg) | (go_at_call 7; (with_reducible refine Calls.mono (sCT_any S n c ss D m d ds ch _ RS.out RD.out (by have := hn.out; omega) (by have := hm.out; omega)) ?_); rintro ee w3 ⟨rfl, hb⟩; replace SR := Lib.hid (SR.out.below hb SR.out.lt); replace hB := bel_step hB hb; clear hb))
  have hct := ctS_size ss ds ch
  generalize ctS ss ds ch = T at *
  generalize ctK ss ds ch = kk at *
  clear RS RD hsl hdl hn hm
  go_wp2_with (first | (go_at_call 26; (with_reducible refine Calls.mono (next_any _ g _ _ SR.out) ?_); rintro ee w4 ⟨r, rfl, hr, hs, hg⟩; replace SR := Lib.hid hs; replace hB := belowG hB hg hBg hB.size; clear hs hg) | (go_at_call 27; (with_reducible refine Calls.mono (damage_any _ g T _ SR.out (by omega)) ?_); rintro ee w5 ⟨T', rfl, hT, hs, hg⟩; replace hB := belowG hB hg hBg hB.size; clear hs hg))
  · go_returns
    exact ⟨T', rfl, by omega, hB⟩
  · go_returns
    exact ⟨T, rfl, by omega, hB⟩
end Go.Proofs.YtaikfclgmkfooaaGreatDoor
