/-
  Contracts of the source of numbers that the draws use: l01From, l01Next, l01Pick.
-/
import Derived.Test.YtaikfclgmkfooaaGreatDoorB
import Derived.StillTailTactics
set_option linter.unusedSimpArgs false
set_option linter.unusedVariables false
namespace Go.Proofs.YtaikfclgmkfooaaGreatDoor
open Go.RowKit

/-- bytes -/
def enB (z : Int) : List Value := [.int .u8 z]
abbrev RdB := RdS enB 1
theorem RdB.atB {w : World} {B : Nat} {A : Option Addr} {n : Nat} {zs : List Int} {k : Nat} (h : RdB w B A n zs) (hk : k < n) :
    ∃ ad z, A = some ad ∧ ad.block < B ∧ zs[k]? = some z ∧ w.cell? (ad.add k) = some (.int .u8 z) := by
  obtain ⟨ad, z, h1, h2, h3, h4⟩ := h.at_ hk
  exact ⟨ad, z, h1, h2, h3, by simpa using h4 0 _ rfl⟩
/-- a code that came in: its bytes lie below block B -/
def Code' (B : Nat) (w : World) (A : Option Addr) (n : Nat) : Prop := n ≤ 4096 ∧ ∃ bs, RdB w B A n bs ∧ ∀ b ∈ bs, 0 ≤ b ∧ b ≤ 255
theorem Code'.keep {B : Nat} {w w' : World} {A : Option Addr} {n : Nat} (h : Code' B w A n) (hk : ∀ p : Addr, p.block < B → w'.cell? p = w.cell? p) : Code' B w' A n := by
  obtain ⟨h1, bs, h2, h3⟩ := h
  exact ⟨h1, bs, h2.keep hk, h3⟩
theorem Code'.below {B : Nat} {w w' : World} {A : Option Addr} {n : Nat} (h : Code' B w A n) (hb : Below B w w') : Code' B w' A n := h.keep fun _ hp => hb.cell hp
theorem rd_litD (W : World) (cs : Array Value) (zs : List Int) (t : TypeId) (h : cs = (zs.map (Value.int .i64)).toArray) (n : Nat) (hn : zs.length = n) : RdI (W.alloc (.cells cs t)) (W.alloc (.cells cs t)).heap.size (some ⟨W.heap.size, 0, none⟩) n zs := by
  subst h
  refine ⟨hn, fun _ => ⟨_, rfl, by simp, fun i x hx j v hv => ?_⟩⟩
  have hj : j = 0 := by
    have := (List.getElem?_eq_some_iff.1 hv).1
    simpa [enI] using this
  subst hj
  simp only [enI, List.getElem?_cons_zero, Option.some.injEq] at hv
  subst hv
  have := (Blk.new W t (zs.map (Value.int .i64)).toArray).cell i
  rw [show (⟨W.heap.size, 0, none⟩ : Addr).add (i * 1 + 0) = ⟨W.heap.size, i, none⟩ from by unfold Addr.add; split <;> simp_all, this]
  simp [hx]
/-- what a draw leaves of the blocks above the source's -/
theorem gcell {W w1 : World} {g : Nat} (hg : W.grownBy w1 (some g)) : (∀ b o, g < b → b < W.heap.size → w1.cell? ⟨b, o, none⟩ = W.cell? ⟨b, o, none⟩) ∧ (∀ b o, g < b → b < W.heap.size → w1.frozen? ⟨b, o, none⟩ = W.frozen? ⟨b, o, none⟩) :=
  ⟨fun b o h1 h => World.cell?_of_block (a := ⟨b, o, none⟩) (hg.block b h (fun e => by injection e with e; omega)), fun b o h1 h => World.frozen?_of_block (a := ⟨b, o, none⟩) (hg.block b h (fun e => by injection e with e; omega))⟩
/-- a source of numbers in block g, from block B on; its code lies below B -/
def Src (B : Nat) (w : World) (g : Nat) : Prop := B ≤ g ∧ ∃ A n c at' seed, Blk w g 69 #[.slice A n c, .int .i64 ((at' : Nat) : Int), .int .i64 seed] ∧ at' ≤ n ∧ 0 ≤ seed ∧ seed ≤ 2147483646 ∧ Code' B w A n
theorem Src.lt {B : Nat} {w : World} {g : Nat} (h : Src B w g) : g < w.heap.size := by
  obtain ⟨_, A, n, c, a, s, hb, _⟩ := h
  exact hb.lt
/-- what leaves block g and all below B alone keeps the source -/
theorem Src.below {B B' : Nat} {w w' : World} {g : Nat} (h : Src B w g) (hb : Below B' w w') (hg : g < B') : Src B w' g := by
  obtain ⟨h0, A, n, c, a, s, hk, h1, h2, h3, h4⟩ := h
  exact ⟨h0, A, n, c, a, s, hk.below hb hg, h1, h2, h3, h4.below (hb.mono (by omega))⟩
theorem Src.drewN {B : Nat} {w : World} {g : Nat} (h : Src B w g) (n : Nat) : Src B (w.drewN n) g := h
theorem Src.alloc {B : Nat} {w : World} {g : Nat} (h : Src B w g) (o : Obj) : Src B (w.alloc o) g := h.below ((Below.refl w.heap.size w).alloc (Nat.le_refl _) o) h.lt
theorem Src.store {B : Nat} {w : World} {g : Nat} (h : Src B w g) {p : Addr} (hp : g < p.block) (u : Value) : Src B (w.setCell p u) g :=
  h.below (B' := g + 1) ⟨rfl, rfl, rfl, by simp [World.setCell], fun k hk => Below.heap_setCell w p u k (by omega)⟩ (by omega)
/-- the range of a drawn number -/
def Rng (n r : Int) : Prop := (n ≤ 1 → r = 0) ∧ (1 < n → 0 ≤ r ∧ r < n)
def NextP (B g : Nat) (n : Int) (w : World) (e : Ending) (w' : World) : Prop := ∃ r, e = .returned (.int .i64 r) ∧ Rng n r ∧ Src B w' g ∧ w.grownBy w' (some g)
theorem rng_mod {x n : Int} (hn : 1 < n) : Rng n (x % n) := ⟨fun h => by omega, fun _ => ⟨Int.emod_nonneg _ (by omega), Int.emod_lt_of_pos _ (by omega)⟩⟩
set_option maxHeartbeats 1000000 in
theorem next_one (B g : Nat) (n : Int) (w : World) (h : Src B w g) (hn : n ≤ 1) : Calls Tryz.prog 26 #[.pointer (some ⟨g, 0, none⟩), .int .i64 n] w (NextP B g n w) := by
  have H := Lib.hid h
  clear h
  go_enter Tryz.func26, Tryz.ntmps26
  go_wp2
  go_ret
  exact ⟨0, rfl, ⟨fun _ => rfl, fun h => by omega⟩, H.out, World.grownBy.refl _ _⟩
set_option maxHeartbeats 2000000 in
theorem next_end (B g : Nat) (n : Int) (w : World) (A : Option Addr) (m c a : Nat) (s : Int) (hB : B ≤ g) (hk : Blk w g 69 #[.slice A m c, .int .i64 (a : Int), .int .i64 s]) (hs0 : 0 ≤ s) (hs1 : s ≤ 2147483646) (hC : Code' B w A m) (ha : a = m) (hn : 1 < n) :
    Calls Tryz.prog 26 #[.pointer (some ⟨g, 0, none⟩), .int .i64 n] w (NextP B g n w) := by
  subst ha
  have k0 : w.cell? ⟨g, 0, none⟩ = some (.slice A a c) := hk.cell 0
  have k1 : w.cell? ⟨g, 1, none⟩ = some (.int .i64 (a : Int)) := hk.cell 1
  have k2 : w.cell? ⟨g, 2, none⟩ = some (.int .i64 s) := hk.cell 2
  have f2 := hk.frozen 2
  have hm : a ≤ 4096 := hC.1
  have HK := Lib.hid hk
  have HC := Lib.hid hC
  clear hk hC
  go_enter Tryz.func26, Tryz.ntmps26
  go_wp2
  go_quiet (fail)
  go_wp2
  go_ret
  refine ⟨_, rfl, rng_mod hn, ⟨hB, A, a, c, a, _, (HK.out.set_ 2 _).drewN _, Nat.le_refl _, ?_, ?_, ?_⟩, ?_⟩
  · omega
  · omega
  · exact HC.out.keep (fun p hp => World.cell?_setCell_other _ _ _ _ (fun e => by have h2 : g = p.block := congrArg Addr.block e; omega))
  · exact grownBy_drewN (grownBy_store (World.grownBy.refl _ _) _ _) _
theorem next_world (B g m c a : Nat) (s' : Int) (w : World) (A : Option Addr) {s : Int} (hB : B ≤ g) (hk : Blk w g 69 #[.slice A m c, .int .i64 (a : Int), .int .i64 s]) (hC : Code' B w A m) (ha : a < m) (hs : 0 ≤ s' ∧ s' ≤ 2147483646) (q : Nat) :
    Src B (((w.setCell ⟨g, 2, none⟩ (.int .i64 s')).drewN q).setCell ⟨g, 1, none⟩ (.int .i64 ((a : Int) + 1))) g ∧ w.grownBy (((w.setCell ⟨g, 2, none⟩ (.int .i64 s')).drewN q).setCell ⟨g, 1, none⟩ (.int .i64 ((a : Int) + 1))) (some g) := by
  refine ⟨⟨hB, A, m, c, a + 1, s', ((hk.set_ 2 _).drewN q).set_ 1 _, by omega, hs.1, hs.2, ?_⟩, ?_⟩
  · refine hC.keep fun p hp => ?_
    have h2 : ∀ i, (⟨g, i, none⟩ : Addr) ≠ p := fun i e => by have h2 : g = p.block := congrArg Addr.block e; omega
    rw [World.cell?_setCell_other _ _ _ _ (h2 1), World.cell?_drewN, World.cell?_setCell_other _ _ _ _ (h2 2)]
  · exact grownBy_store (grownBy_drewN (grownBy_store (World.grownBy.refl _ _) _ _) _) _ _
set_option maxHeartbeats 4000000 in
theorem next_code (B g : Nat) (n : Int) (w : World) (A : Option Addr) (m c a : Nat) (s : Int) (hB : B ≤ g) (hk : Blk w g 69 #[.slice A m c, .int .i64 (a : Int), .int .i64 s]) (hs0 : 0 ≤ s) (hs1 : s ≤ 2147483646) (hC : Code' B w A m) (ha : a < m) (hn : 1 < n) :
    Calls Tryz.prog 26 #[.pointer (some ⟨g, 0, none⟩), .int .i64 n] w (NextP B g n w) := by
  have k0 : w.cell? ⟨g, 0, none⟩ = some (.slice A m c) := hk.cell 0
  have k1 : w.cell? ⟨g, 1, none⟩ = some (.int .i64 (a : Int)) := hk.cell 1
  have k2 : w.cell? ⟨g, 2, none⟩ = some (.int .i64 s) := hk.cell 2
  have f1 := hk.frozen 1
  have f2 := hk.frozen 2
  have hm : m ≤ 4096 := hC.1
  have HK := Lib.hid hk
  have HC := Lib.hid hC
  obtain ⟨_, bs, hbs, hby⟩ := hC
  obtain ⟨ad, z, rfl, hb, hz, hc⟩ := hbs.atB ha
  obtain ⟨z0, z1⟩ := hby z (List.mem_of_getElem? hz)
  have hne : ∀ i, (⟨g, i, none⟩ : Addr) ≠ ad.add a := fun i e => by have := congrArg Addr.block e; rw [block_of_add] at this; simp at this; omega
  have c1 : ∀ u : Value, (w.setCell ⟨g, 2, none⟩ u).cell? (ad.add a) = some (.int .u8 z) := fun u => by rw [World.cell?_setCell_other _ _ _ _ (hne 2)]; exact hc
  have c2 : ∀ (u v : Value) (q : Nat), (((w.setCell ⟨g, 2, none⟩ u).drewN q).setCell ⟨g, 1, none⟩ v).cell? (ad.add a) = some (.int .u8 z) := fun u v q => by rw [World.cell?_setCell_other _ _ _ _ (hne 1)]; exact c1 u
  clear hk hbs hby hz hne hc
  have ha' : (a : Int) < (m : Int) := by omega
  go_enter Tryz.func26, Tryz.ntmps26
  go_wp2
  go_quiet (fail)
  go_wp2
  go_quiet (fail)
  go_wp2
  rotate_left
  rotate_left
  all_goals have e1 : IntKind.i64.wrap ((a : Int) + 1 - 1) = a := by rw [IntWalk.i64_in _ (by omega)]; omega
  all_goals have e2 : IntKind.i64.wrap (a : Int) = a := IntWalk.i64_in _ (by omega)
  all_goals try (go_quiet (fail); go_wp2)
  all_goals go_ret
  all_goals first
    | exact ⟨_, rfl, rng_mod hn, next_world B g m c a _ w (some ad) hB HK.out HC.out ha (by omega) _⟩
    | exact ⟨_, rfl, rng_mod hn, Src.drewN (next_world B g m c a _ w (some ad) hB HK.out HC.out ha (by omega) _).1 _, grownBy_drewN (next_world B g m c a _ w (some ad) hB HK.out HC.out ha (by omega) _).2 _⟩
theorem next_any (B g : Nat) (n : Int) (w : World) (h : Src B w g) : Calls Tryz.prog 26 #[.pointer (some ⟨g, 0, none⟩), .int .i64 n] w (NextP B g n w) := by
  by_cases hn : n ≤ 1
  · exact next_one B g n w h hn
  · obtain ⟨hB, A, m, c, a, s, hk, ha, h0, h1, hC⟩ := h
    rcases Nat.lt_or_ge a m with h2 | h2
    · exact next_code B g n w A m c a s hB hk h0 h1 hC h2 (by omega)
    · exact next_end B g n w A m c a s hB hk h0 h1 hC (by omega) (by omega)
theorem rng_nat {n : Nat} {r : Int} (hn : 0 < n) (h : Rng n r) : ∃ k : Nat, k < n ∧ r = (k : Int) := by
  obtain ⟨h1, h2⟩ := h
  by_cases h3 : (n : Int) ≤ 1
  · exact ⟨0, hn, h1 h3⟩
  · obtain ⟨h4, h5⟩ := h2 (by omega)
    exact ⟨r.toNat, by omega, by omega⟩
/-- the number picked is one of the list -/
def PickP (B g : Nat) (zs : List Int) (w : World) (e : Ending) (w' : World) : Prop := ∃ r, e = .returned (.int .i64 r) ∧ r ∈ zs ∧ Src B w' g ∧ w.grownBy w' (some g)
set_option maxHeartbeats 1000000 in
theorem pick_any (B g : Nat) (A : Option Addr) (n c : Nat) (zs : List Int) (w : World) (h : Src B w g) (hz : RdI w w.heap.size A n zs) (hg : ∀ ad, A = some ad → ad.block ≠ g) (hn : 0 < n) :
    Calls Tryz.prog 42 #[.pointer (some ⟨g, 0, none⟩), .slice A n c] w (PickP B g zs w) := by
  have H := Lib.hid (next_any B g n w h)
  have HZ := Lib.hid hz
  have hl := hz.len
  clear h hz
  go_enter Tryz.func42, Tryz.ntmps42
  go_wp2_with (go_at_call 26; (with_reducible refine H.out.mono ?_); rintro ee w1 ⟨r, rfl, hr, hs, hg1⟩; obtain ⟨k, hk, rfl⟩ := rng_nat hn hr; obtain ⟨ad, z, rfl, hb, hz, hc⟩ := HZ.out.atI hk; have hc1 : w1.cell? (ad.add k) = some (.int .i64 z) := (World.cell?_of_block (hg1.block _ (by rw [block_of_add]; exact hb) (fun e => hg ad rfl (by rw [block_of_add] at e; injection e)))).trans hc; have HM := Lib.hid (List.mem_of_getElem? hz); have HS := Lib.hid hs; clear hc hz hr hg hs; have hk' : (k : Int) < (n : Int) := by omega)
  go_ret
  exact ⟨z, rfl, HM.out, HS.out, hg1⟩
def FromP (w : World) (e : Ending) (w' : World) : Prop := ∃ g, e = .returned (.pointer (some ⟨g, 0, none⟩)) ∧ Src w.heap.size w' g ∧ Below w.heap.size w w'
set_option maxHeartbeats 2000000 in
theorem from_any (A : Option Addr) (n c : Nat) (w : World) (hC : Code' w.heap.size w A n) : Calls Tryz.prog 21 #[.slice A n c] w (FromP w) := by
  have hm : n ≤ 4096 := hC.1
  have HC := Lib.hid hC
  clear hC
  go_enter Tryz.func21, Tryz.ntmps21
  go_wp2
  go_loopw [4] (fun i wr => ∃ k : Nat, k ≤ n ∧ i = .int .i64 k ∧ ∃ s : Int, 0 ≤ s ∧ s ≤ 2147483646 ∧ Hid (Blk wr w.heap.size 69 #[.slice A n c, .int .i64 0, .int .i64 s]) ∧ Below w.heap.size w wr) (fun i _ => n - (intOf i).toNat)
  case atStart => exact ⟨0, Nat.zero_le _, rfl, 25001, by omega, by omega, Blk.new _ _ _, by go_grown⟩
  case round =>
    obtain ⟨k, hk, rfl, s, hs0, hs1, HB, hR⟩ := hrel
    by_cases hlt : k < n
    · by_cases h64 : k < 64
      · have hb := HC.out.below hR
        obtain ⟨_, bs, hbs, hby⟩ := hb
        obtain ⟨ad, z, rfl, hb, hz, hc⟩ := hbs.atB hlt
        obtain ⟨z0, z1⟩ := hby z (List.mem_of_getElem? hz)
        clear hbs hby hz
        have k2 : wr.cell? ⟨w.heap.size, 2, none⟩ = some (.int .i64 s) := HB.out.cell 2
        have f2 := HB.out.frozen 2
        have hlt' : (k : Int) < (n : Int) := by omega
        have h64' : (k : Int) < 64 := by omega
        go_wp2_with fail
        go_region
        go_wp2
        go_roundw
        case rel =>
          exact ⟨k + 1, by omega, by go_num, (s * 71 + z) % 2147483647, by omega, by omega, HB.out.set_ 2 _, (hR.setCell (Nat.le_refl _) _).drew⟩
        case measure => simp [intOf]; omega
      · go_wp2
        go_ret
        exact ⟨_, rfl, ⟨Nat.le_refl _, A, n, c, 0, s, HB.out, Nat.zero_le _, hs0, hs1, HC.out.below hR⟩, hR⟩
    · go_wp2
      go_ret
      exact ⟨_, rfl, ⟨Nat.le_refl _, A, n, c, 0, s, HB.out, Nat.zero_le _, hs0, hs1, HC.out.below hR⟩, hR⟩
end Go.Proofs.YtaikfclgmkfooaaGreatDoor
