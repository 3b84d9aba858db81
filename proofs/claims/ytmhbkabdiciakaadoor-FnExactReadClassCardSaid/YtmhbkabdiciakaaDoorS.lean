/-
  Contracts of the small functions that compare, mark and hold lists of int64; slices that a call owns.
-/
import Derived.Test.YtmhbkabdiciakaaDoorB
set_option linter.unusedSimpArgs false
set_option linter.unusedVariables false
namespace Go.Proofs.YtmhbkabdiciakaaDoor
open Go.RowKit

/-- v is a slice of int64 that lies in a block of its own from block base on, and reads as zs -/
def OwI (w : World) (base : Nat) (v : Value) (zs : List Int) : Prop := w.ownsRow base 2 1 v zs.length (zs.map (Value.int .i64))
theorem OwI.form {w : World} {base : Nat} {v : Value} {zs : List Int} (h : OwI w base v zs) : (v = .slice none 0 0 ∧ zs = []) ∨ ∃ g cap, v = .slice (some ⟨g, 0, none⟩) zs.length cap ∧ base ≤ g ∧ g < w.heap.size ∧ zs.length ≤ cap ∧ cap ≤ maxLen := by
  have hlt := h.lt
  obtain ⟨h1, h2⟩ := h
  rcases h2 with ⟨rfl, hn⟩ | ⟨g, cap, cur, rfl, hg, hh, hn, hm, _⟩
  · exact .inl ⟨rfl, List.eq_nil_of_length_eq_zero hn⟩
  · exact .inr ⟨g, cap, rfl, hg, (hlt g rfl).2, hn, hm⟩
theorem map_flat (zs : List Int) : zs.map (Value.int .i64) = zs.flatMap enI := by
  induction zs with
  | nil => rfl
  | cons z zs ih => rw [List.map_cons, List.flatMap_cons, ih]; rfl
theorem OwI.rd {w : World} {base : Nat} {A : Option Addr} {n c : Nat} {zs : List Int} (h : OwI w base (.slice A n c) zs) : n = zs.length ∧ RdI w w.heap.size A n zs := by
  have hn : n = zs.length := by
    rcases h.form with ⟨h1, h2⟩ | ⟨g, cap, h1, _⟩
    · injection h1 with h1 h3; subst h2; exact h3
    · injection h1
  subst hn
  exact ⟨rfl, RdS.of_own (fun x => rfl) h (map_flat zs) rfl⟩
theorem OwI.below {w w' : World} {base B : Nat} {v : Value} {zs : List Int} (h : OwI w base v zs) (hb : Below B w w') (hB : w.heap.size ≤ B) : OwI w' base v zs :=
  World.ownsRow.kept (row := none) h ⟨hb.os, hb.tape, hb.output, hb.size, fun i hi _ => hb.block i (by omega)⟩ (by cases hv : v.ownBlock <;> simp)
theorem OwI.later {w w' : World} {base : Nat} {v : Value} {zs : List Int} (h : OwI w base v zs) (hb : Below w.heap.size w w') : OwI w' base v zs := h.below hb (Nat.le_refl _)
theorem OwI.mono {w : World} {base base' : Nat} {v : Value} {zs : List Int} (h : OwI w base v zs) (hb : base' ≤ base) : OwI w base' v zs := by
  obtain ⟨h1, h2⟩ := h
  refine ⟨h1, ?_⟩
  rcases h2 with h2 | ⟨g, cap, cur, hv, hg, r⟩
  · exact .inl h2
  · exact .inr ⟨g, cap, cur, hv, by omega, r⟩

/-- the marks k, k + 1, .. -/
def marks (k : Int) (n : Nat) : List Int := (List.range n).map fun (i : Nat) => k + (i : Int)
theorem marks_len (k : Int) (n : Nat) : (marks k n).length = n := by simp [marks]
theorem marks_get (k : Int) (n i : Nat) (h : i < n) : (marks k n)[i]? = some (k + (i : Int)) := by simp [marks, h]

set_option maxHeartbeats 400000 in
theorem eqInts_same (A A' : Option Addr) (n c c' B B' : Nat) (zs : List Int) (w : World) (h : RdI w B A n zs) (h' : RdI w B' A' n zs) (hn : n ≤ maxLen) :
    Calls Tryd.prog 16 #[.slice A n c, .slice A' n c'] w fun e w' => e = .returned (.bool true) ∧ Below w.heap.size w w' := by
  unfold maxLen at hn
  go_enter Tryd.func16, Tryd.ntmps16
  go_wp2
  go_loopw [5] (fun i wr => ∃ k : Nat, k ≤ n ∧ i = .int .i64 k ∧ ∃ q, wr = w.drewN q) (fun i _ => n - (intOf i).toNat)
  case atStart => exact ⟨0, Nat.zero_le _, rfl, 0, rfl⟩
  case round =>
    obtain ⟨k, hk, rfl, q, rfl⟩ := hrel
    by_cases hlt : k < n
    · obtain ⟨ad, z, rfl, hb, hz, hc⟩ := h.atI hlt
      obtain ⟨ad', z', rfl, hb', hz', hc'⟩ := h'.atI hlt
      cases hz.symm.trans hz'
      clear hz hz'
      have hlt' : (k : Int) < (n : Int) := by omega
      go_wp2_with fail
      go_quiet (fail)
      go_wp2
      go_roundw
      case rel => exact ⟨k + 1, by omega, by go_num, _, rfl⟩
      case measure => simp [intOf]; omega
    · go_wp2
      go_ret
      exact ⟨rfl, by first | exact below_drewN (Below.refl _ _) _ | exact Below.refl _ _⟩
set_option maxHeartbeats 400000 in
theorem held_any (A : Option Addr) (n c B : Nat) (k0 : Nat) (w : World) (h : RdI w B A n (marks k0 n)) (hn : n ≤ 1000000000) (hk0 : k0 ≤ 1000000000) :
    Calls Tryd.prog 18 #[.slice A n c, .int .i64 k0] w fun e w' => e = .returned (.int .i64 ((k0 + n : Nat) : Int)) ∧ w = w' := by
  go_enter Tryd.func18, Tryd.ntmps18
  go_wp2
  go_loop [1, 5] (fun x i => ∃ k : Nat, k ≤ n ∧ i = .int .i64 k ∧ x = .int .i64 ((k0 + k : Nat) : Int)) (fun _ i => n - (intOf i).toNat)
  case atStart => exact ⟨0, Nat.zero_le _, rfl, rfl⟩
  case round =>
    obtain ⟨k, hk, rfl, rfl⟩ := hrel
    by_cases hlt : k < n
    · obtain ⟨ad, z, rfl, hb, hz, hc⟩ := h.atI hlt
      rw [marks_get _ _ _ hlt] at hz
      cases hz
      have hk2 : ((k0 + k : Nat) : Int) = (k0 : Int) + (k : Int) := by omega
      go_wp2
      go_round
      case rel => exact ⟨k + 1, by omega, by go_num, by go_num⟩
      case measure => simp [intOf]; omega
    · obtain rfl : k = n := by omega
      go_wp2
      go_ret
      exact ⟨rfl, rfl⟩
theorem mark_step (zs : List Int) (k0 k : Nat) (h : k < zs.length) : ((marks k0 k ++ zs.drop k).map (Value.int .i64)).set k (.int .i64 ((k0 + k : Nat) : Int)) = (marks k0 (k + 1) ++ zs.drop (k + 1)).map (Value.int .i64) := by
  have hm : marks (k0 : Int) (k + 1) = marks k0 k ++ [((k0 + k : Nat) : Int)] := by
    simp [marks, List.range_succ]
  have hd : zs.drop k = zs[k] :: zs.drop (k + 1) := List.drop_eq_getElem_cons h
  rw [hm, hd]
  simp only [List.map_append, List.map_cons, List.map_nil, List.append_assoc]
  rw [List.set_append_right _ _ (by simp [marks_len])]
  simp [marks_len]
theorem mark_len (zs : List Int) (k0 k : Nat) (h : k ≤ zs.length) : (marks k0 k ++ zs.drop k).length = zs.length := by
  simp [marks_len]; omega
set_option maxHeartbeats 400000 in
theorem mark_any (base : Nat) (A : Option Addr) (n c : Nat) (zs : List Int) (k0 : Nat) (w : World) (h : OwI w base (.slice A n c) zs) (hn : n ≤ 1000000000) (hk0 : k0 ≤ 1000000000) :
    Calls Tryd.prog 17 #[.slice A n c, .int .i64 k0] w fun e w' => e = .returned (.int .i64 ((k0 + n : Nat) : Int)) ∧ OwI w' base (.slice A n c) (marks k0 n) ∧ w.grownBy w' (Value.slice A n c).ownBlock := by
  have hln := h.rd.1
  rcases h.form with ⟨h1, h2⟩ | ⟨g, cap, h1, hg, hlt, hcap, hmx⟩
  · injection h1 with h1 h3 h4
    subst h1 h3 h4 h2
    have H := Lib.hid h
    clear h hln hn
    go_enter Tryd.func17, Tryd.ntmps17
    go_wp2
    refine wp_loop_rounds 1 ?_
    rw [rounds_succ]
    go_wp2
    go_ret
    exact ⟨rfl, H.out, World.grownBy.refl _ _⟩
  · injection h1 with h1 h3 h4
    subst h1 h3 h4
    unfold maxLen at hmx
    have HO : Hid (w.ownsRow base 2 1 (.slice (some ⟨g, 0, none⟩) zs.length c) zs.length ((marks k0 0 ++ zs.drop 0).map (Value.int .i64))) := h
    clear h hln
    go_enter Tryd.func17, Tryd.ntmps17
    go_wp2
    go_loopw [1, 5] (fun x i wr => ∃ k : Nat, k ≤ zs.length ∧ i = .int .i64 k ∧ x = .int .i64 ((k0 + k : Nat) : Int) ∧ Hid (wr.ownsRow base 2 1 (.slice (some ⟨g, 0, none⟩) zs.length c) zs.length ((marks k0 k ++ zs.drop k).map (Value.int .i64))) ∧ w.grownBy wr (some g)) (fun _ i _ => zs.length - (intOf i).toNat)
    case atStart => exact ⟨0, Nat.zero_le _, rfl, rfl, HO, World.grownBy.refl _ _⟩
    case round =>
      obtain ⟨k, hk, rfl, rfl, HR, hG⟩ := hrel
      by_cases hlt : k < zs.length
      · have hcell : ∃ u, wr.cell? ⟨g, k, none⟩ = some u := by
          rw [HR.out.cellAt k (by omega)]
          exact ⟨_, List.getElem?_eq_getElem (by rw [List.length_map, mark_len _ _ _ hk]; exact hlt)⟩
        obtain ⟨u, hu⟩ := hcell
        have hfz := HR.out.frozenAt k
        have hk2 : ((k0 + k : Nat) : Int) = (k0 : Int) + (k : Int) := by omega
        go_wp2
        go_roundw
        case rel =>
          refine ⟨k + 1, by omega, by go_num, by go_num, ?_, grownBy_store hG _ _⟩
          have := (HR.out.stored k (.int .i64 ((k0 + k : Nat) : Int))).1
          rw [mark_step zs k0 k hlt, hk2] at this
          exact this
        case measure => simp [intOf]; omega
      · obtain rfl : k = zs.length := by omega
        have HE := HR.out
        rw [List.drop_length, List.append_nil] at HE
        have HE := Lib.hid HE
        go_wp2
        go_ret
        exact ⟨rfl, by unfold OwI; rw [marks_len]; exact HE.out, hG⟩
theorem mark1 (base : Nat) (A : Option Addr) (c : Nat) (zs : List Int) (w : World) (h : OwI w base (.slice A zs.length c) zs) (hn : zs.length ≤ 1000000000) :
    Calls Tryd.prog 17 #[.slice A zs.length c, .int .i64 1] w fun e w' => e = .returned (.int .i64 (1 + (zs.length : Int))) ∧ OwI w' base (.slice A zs.length c) (marks 1 zs.length) ∧ w.grownBy w' (Value.slice A zs.length c).ownBlock :=
  (mark_any base A zs.length c zs 1 w h hn (by omega)).mono fun _ _ ⟨h1, h2⟩ => ⟨by rw [h1, show ((1 + zs.length : Nat) : Int) = 1 + (zs.length : Int) from by omega], h2⟩
theorem held1 (A : Option Addr) (n c B : Nat) (w : World) (h : RdI w B A n (marks 1 n)) (hn : n ≤ 1000000000) :
    Calls Tryd.prog 18 #[.slice A n c, .int .i64 1] w fun e w' => e = .returned (.int .i64 (1 + (n : Int))) ∧ w = w' :=
  (held_any A n c B 1 w h hn (by omega)).mono fun _ _ ⟨h1, h2⟩ => ⟨by rw [h1, show ((1 + n : Nat) : Int) = 1 + (n : Int) from by omega], h2⟩
theorem OwI.marked {w : World} {base : Nat} {A : Option Addr} {n c : Nat} (h : OwI w base (.slice A n c) (marks 1 n)) : RdI w w.heap.size A n (marks 1 n) := by
  have := h.rd
  exact this.2
/-- what lies below the block of an owned slice stays while that block is written -/
theorem grownOwn_cell {w w' : World} {B base : Nat} {A' : Option Addr} {n' c' : Nat} {zs : List Int} (ho : OwI w base (.slice A' n' c') zs) (hg : w.grownBy w' (Value.slice A' n' c').ownBlock) (hB : B ≤ base) (hw : B ≤ w.heap.size) : ∀ p : Addr, p.block < B → w'.cell? p = w.cell? p := by
  intro p hp
  refine World.cell?_of_block (hg.block _ (by omega) ?_)
  rcases ho.form with ⟨h1, _⟩ | ⟨g, cap, h1, hb, _⟩
  · rw [h1]; simp [Value.ownBlock]
  · rw [h1]
    intro he
    simp only [Value.ownBlock, Option.some.injEq] at he
    omega
theorem grownOwn_below {w w' : World} {base : Nat} {A' : Option Addr} {n' c' : Nat} {zs : List Int} {a : World} {B : Nat} (h : Below B a w) (ho : OwI w base (.slice A' n' c') zs) (hg : w.grownBy w' (Value.slice A' n' c').ownBlock) (hB : B ≤ base) (hw : B ≤ w.heap.size) : Below B a w' := by
  refine h.grown hg hw fun k hk => ?_
  rcases ho.form with ⟨h1, _⟩ | ⟨g, cap, h1, hb, _⟩
  · rw [h1] at hk; simp [Value.ownBlock] at hk
  · rw [h1] at hk
    simp only [Value.ownBlock, Option.some.injEq] at hk
    omega
end Go.Proofs.YtmhbkabdiciakaaDoor
