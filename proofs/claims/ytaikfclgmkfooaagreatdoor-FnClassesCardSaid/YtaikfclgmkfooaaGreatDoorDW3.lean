/-
  Walks of ReadClass, the reference's side: words as numbers.
-/
import Derived.Test.YtaikfclgmkfooaaGreatDoorDW2
set_option linter.unusedSimpArgs false
set_option linter.unusedVariables false
namespace Go.Proofs.YtaikfclgmkfooaaGreatDoor
open Go Go.RowKit
/-- the bytes of the words -/
def bts (ws : List ByteArray) : List (List UInt8) := ws.map (fun x => x.data.toList)
theorem nums_app {f : List UInt8 → Option Int} : ∀ (xs : List (List UInt8)) (ns : List Int) (x : List UInt8) (v : Int), nums f xs = some ns → f x = some v → nums f (xs ++ [x]) = some (ns ++ [v])
  | [], ns, x, v, h, hx => by injection h with h; subst h; simp [nums, hx]
  | y :: r, ns, x, v, h, hx => by
    unfold nums at h
    cases hy : f y with
    | none => rw [hy] at h; cases h
    | some n =>
      rw [hy] at h
      dsimp only at h
      cases hr : nums f r with
      | none => rw [hr] at h; cases h
      | some m =>
        rw [hr] at h
        injection h with h
        subst h
        rw [List.cons_append, nums, hy]
        dsimp only
        rw [nums_app r m x v hr hx]
        rfl
theorem nums_no {f : List UInt8 → Option Int} : ∀ (xs : List (List UInt8)) (x : List UInt8), x ∈ xs → f x = none → nums f xs = none
  | [], x, h, _ => by cases h
  | y :: r, x, h, hx => by
    unfold nums
    rcases List.mem_cons.1 h with h1 | h1
    · subst h1
      rw [hx]
    · cases hy : f y with
      | none => rfl
      | some n =>
        dsimp only
        rw [nums_no r x h1 hx]
theorem bts_take {ws : List ByteArray} {k : Nat} {x : ByteArray} (h : ws[k]? = some x) : bts (ws.take (k + 1)) = bts (ws.take k) ++ [x.data.toList] := by
  unfold bts
  rw [List.take_add_one, h, List.map_append]
  rfl
theorem bts_mem {ws : List ByteArray} {k : Nat} {x : ByteArray} (h : ws[k]? = some x) : x.data.toList ∈ bts ws := List.mem_map.2 ⟨x, List.mem_of_getElem? h, rfl⟩
theorem nums_len {f : List UInt8 → Option Int} : ∀ (xs : List (List UInt8)) (ns : List Int), nums f xs = some ns → ns.length = xs.length
  | [], ns, h => by injection h with h; subst h; rfl
  | y :: r, ns, h => by
    unfold nums at h
    cases hy : f y with
    | none => rw [hy] at h; cases h
    | some n =>
      rw [hy] at h
      dsimp only at h
      cases hr : nums f r with
      | none => rw [hr] at h; cases h
      | some m =>
        rw [hr] at h
        injection h with h
        subst h
        simp [nums_len r m hr]
/-- numbers, if there are any, in a list of the call's own -/
def NuP (r : Option (List Int)) (w w' : World) (e : Ending) : Prop := Below w.heap.size w w' ∧ ∃ A n c b, e = .returned (.tuple #[.slice A n c, .bool b]) ∧ (b = true → ∃ ns, r = some ns ∧ OwI w' w.heap.size (.slice A n c) ns) ∧ (b = false → r = none)
set_option maxHeartbeats 2000000 in
theorem numbers_any (A : Option Addr) (n c : Nat) (ws : List ByteArray) (w : World) (h : RdW w w.heap.size A n ws) (hn : n ≤ 1048577) (hs : ∀ x ∈ ws, x.size ≤ 4611686018427387904) : Calls Tryz.prog 30 #[.slice A n c] w fun e w' => NuP (nums sgn (bts ws)) w w' e := by
  have hl := Lib.hid h.len
  have hO := Lib.hid (ownEmpty w w.heap.size (Nat.le_refl _))
  have HR := Lib.hid (fun W (hB : Below w.heap.size w W) => (h.below hB))
  have HS := Lib.hid (fun x W hx => signed_any x W (hs x hx))
  clear h hs
  go_enter Tryz.func30, Tryz.ntmps30
  go_wp2
  go_loopw [4, 5] (fun x i wr => ∃ (k : Nat) (A1 : Option Addr) (m1 c1 : Nat) (ns : List Int), i = .int .i64 k ∧ x = .slice A1 m1 c1 ∧ k ≤ n ∧ Hid (nums sgn (bts (ws.take k)) = some ns) ∧ Hid (OwI wr w.heap.size (.slice A1 m1 c1) ns) ∧ ns.length = k ∧ Below w.heap.size w wr) (fun _ i _ => n - (intOf i).toNat)
  case atStart => exact ⟨0, _, _, _, [], rfl, rfl, Nat.zero_le _, Lib.hid rfl, hO, rfl, al_ _ _⟩
  case round =>
    obtain ⟨k, A1, m1, c1, ns, rfl, rfl, hk, HN, O, hln, hB⟩ := hrel
    by_cases hlt : k < n
    · obtain ⟨ad, x, rfl, hb1, hz, hc⟩ := RdW.atW (HR.out wr hB) hlt
      have HX := Lib.hid hz
      have HSx := Lib.hid (HS.out x)
      clear hz
      go_wp2_with (go_at_call 49; (with_reducible refine Calls.mono (HSx.out _ (List.mem_of_getElem? HX.out)) ?_); rintro ee wz ⟨hb, v, b, rfl, hv, hr⟩; refine Hid.out ?_)
      refine Lib.hid ?_
      replace O := Lib.hid (O.out.later hb)
      replace hB := bel_step hB hb
      clear hb hc hb1
      cases b with
      | false =>
        have HQ : Hid (nums sgn (bts ws) = none) := Lib.hid (nums_no _ _ (bts_mem HX.out) hr)
        clear hr
        go_wp2
        go_returns
        exact ⟨hB, none, 0, 0, false, rfl, (fun e => by cases e), fun _ => HQ.out⟩
      | true =>
        have HQ : Hid (nums sgn (bts (ws.take (k + 1))) = some (ns ++ [v])) := Lib.hid (by rw [bts_take HX.out]; exact nums_app _ _ _ _ HN.out hr)
        clear hr
        go_wp2_with ((at_builtin; refine wpl_app_intM rfl _ _ rfl w.heap.size ns _ (by rfl) (O.out.later (al_ _ _)) _ _ 1 (by rfl) ((Blk.new _ _ _).cell 0) (by omega) (by have := hB.size; simp; omega) ?_; intro A3 m3 c3 w3 ho3 hg3 _; have rw3 := own_rowI O.out; replace O := Lib.hid ho3; replace hB := (hB.alloc hB.size _).grown hg3 (by have := hB.size; simp; omega) (fun b e => (by have := (rw3 b e).1; omega)); clear ho3 hg3 rw3))
        go_roundw
        case rel => exact ⟨k + 1, _, _, _, ns ++ [v], by go_num, rfl, by omega, HQ, O, by simp; omega, hB⟩
        case measure => simp [intOf]; omega
    · obtain rfl : k = n := by omega
      have HQ : Hid (nums sgn (bts ws) = some ns) := Lib.hid (by rw [← HN.out, List.take_of_length_le (by rw [hl.out]; exact Nat.le_refl _)])
      go_wp2
      go_returns
      exact ⟨hB, A1, m1, c1, true, rfl, (fun _ => ⟨ns, HQ.out, O.out⟩), fun e => by cases e⟩
end Go.Proofs.YtaikfclgmkfooaaGreatDoor
