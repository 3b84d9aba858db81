/-
  Walks of ReadClass, the reference's side: numerals.
-/
import Derived.Test.YtaikfclgmkfooaaGreatDoorChecked
import Derived.Test.YtaikfclgmkfooaaGreatDoorDW0
set_option linter.unusedSimpArgs false
set_option linter.unusedVariables false
namespace Go.Proofs.YtaikfclgmkfooaaGreatDoor
open Go Go.RowKit
theorem vlF_lt : ∀ (l : List UInt8) (a : Nat), l.all isD = true → l.foldl (fun a c => 10 * a + (c.toNat - 48)) a < (a + 1) * 10 ^ l.length
  | [], a, _ => by simp
  | c :: r, a, h => by
    rw [List.all_cons, Bool.and_eq_true] at h
    have h3 := of_decide_eq_true h.1
    have ih := vlF_lt r (10 * a + (c.toNat - 48)) h.2
    rw [List.foldl_cons, List.length_cons, Nat.pow_succ]
    refine Nat.lt_of_lt_of_le ih ?_
    have h4 : 10 * a + (c.toNat - 48) + 1 ≤ (a + 1) * 10 := by omega
    calc (10 * a + (c.toNat - 48) + 1) * 10 ^ r.length ≤ (a + 1) * 10 * 10 ^ r.length := Nat.mul_le_mul_right _ h4
      _ = (a + 1) * (10 ^ r.length * 10) := by rw [Nat.mul_assoc, Nat.mul_comm 10]
theorem vlN_lt {l : List UInt8} (h : l.all isD = true) : vlN l < 10 ^ l.length := by
  have := vlF_lt l 0 h
  simpa [vlN] using this
theorem wrap64_in {x : Int} (h : -9223372036854775808 ≤ x ∧ x ≤ 9223372036854775807) : wrap64 x = x := by unfold wrap64; omega
theorem bytes_at {s : ByteArray} {k : Nat} (h : k < s.size) : s.data.toList[k]? = some s[k] := by
  rw [Array.getElem?_toList, Array.getElem?_eq_getElem h]
  rfl
theorem size_list (s : ByteArray) : s.data.toList.length = s.size := by rw [Array.length_toList]; rfl
theorem dgt_short {s : ByteArray} (h : s.size < 1 ∨ 13 < s.size) : dgt s.data.toList = none := by
  unfold dgt
  rw [if_neg]
  rintro ⟨h1, _⟩
  rw [size_list] at h1
  omega
theorem dgt_bad {s : ByteArray} {k : Nat} (h : k < s.size) (hc : s[k].toNat < 48 ∨ 57 < s[k].toNat) : dgt s.data.toList = none := by
  unfold dgt
  rw [if_neg]
  rintro ⟨_, h1, _⟩
  have h2 := List.all_eq_true.1 h1 _ (List.mem_of_getElem? (bytes_at h))
  have h3 := of_decide_eq_true h2
  omega
/-- a number and whether there is one, as the reference's readers give it -/
def OpP (r : Option Int) (w w' : World) (e : Ending) : Prop := Below w.heap.size w w' ∧ ∃ v b, e = .returned (.tuple #[.int .i64 v, .bool b]) ∧ (-10000000000000 < v ∧ v < 10000000000000) ∧ r = (if b then some v else none)
theorem OpP.no {r : Option Int} {w w' : World} (hr : r = none) (hb : Below w.heap.size w w') : OpP r w w' (.returned (.tuple #[.int .i64 0, .bool false])) := ⟨hb, 0, false, rfl, by omega, hr⟩
theorem dgt_end {s : ByteArray} (h : 1 ≤ s.size ∧ s.size ≤ 13) (ha : s.data.toList.all isD = true) : dgt s.data.toList = if (Lib.decDigits (vlN s.data.toList) == s.data.toList) = true then some (vlN s.data.toList : Int) else none := by
  unfold dgt
  rw [size_list]
  by_cases h2 : Lib.decDigits (vlN s.data.toList) = s.data.toList
  · rw [if_pos ⟨h, ha, h2⟩, if_pos (by rw [beq_iff_eq]; exact h2)]
  · rw [if_neg (fun e => h2 e.2.2), if_neg (fun e => h2 (by rwa [beq_iff_eq] at e))]
set_option maxHeartbeats 2000000 in
theorem digits_any (s : ByteArray) (w : World) (hs : s.size ≤ 4611686018427387904) : Calls Tryz.prog 68 #[.string s] w fun e w' => OpP (dgt s.data.toList) w w' e := by
  by_cases h1 : s.size < 1
  · have hd := Lib.hid (dgt_short (.inl h1))
    go_enter Tryz.func68, Tryz.ntmps68
    go_wp2
    go_returns
    exact OpP.no hd.out (Below.refl _ _)
  · by_cases h13 : 13 < s.size
    · have hd := Lib.hid (dgt_short (.inr h13))
      go_enter Tryz.func68, Tryz.ntmps68
      go_wp2
      go_returns
      exact OpP.no hd.out (Below.refl _ _)
    · have hb : Hid (∀ k, k ≤ s.size → (s.data.toList.take k).all isD = true → vlN (s.data.toList.take k) < 10000000000000) := Lib.hid (fun k hk h => by
        have h2 := vlN_lt h
        have h3 : (s.data.toList.take k).length ≤ 13 := by rw [List.length_take]; omega
        have h4 := Nat.pow_le_pow_right (show 0 < 10 by decide) h3
        omega)
      go_enter Tryz.func68, Tryz.ntmps68
      go_wp2
      go_loopw [4, 5] (fun x i wr => ∃ k : Nat, k ≤ s.size ∧ i = .int .i64 k ∧ x = .int .i64 (vlN (s.data.toList.take k) : Nat) ∧ Hid ((s.data.toList.take k).all isD = true) ∧ wr = w) (fun _ i _ => s.size - (intOf i).toNat)
      case atStart => exact ⟨0, Nat.zero_le _, rfl, rfl, Lib.hid rfl, rfl⟩
      case round =>
        obtain ⟨k, hk, rfl, rfl, HA, rfl⟩ := hrel
        have hvb := hb.out k hk HA.out
        by_cases hlt : k < s.size
        · have hstep : Hid (s.data.toList.take (k + 1) = s.data.toList.take k ++ [s[k]]) := Lib.hid (by rw [List.take_add_one, bytes_at hlt]; rfl)
          have hbad := Lib.hid (dgt_bad hlt)
          have hv : Hid (vlN (s.data.toList.take (k + 1)) = 10 * vlN (s.data.toList.take k) + (s[k].toNat - 48)) := Lib.hid (by rw [hstep.out, vlN_app])
          have hD : Hid (isD s[k] = decide (48 ≤ s[k].toNat ∧ s[k].toNat ≤ 57)) := Lib.hid rfl
          generalize hvl : vlN (s.data.toList.take k) = vl at *
          clear hvl
          by_cases c0 : s[k].toNat < 48
          · have hb2 := Lib.hid (hbad.out (.inl c0))
            go_wp2
            go_returns
            exact OpP.no hb2.out (Below.refl _ _)
          · by_cases c1 : 57 < s[k].toNat
            · have hb2 := Lib.hid (hbad.out (.inr c1))
              go_wp2
              go_returns
              exact OpP.no hb2.out (Below.refl _ _)
            · have h64 := IntWalk.i64_in (10 * (vl : Int)) (by omega)
              have h8 := u8_in (z := (s[k].toNat : Int) - 48) (by omega)
              have h65 := IntWalk.i64_in (10 * (vl : Int) + ((s[k].toNat : Int) - 48)) (by omega)
              go_wp2
              refine ⟨⟨k + 1, by omega, by go_num, ?_, ?_, trivial⟩, by simp [intOf]; omega⟩
              · rw [hv.out]
                congr 1
                omega
              · refine Lib.hid ?_
                rw [hstep.out, List.all_append, HA.out, Bool.true_and]
                simp only [List.all_cons, List.all_nil, Bool.and_true]
                rw [hD.out]
                exact decide_eq_true (by omega)
        · obtain rfl : k = s.size := by omega
          have htk : Hid (s.data.toList.take s.size = s.data.toList) := Lib.hid (by rw [← size_list s, List.take_length])
          have he := dgt_end (s := s) (by omega) (by rw [← htk.out]; exact HA.out)
          have hv0 : vlN s.data.toList = vlN (s.data.toList.take s.size) := by rw [htk.out]
          rw [hv0, show (Lib.decDigits (vlN (s.data.toList.take s.size)) == s.data.toList) = (Lib.decDigits (vlN (s.data.toList.take s.size)) == s.toList) by rw [Lib.toList_data s]] at he
          have HE := Lib.hid he
          clear he hv0 hb HA hlt hk
          generalize vlN (s.data.toList.take s.size) = vl at *
          have HDv := Lib.hid (dec_any vl wr (by omega))
          go_wp2_with (go_at_call 59; (with_reducible refine Calls.mono HDv.out ?_); rintro ee wz ⟨rfl, hb⟩)
          go_returns
          exact ⟨hb, (vl : Int), _, rfl, by omega, HE.out⟩
end Go.Proofs.YtaikfclgmkfooaaGreatDoor
