/-
  Walks of ReadClass, the reference's side: a signed numeral.
-/
import Derived.Test.YtaikfclgmkfooaaGreatDoorDW1
set_option linter.unusedSimpArgs false
set_option linter.unusedVariables false
namespace Go.Proofs.YtaikfclgmkfooaaGreatDoor
open Go Go.RowKit
theorem extract1 (s : ByteArray) (h : 0 < s.size) : s.data.toList = s[0] :: (s.extract 1 s.size).data.toList := by
  rw [Lib.extract_data, List.take_of_length_le (by rw [List.length_drop, size_list]; exact Nat.le_refl _)]
  have h1 := List.drop_eq_getElem_cons (l := s.data.toList) (i := 0) (by rw [size_list]; exact h)
  rw [List.drop_zero] at h1
  exact h1
theorem u8_45 {c : UInt8} : c = 45 ↔ c.toNat = 45 := ⟨fun e => by subst e; rfl, fun e => UInt8.toNat_inj.1 e⟩
set_option maxHeartbeats 2000000 in
theorem signed_any (s : ByteArray) (w : World) (hs : s.size ≤ 4611686018427387904) : Calls Tryz.prog 49 #[.string s] w fun e w' => OpP (sgn s.data.toList) w w' e := by
  by_cases h0 : 0 < s.size
  · by_cases h1 : s[0].toNat = 45
    · have HD := Lib.hid (fun W => digits_any (s.extract 1 s.size) W (by rw [ByteArray.size_extract]; omega))
      have HS : Hid (sgn s.data.toList = (match dgt (s.extract 1 s.size).data.toList with | some n => if 0 < n then some (-n) else none | none => none)) := Lib.hid (by rw [extract1 s h0, u8_45.2 h1, sgn_neg]; rfl)
      generalize dgt (s.extract 1 s.size).data.toList = r at *
      generalize sgn s.data.toList = R at *
      go_enter Tryz.func49, Tryz.ntmps49
      go_wp2_with (go_at_call 68; (with_reducible refine Calls.mono (HD.out _) ?_); rintro ee wz ⟨hb, v, b, rfl, hv, hr⟩; refine Hid.out ?_)
      refine Lib.hid ?_
      have q := IntWalk.i64_in (-v) (by omega)
      clear HD hs
      cases b with
      | false =>
        have HR : Hid (R = none) := Lib.hid (by rw [HS.out, hr]; rfl)
        clear HS hr
        go_wp2
        go_returns
        exact ⟨hb, -v, false, rfl, by omega, HR.out⟩
      | true =>
        have HR : Hid (R = if decide (0 < v) = true then some (-v) else none) := Lib.hid (by rw [HS.out, hr, if_pos rfl]; simp only [decide_eq_true_eq])
        clear HS hr
        go_wp2
        go_returns
        exact ⟨hb, -v, _, rfl, by omega, HR.out⟩
    · have HD := Lib.hid (fun W => digits_any s W hs)
      have HS : Hid (sgn s.data.toList = dgt s.data.toList) := Lib.hid (by rw [extract1 s h0, sgn_pos _ (fun e => h1 (u8_45.1 e))])
      rw [← HS.out] at HD
      go_enter Tryz.func49, Tryz.ntmps49
      go_wp2_with (go_at_call 68; (with_reducible refine Calls.mono (HD.out _) ?_); rintro ee wz ⟨hb, v, b, rfl, hv, hr⟩; replace hr := Lib.hid hr)
      go_returns
      exact ⟨hb, v, b, rfl, hv, hr.out⟩
  · have HD := Lib.hid (fun W => digits_any s W hs)
    have HS : Hid (sgn s.data.toList = dgt s.data.toList) := Lib.hid (by
      have : s.data.toList = [] := List.eq_nil_of_length_eq_zero (by rw [size_list]; omega)
      rw [dgt_short (.inl (by omega)), this]
      rfl)
    rw [← HS.out] at HD
    go_enter Tryz.func49, Tryz.ntmps49
    go_wp2_with (go_at_call 68; (with_reducible refine Calls.mono (HD.out _) ?_); rintro ee wz ⟨hb, v, b, rfl, hv, hr⟩; replace hr := Lib.hid hr)
    go_returns
    exact ⟨hb, v, b, rfl, hv, hr.out⟩
end Go.Proofs.YtaikfclgmkfooaaGreatDoor
