/-
  Walks of ReadClass, the reference's side: a text cut at its blanks.
-/
import Derived.Test.YtaikfclgmkfooaaGreatDoorDW3
set_option linter.unusedSimpArgs false
set_option linter.unusedVariables false
namespace Go.Proofs.YtaikfclgmkfooaaGreatDoor
open Go Go.RowKit
/-- the bytes from f up to k -/
def pie (l : List UInt8) (f k : Nat) : List UInt8 := (l.drop f).take (k - f)
theorem pie_step {l : List UInt8} {f k : Nat} {c : UInt8} (hf : f ≤ k) (h : l[k]? = some c) : pie l f (k + 1) = pie l f k ++ [c] := by
  unfold pie
  rw [show k + 1 - f = k - f + 1 by omega, List.take_add_one, List.getElem?_drop, show f + (k - f) = k by omega, h]
  rfl
theorem pie_rest {l : List UInt8} {f k : Nat} (hf : f ≤ k) : l.drop f = pie l f k ++ l.drop k := by
  unfold pie
  conv => lhs; rw [← List.take_append_drop (k - f) (l.drop f)]
  rw [List.drop_drop, show f + (k - f) = k by omega]
/-- what stands at byte k: words ws are cut off, the word at hand begins at f -/
def SpI (l : List UInt8) (k f : Nat) (ws : List (List UInt8)) : Prop := (k ≤ l.length ∧ f ≤ k ∧ (32 : UInt8) ∉ pie l f k ∧ spl l = ws ++ spl (l.drop f)) ∨ (k = l.length + 1 ∧ spl l = ws)
theorem SpI.zero (l : List UInt8) : SpI l 0 0 [] := .inl ⟨Nat.zero_le _, Nat.le_refl _, by simp [pie], by simp⟩
theorem SpI.on {l : List UInt8} {k f : Nat} {ws : List (List UInt8)} {c : UInt8} (h : SpI l k f ws) (hk : l[k]? = some c) (hc : ¬ c = 32) : SpI l (k + 1) f ws := by
  have hl : k < l.length := (List.getElem?_eq_some_iff.1 hk).1
  rcases h with ⟨_, h1, h2, h3⟩ | ⟨h1, _⟩
  · refine .inl ⟨by omega, by omega, ?_, h3⟩
    rw [pie_step h1 hk]
    simp only [List.mem_append, List.mem_singleton, not_or]
    exact ⟨h2, fun e => hc e.symm⟩
  · omega
theorem SpI.cut {l : List UInt8} {k f : Nat} {ws : List (List UInt8)} (h : SpI l k f ws) (hk : l[k]? = some 32) : SpI l (k + 1) (k + 1) (ws ++ [pie l f k]) := by
  have hl : k < l.length := (List.getElem?_eq_some_iff.1 hk).1
  rcases h with ⟨_, h1, h2, h3⟩ | ⟨h1, _⟩
  · refine .inl ⟨by omega, by omega, by simp [pie], ?_⟩
    rw [h3, pie_rest h1]
    have h4 : l.drop k = 32 :: l.drop (k + 1) := by
      rw [List.drop_eq_getElem_cons hl]
      have := (List.getElem?_eq_some_iff.1 hk).2
      rw [this]
    rw [h4, spl_blank _ _ h2]
    simp
  · omega
theorem SpI.last {l : List UInt8} {f : Nat} {ws : List (List UInt8)} (h : SpI l l.length f ws) : SpI l (l.length + 1) (l.length + 1) (ws ++ [pie l f l.length]) := by
  rcases h with ⟨_, h1, h2, h3⟩ | ⟨h1, _⟩
  · refine .inr ⟨rfl, ?_⟩
    rw [h3, pie_rest h1, List.drop_length, List.append_nil, spl_word _ h2]
  · omega
theorem SpI.le {l : List UInt8} {k f : Nat} {ws : List (List UInt8)} (h : SpI l k f ws) (hk : k ≤ l.length) : f ≤ k := by
  rcases h with ⟨_, h1, _⟩ | ⟨h1, _⟩ <;> omega
theorem SpI.end_ {l : List UInt8} {f : Nat} {ws : List (List UInt8)} (h : SpI l (l.length + 1) f ws) : spl l = ws := by
  rcases h with ⟨h1, _⟩ | ⟨_, h1⟩
  · omega
  · exact h1
theorem bts_app (ws : List ByteArray) (x : ByteArray) : bts (ws ++ [x]) = bts ws ++ [x.data.toList] := by unfold bts; rw [List.map_append]; rfl
/-- words in a list of the call's own -/
def SpP (s : ByteArray) (w w' : World) (e : Ending) : Prop := Below w.heap.size w w' ∧ ∃ A n c ws, e = .returned (.slice A n c) ∧ OwW w' w.heap.size (.slice A n c) ws ∧ bts ws = spl s.data.toList ∧ ∀ x ∈ ws, x.size ≤ s.size
theorem ext_size (s : ByteArray) (f k : Nat) : (s.extract f k).size ≤ s.size := by rw [ByteArray.size_extract]; omega
theorem mem_one {ws : List ByteArray} {x : ByteArray} {m : Nat} (h : ∀ y ∈ ws, y.size ≤ m) (hx : x.size ≤ m) : ∀ y ∈ ws ++ [x], y.size ≤ m := by
  intro y hy
  rcases List.mem_append.1 hy with h1 | h1
  · exact h y h1
  · rw [List.mem_singleton] at h1
    subst h1
    exact hx
set_option maxHeartbeats 2000000 in
theorem split_any (s : ByteArray) (w : World) (hs : s.size ≤ 1048576) : Calls Tryz.prog 31 #[.string s, .int .u8 32] w fun e w' => SpP s w w' e := by
  have hO := Lib.hid (ownEmptyW w w.heap.size (Nat.le_refl _))
  have hsl := size_list s
  have HX := Lib.hid (fun f k => (by unfold pie; exact Lib.extract_data s f k : (s.extract f k).data.toList = pie s.data.toList f k))
  have HAt := Lib.hid (fun k (h : k < s.size) => bytes_at h)
  obtain ⟨l, hL⟩ : ∃ l, l = s.data.toList := ⟨_, rfl⟩
  rw [← hL] at hsl HX HAt
  replace hL := Lib.hid hL
  go_enter Tryz.func31, Tryz.ntmps31
  go_wp2
  go_loopw [5, 6, 7] (fun x y i wr => ∃ (k f : Nat) (A1 : Option Addr) (m1 c1 : Nat) (ws : List ByteArray), i = .int .i64 k ∧ y = .int .i64 f ∧ x = .slice A1 m1 c1 ∧ k ≤ s.size + 1 ∧ Hid (SpI l k f (bts ws)) ∧ Hid (OwW wr w.heap.size (.slice A1 m1 c1) ws) ∧ Hid (∀ x ∈ ws, x.size ≤ s.size) ∧ ws.length ≤ k ∧ Below w.heap.size w wr) (fun _ _ i _ => s.size + 1 - (intOf i).toNat)
  case atStart => exact ⟨0, 0, _, _, _, [], rfl, rfl, rfl, Nat.zero_le _, Lib.hid (SpI.zero l), hO, Lib.hid (fun x hx => by cases hx), Nat.le_refl _, al_ _ _⟩
  case round =>
    obtain ⟨k, f, A1, m1, c1, ws, rfl, rfl, rfl, hk, HI, O, HM, hln, hB⟩ := hrel
    by_cases hkn : k = s.size + 1
    · subst hkn
      have HE : Hid (spl l = bts ws) := Lib.hid (by have := HI.out; rw [← hsl] at this; exact this.end_)
      go_wp2
      go_returns
      exact ⟨hB, A1, m1, c1, ws, rfl, O.out, by rw [← HE.out, hL.out], HM.out⟩
    · have hfk : f ≤ k := HI.out.le (by omega)
      by_cases hlt : k = s.size
      · subst hlt
        have HI2 : Hid (SpI l (s.size + 1) (s.size + 1) (bts (ws ++ [s.extract f s.size]))) := Lib.hid (by
          rw [bts_app, HX.out]
          have := HI.out
          rw [← hsl] at this ⊢
          exact this.last)
        have HM2 := Lib.hid (mem_one HM.out (ext_size s f s.size))
        go_wp2_with ((at_builtin; refine wpl_app_str rfl _ _ rfl w.heap.size ws _ (by rfl) (O.out.later (al_ _ _)) _ _ 1 (by rfl) ((Blk.new _ _ _).cell 0) (by omega) (by have := hB.size; simp; omega) ?_; intro A3 m3 c3 w3 ho3 hg3 _; have rw3 := own_rowW O.out; replace O := Lib.hid ho3; replace hB := (hB.alloc hB.size _).grown hg3 (by have := hB.size; simp; omega) (fun b e => (by have := (rw3 b e).1; omega)); clear ho3 hg3 rw3))
        exact ⟨⟨s.size + 1, s.size + 1, _, _, _, _, by go_num, by go_num, rfl, by omega, HI2, O, HM2, by simpa using hln, hB⟩, by simp [intOf]⟩
      · have hlt2 : k < s.size := by omega
        have hkb := HAt.out k hlt2
        have e0 : ((k : Int) == (s.size : Int)) = false := by rw [beq_eq_false_iff_ne]; omega
        by_cases hc : s[k].toNat = 32
        · have e1 : ((s[k].toNat : Int) == 32) = true := by rw [hc]; rfl
          have HI2 : Hid (SpI l (k + 1) (k + 1) (bts (ws ++ [s.extract f k]))) := Lib.hid (by
            rw [bts_app, HX.out]
            refine HI.out.cut ?_
            rw [hkb]
            congr 1
            exact UInt8.toNat_inj.1 hc)
          have HM2 := Lib.hid (mem_one HM.out (ext_size s f k))
          clear hkb hc
          go_wp2_with ((at_builtin; refine wpl_app_str rfl _ _ rfl w.heap.size ws _ (by rfl) (O.out.later (al_ _ _)) _ _ 1 (by rfl) ((Blk.new _ _ _).cell 0) (by omega) (by have := hB.size; simp; omega) ?_; intro A3 m3 c3 w3 ho3 hg3 _; have rw3 := own_rowW O.out; replace O := Lib.hid ho3; replace hB := (hB.alloc hB.size _).grown hg3 (by have := hB.size; simp; omega) (fun b e => (by have := (rw3 b e).1; omega)); clear ho3 hg3 rw3))
          go_roundw
          case rel => exact ⟨k + 1, k + 1, _, _, _, _, by go_num, by go_num, rfl, by omega, HI2, O, HM2, by simp; omega, hB⟩
          case measure => simp [intOf]; omega
        · have e1 : ((s[k].toNat : Int) == 32) = false := by rw [beq_eq_false_iff_ne]; omega
          have HI2 : Hid (SpI l (k + 1) f (bts ws)) := Lib.hid (HI.out.on hkb (fun e => hc (by rw [e]; rfl)))
          clear hkb
          go_wp2
          go_roundw
          case rel => exact ⟨k + 1, f, _, _, _, _, by go_num, rfl, rfl, by omega, HI2, O, HM, by omega, hB⟩
          case measure => simp [intOf]; omega
end Go.Proofs.YtaikfclgmkfooaaGreatDoor
