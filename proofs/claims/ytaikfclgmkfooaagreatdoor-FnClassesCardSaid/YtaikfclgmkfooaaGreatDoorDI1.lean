/-
  The library's functions that ReadClass and ClassText reach, in this seat's words: Split, ParseInt, FormatInt, Join.
-/
import Derived.Test.YtaikfclgmkfooaaGreatDoorLD
import Derived.Test.YtaikfclgmkfooaaGreatDoorDW5
import Derived.Lib.SmallJoins
import Derived.Lib.AppendIntMem
import Derived.Lib.ItoaLen
import Derived.Lib.SplitLaws
set_option linter.unusedSimpArgs false
set_option linter.unusedVariables false
namespace Go.Proofs.YtaikfclgmkfooaaGreatDoor
open Go Go.RowKit
/-- what the library's own variables hold -/
structure Lb (w : World) : Prop where
  ml : ∃ m, w.cell? ⟨2, 0, none⟩ = some (.int .i64 m)
  sy : ∃ t p, w.cell? ⟨0, 0, none⟩ = some (.iface t p)
  rg : ∃ t p, w.cell? ⟨1, 0, none⟩ = some (.iface t p)
  tb : Lib.TabIs Tryz.prog w "internal/strconv.uint64pow10" .u64 Lib.pow10Tab
theorem gPow : Tryz.prog.globalNamed "internal/strconv.uint64pow10" = some 5 := by kernel_rfl
theorem Lb.later {w w' : World} (h : Lb w) (hb : Below w.heap.size w w') : Lb w' := by
  obtain ⟨⟨m, h1⟩, ⟨t, p, h2⟩, ⟨t', p', h3⟩, h4⟩ := h
  exact ⟨⟨m, keepC hb h1⟩, ⟨t, p, keepC hb h2⟩, ⟨t', p', keepC hb h3⟩, Joins.tab_stays gPow h4 hb (Nat.le_refl _)⟩
theorem spl_le : ∀ (l : List UInt8), ∀ x ∈ spl l, x.length ≤ l.length
  | [], x, h => by simp [spl] at h; subst h; simp
  | c :: r, x, h => by
    have ih := spl_le r
    unfold spl at h
    split at h
    · rcases List.mem_cons.1 h with h1 | h1
      · subst h1; simp
      · have := ih x h1; simp; omega
    · split at h
      · simp at h; subst h; simp
      · next h0 t e =>
        rcases List.mem_cons.1 h with h1 | h1
        · subst h1
          have := ih h0 (by rw [e]; simp)
          simp
          omega
        · have := ih x (by rw [e]; simp [h1])
          simp
          omega
theorem bts_le {s : ByteArray} {ws : List ByteArray} (h : bts ws = spl s.data.toList) : ∀ x ∈ ws, x.size ≤ s.size := by
  intro x hx
  have h1 := spl_le s.data.toList x.data.toList (by rw [← h]; exact List.mem_map.2 ⟨x, hx, rfl⟩)
  rwa [size_list, size_list] at h1
theorem fSplit_any (s : ByteArray) (w : World) (hs : s.size ≤ 1048576) (hL : Lb w) : Calls Tryz.prog 28 #[.string s, .string ⟨#[32]⟩] w fun e w' => SpP s w w' e := by
  obtain ⟨m, hm⟩ := hL.ml
  have h1 := Any.strings_Split Tryz.lays146 Tryz.laysM146.i9 s ⟨#[32]⟩ m w (by omega) hm (by decide)
  refine Calls.mono h1 ?_
  rintro e w' ⟨rfl, rfl⟩
  have hlen := Lib.splitB_all ⟨#[32]⟩ (by decide) 0 _ s rfl
  have hd : bts (Lib.splitB ⟨#[32]⟩ 0 (Lib.countB s ⟨#[32]⟩) s) = spl s.data.toList := by
    have h2 := Lib.splitB_data ⟨#[32]⟩ 0 (Lib.countB s ⟨#[32]⟩) s
    rw [← split_spl]
    exact h2
  generalize Lib.splitB ⟨#[32]⟩ 0 (Lib.countB s ⟨#[32]⟩) s = ws at *
  rw [← hlen]
  have hwl : ws.length ≤ 2000000 := by have h3 := congrArg List.length hd; rw [bts_len] at h3; have h4 := spl_len s.data.toList; rw [size_list] at h4; omega
  refine ⟨al_ _ _, _, _, _, ws, rfl, ?_, hd, bts_le hd⟩
  have h5 := World.ownsRow_lit (base := w.heap.size) (e := 9) (size := 1) w (ws.map Value.string).toArray ws.length (Nat.le_refl _) (by unfold maxLen; omega) (by simp)
  have h6 : OwW (w.alloc (.cells (ws.map Value.string).toArray 9)) w.heap.size (.slice (some ⟨w.heap.size, 0, none⟩) ws.length ws.length) ws := by simpa [OwW] using h5
  exact h6
/-- a number or an error, as ParseInt gives it -/
def PaP (r : Option Int) (w w' : World) (e : Ending) : Prop := Below w.heap.size w w' ∧ ∃ z er, e = .returned (.tuple #[.int .i64 z, er]) ∧ ((er = .nilIface ∧ r = some z) ∨ (r = none ∧ ∃ t p, er = .iface t (.pointer (some p))))
theorem parse_any (s : ByteArray) (w : World) (hs : s.size ≤ 1048576) (hL : Lb w) : Calls Tryz.prog 29 #[.string s, .int .i64 10, .int .i64 64] w fun e w' => PaP (prs s.data.toList) w w' e := by
  obtain ⟨t, p, hy⟩ := hL.sy
  obtain ⟨t', p', hr⟩ := hL.rg
  rcases hx : Lib.parseIntB 64 s.data.toList with v | _ | _
  · refine Calls.mono (Any.strconv_ParseInt_10_at64_ok Tryz.laysC174 s (by omega) v hx w) ?_
    rintro e w' ⟨rfl, hw⟩
    refine ⟨?_, v, _, rfl, .inl ⟨rfl, by unfold prs; rw [hx]⟩⟩
    rcases hw with rfl | ⟨u, rfl⟩
    · exact Below.refl _ _
    · exact Lib.bytesWorld_below w _ u
  · refine Calls.mono (Any.strconv_ParseInt_10_at64_syntax Tryz.laysC174 s (by omega) hx _ w hy (.inr ⟨_, _, rfl⟩)) ?_
    rintro e w' ⟨N, rfl, _, _, hb⟩
    exact ⟨hb, _, _, rfl, .inr ⟨by unfold prs; rw [hx], _, _, rfl⟩⟩
  · refine Calls.mono (Any.strconv_ParseInt_10_at64_range Tryz.laysC174 s (by omega) hx _ w hr (.inr ⟨_, _, rfl⟩)) ?_
    rintro e w' ⟨N, rfl, _, _, hb⟩
    exact ⟨hb, _, _, rfl, .inr ⟨by unfold prs; rw [hx], _, _, rfl⟩⟩
/-- a number's decimal text -/
def dcB (z : Int) : ByteArray := ⟨(Lib.itoa z).toArray⟩
def I64' (z : Int) : Prop := -9223372036854775808 ≤ z ∧ z ≤ 9223372036854775807
theorem format_any (z : Int) (w : World) (hz : I64' z) (hL : Lb w) : Calls Tryz.prog 74 #[.int .i64 z, .int .i64 10] w fun e w' => e = .returned (.string (dcB z)) ∧ Below w.heap.size w w' := by
  refine Calls.mono (Any.strconv_FormatInt_10 Tryz.laysM173 z hz.1 hz.2 w hL.tb) ?_
  rintro e w' ⟨rfl, k, os, rfl⟩
  exact ⟨rfl, Lib.below_grow _ w (Nat.le_refl _) k os⟩
set_option maxHeartbeats 400000 in
theorem decimal_any (z : Int) (w : World) (hz : I64' z) (hL : Lb w) : Calls Tryz.prog 57 #[.int .i64 z] w fun e w' => e = .returned (.string (dcB z)) ∧ Below w.heap.size w w' := by
  have H := Lib.hid (format_any z w hz hL)
  clear hL
  go_enter Tryz.func57, Tryz.ntmps57
  go_wp2_with (go_at_call 74; (with_reducible refine Calls.mono H.out ?_); rintro ee w1 ⟨rfl, hb⟩)
  go_returns
  exact ⟨rfl, hb⟩
theorem bts_dc (zs : List Int) : bts (zs.map dcB) = zs.map Lib.itoa := by
  unfold bts
  rw [List.map_map]
  rfl
theorem lens_le {zs : List Int} (hz : ∀ z ∈ zs, I64' z) : Lib.lens (zs.map Lib.itoa) ≤ 21 * zs.length := by
  induction zs with
  | nil => simp [Lib.lens]
  | cons z r ih =>
    have h1 := Lib.itoa_length_le z (hz z (by simp)).1 (hz z (by simp)).2
    have h2 := ih (fun y hy => hz y (by simp [hy]))
    simp only [List.map_cons, List.length_cons]
    unfold Lib.lens at h2 ⊢
    simp only [List.map_cons, List.sum_cons]
    omega
theorem join_le {zs : List Int} (hz : ∀ z ∈ zs, I64' z) : (Lib.join (zs.map Lib.itoa) [32]).length ≤ 22 * zs.length := by
  cases zs with
  | nil => simp [Lib.join]
  | cons z r =>
    have h1 := lens_le hz
    have h2 := Lib.join_length (Lib.itoa z) (r.map Lib.itoa) [32]
    simp only [List.map_cons, List.length_cons, List.length_map, List.length_nil] at h1 h2 ⊢
    omega
theorem join_any (base : Nat) (A : Option Addr) (n c : Nat) (zs : List Int) (w : World) (h : OwW w base (.slice A n c) (zs.map dcB)) (hz : ∀ z ∈ zs, I64' z) (hn : zs.length ≤ 2000000) : Calls Tryz.prog 58 #[.slice A n c, .string ⟨#[32]⟩] w fun e w' => e = .returned (.string ⟨(Lib.join (zs.map Lib.itoa) [32]).toArray⟩) ∧ Below w.heap.size w w' := by
  have hr := h.rd
  rcases h.form with ⟨h1, h2⟩ | ⟨g, cap, h1, _, hg, hc, hm⟩
  · injection h1 with e1 e2 e3
    subst e1 e2 e3
    obtain rfl : zs = [] := by simpa using h2
    refine Calls.mono (Any.strings_Join_none Tryz.lays156 Tryz.Builder_Extra_156 none 0 ⟨#[32]⟩ w) ?_
    rintro e w' ⟨rfl, rfl⟩
    exact ⟨rfl, Below.refl _ _⟩
  · injection h1 with e1 e2 e3
    subst e1 e2 e3
    have hl := join_le hz
    have hb := bts_dc zs
    unfold bts at hb
    rw [List.length_map] at hc
    have h3 := Any.strings_Join Tryz.lays156 Tryz.Builder_Extra_156 g 0 c (zs.map dcB) ⟨#[32]⟩ w (fun j x hj => by
      have hjl : j < (zs.map dcB).length := (List.getElem?_eq_some_iff.1 hj).1
      obtain ⟨ad, z, e1, _, e2, e3⟩ := RdW.atW hr.2 hjl
      cases e1
      rw [hj] at e2
      cases e2
      rw [Nat.zero_add]
      by_cases h0 : j = 0
      · subst h0; simpa [Addr.add] using e3
      · simpa [Addr.add, h0] using e3) hg (by rw [List.length_map]; omega) (by rw [List.length_map]; exact hc) (by rw [hb]; show (Lib.join _ [32]).length ≤ _; omega)
    refine Calls.mono h3 ?_
    rintro e w' ⟨he, hb2⟩
    rw [hb] at he
    exact ⟨he, hb2⟩
end Go.Proofs.YtaikfclgmkfooaaGreatDoor
