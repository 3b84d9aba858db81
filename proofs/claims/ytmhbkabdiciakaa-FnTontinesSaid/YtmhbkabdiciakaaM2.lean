/-
  The helpers of a law over lists of lists of numbers: size, copy, comparison, marks.
-/
import Derived.Test.YtmhbkabdiciakaaL1
import Derived.Test.YtmhbkabdiciakaaG1
import Derived.Test.YtmhbkabdiciakaaC2
import Derived.Test.YtmhbkabdiciakaaOW
import Derived.Test.YtmhbkabdiciakaaQ
import Derived.Test.YtmhbkabdiciakaaRT
set_option linter.unusedSimpArgs false
set_option linter.unusedVariables false
namespace Go.Proofs.Ytmhbkabdiciakaa
open Go.RowKit
/-- how many numbers stand in the first k lists -/
def cntL (dd : List (List Int)) (k : Nat) : Nat := ((dd.take k).map List.length).sum
theorem cntL_0 (dd : List (List Int)) : cntL dd 0 = 0 := by unfold cntL; simp
theorem cntL_s {dd : List (List Int)} {k : Nat} {l : List Int} (h : dd[k]? = some l) : cntL dd (k + 1) = cntL dd k + l.length := by
  unfold cntL
  rw [List.take_add_one, h]
  simp
theorem cntL_le {dd : List (List Int)} {k k' : Nat} (h : k ≤ k') : cntL dd k ≤ cntL dd k' := by
  obtain ⟨j, rfl⟩ : ∃ j, k' = k + j := ⟨k' - k, by omega⟩
  clear h
  induction j with
  | zero => exact Nat.le_refl _
  | succ j ih =>
    cases h2 : dd[k + j]? with
    | none =>
      have h3 := List.getElem?_eq_none_iff.1 h2
      unfold cntL at ih ⊢
      rw [List.take_of_length_le (by omega : dd.length ≤ k + (j + 1))]
      rwa [List.take_of_length_le h3] at ih
    | some l =>
      have h3 := cntL_s h2
      rw [show k + (j + 1) = k + j + 1 by omega]
      omega
theorem cntL_mem {dd : List (List Int)} {l : List Int} (h : l ∈ dd) : l.length ≤ cntL dd dd.length := by
  obtain ⟨k, hk⟩ := List.mem_iff_getElem?.1 h
  have h1 := cntL_s hk
  have h2 := (List.getElem?_eq_some_iff.1 hk).1
  have h3 := cntL_le (dd := dd) (show k + 1 ≤ dd.length by omega)
  omega
/-- lists that follow each other in memory -/
def OwLs (w : World) (lo : Nat → Nat) (k n : Nat) (es : List (Option Addr × Nat × Nat)) (dd : List (List Int)) : Prop := ∀ j e l, k ≤ j → j < n → es[j]? = some e → dd[j]? = some l → OwI w (lo j) (.slice e.1 e.2.1 e.2.2) l ∧ (∀ q, (Value.slice e.1 e.2.1 e.2.2).ownBlock = some q → q < lo (j + 1)) ∧ lo j ≤ lo (j + 1)
/-- a list of lists of a call's own -/
def OwLL (w : World) (base : Nat) (A : Option Addr) (n : Nat) (es : List (Option Addr × Nat × Nat)) (dd : List (List Int)) (lo : Nat → Nat) : Prop := RdLL w w.heap.size A n es dd ∧ (∀ ad, A = some ad → base ≤ ad.block ∧ ad.block < lo 0) ∧ base ≤ lo 0 ∧ lo n ≤ w.heap.size ∧ OwLs w lo 0 n es dd
/-- only rows from lo on, below hi, were turned -/
def Chn (lo hi : Nat) (w w' : World) : Prop := ∀ R : World → Prop, (∀ w1 w2 row, w1.heap.size ≤ w2.heap.size → R w1 → w1.grownBy w2 row → (∀ g, row = some g → lo ≤ g ∧ g < hi) → R w2) → R w → R w'
theorem Chn.refl (lo hi : Nat) (w : World) : Chn lo hi w w := fun _ _ h => h
theorem Chn.step {lo hi : Nat} {w w1 w2 : World} {row : Option Nat} (h : Chn lo hi w w1) (hg : w1.grownBy w2 row) (hr : ∀ g, row = some g → lo ≤ g ∧ g < hi) : Chn lo hi w w2 := fun R hR h0 => hR _ _ _ hg.size (h R hR h0) hg hr
theorem Chn.size {lo hi : Nat} {w w' : World} (h : Chn lo hi w w') : w.heap.size ≤ w'.heap.size := h (fun W => w.heap.size ≤ W.heap.size) (fun _ _ _ hs h1 _ _ => Nat.le_trans h1 hs) (Nat.le_refl _)
theorem Chn.blk {lo hi g : Nat} {w w' : World} {t : TypeId} {cs : Array Value} (h : Chn lo hi w w') (hb : Blk w g t cs) (hg : g < lo ∨ hi ≤ g) : Blk w' g t cs := h (fun W => Blk W g t cs) (fun _ _ _ _ h1 hk hr => h1.grown hk (fun e => by have := hr _ e.symm; omega)) hb
theorem Chn.ow {lo hi base : Nat} {w w' : World} {v : Value} {zs : List Int} (h : Chn lo hi w w') (ho : OwI w base v zs) (hb : hi ≤ base) : OwI w' base v zs := h (fun W => OwI W base v zs) (fun _ _ _ _ h1 hk hr => h1.apart hk (fun g e => by have := hr g e; omega)) ho
theorem Chn.owc {lo hi base : Nat} {w w' : World} {vs vd : Value} {ss ds : List Int} (h : Chn lo hi w w') (ho : OwC w base vs vd ss ds) (hb : hi ≤ base) : OwC w' base vs vd ss ds := h (fun W => OwC W base vs vd ss ds) (fun _ _ _ _ h1 hk hr => h1.apart hk (fun g e => by have := hr g e; omega)) ho
theorem Chn.rd {lo hi B n : Nat} {A : Option Addr} {zs : List Int} {w w' : World} (h : Chn lo hi w w') (hr : RdI w B A n zs) (hB : B ≤ lo) (hz : B ≤ w.heap.size) : RdI w' B A n zs :=
  (h (fun W => B ≤ W.heap.size ∧ RdI W B A n zs) (fun _ _ _ hs h1 hk hr => ⟨Nat.le_trans h1.1 hs, h1.2.grown hk h1.1 (fun g e => by have := hr g e; omega)⟩) ⟨hz, hr⟩).2
theorem Chn.below {lo hi : Nat} {a w w' : World} (h : Chn lo hi w w') (hb : Below a.heap.size a w) (hB : a.heap.size ≤ lo) : Below a.heap.size a w' :=
  h (fun W => Below a.heap.size a W) (fun _ _ _ hs h1 hk hr => h1.grown hk h1.size (fun g e => by have := hr g e; omega)) hb
theorem OwLs.later {w w' : World} {lo : Nat → Nat} {k n : Nat} {es : List (Option Addr × Nat × Nat)} {dd : List (List Int)} (h : OwLs w lo k n es dd) (hb : Below w.heap.size w w') : OwLs w' lo k n es dd := fun j e l h1 h2 h3 h4 => by
  obtain ⟨h5, h6, h7⟩ := h j e l h1 h2 h3 h4
  exact ⟨h5.later hb, h6, h7⟩
theorem OwLL.later {w w' : World} {base : Nat} {A : Option Addr} {n : Nat} {es : List (Option Addr × Nat × Nat)} {dd : List (List Int)} {lo : Nat → Nat} (h : OwLL w base A n es dd lo) (hb : Below w.heap.size w w') : OwLL w' base A n es dd lo := ⟨h.1.later hb, h.2.1, h.2.2.1, Nat.le_trans h.2.2.2.1 hb.size, h.2.2.2.2.later hb⟩
theorem OwLs.mono_lo2 {w : World} {lo : Nat → Nat} {n : Nat} {es : List (Option Addr × Nat × Nat)} {dd : List (List Int)} (h : OwLs w lo 0 n es dd) (h1 : es.length = n) (h2 : n ≤ dd.length) {i j : Nat} (hij : i ≤ j) (hj : j ≤ n) : lo i ≤ lo j := by
  obtain ⟨d, rfl⟩ : ∃ d, j = i + d := ⟨j - i, by omega⟩
  clear hij
  induction d with
  | zero => exact Nat.le_refl _
  | succ d ih =>
    have h3 := ih (by omega)
    have h4 := h (i + d) _ _ (Nat.zero_le _) (by omega) (List.getElem?_eq_getElem (by omega)) (List.getElem?_eq_getElem (by omega))
    exact Nat.le_trans h3 h4.2.2
section
set_option maxHeartbeats 1000000 in
theorem szSS_any (A : Option Addr) (n c : Nat) (es : List (Option Addr × Nat × Nat)) (dd : List (List Int)) (left : Int) (w : World) (h : RdLL w w.heap.size A n es dd) (hn : n ≤ maxLen) (hl : ∀ l ∈ dd, l.length ≤ maxLen) (hL : 0 ≤ left ∧ left ≤ 1048576) :
    Calls Try.prog 28 #[.slice A n c, .int .i64 left] w fun e w' => e = .returned (.int .i64 (if (n : Int) + (cntL dd n : Nat) ≤ left then left - n - (cntL dd n : Nat) else -1)) ∧ w = w' := by
  have H := Lib.hid h
  have HL := Lib.hid hl
  have hdl := h.2.1
  have q0 := IntWalk.i64_in (left - (n : Int)) (by unfold maxLen at hn; omega)
  have HO := Lib.hid (fun A n c l W h hl => szI_ok A n c l W h hl)
  have HV := Lib.hid (fun A n c l W h hl hn => szI_over A n c l W h hl hn)
  clear h hl
  by_cases hnl : (n : Int) ≤ left
  · have HR : Hid (∀ k, k ≤ n → left - n < (cntL dd k : Nat) → (if (n : Int) + (cntL dd n : Nat) ≤ left then left - n - (cntL dd n : Nat) else -1) = -1) := Lib.hid (fun k hk h2 => by
      have h3 := cntL_le (dd := dd) hk
      rw [if_neg (by omega)])
    have HR2 : Hid ((cntL dd n : Nat) ≤ left - n → (if (n : Int) + (cntL dd n : Nat) ≤ left then left - n - (cntL dd n : Nat) else -1) = left - n - (cntL dd n : Nat)) := Lib.hid (fun h2 => by rw [if_pos (by omega)])
    generalize (if (n : Int) + (cntL dd n : Nat) ≤ left then left - n - (cntL dd n : Nat) else -1) = r at *
    go_enter Try.func28, Try.ntmps28
    go_wp2
    go_loopw [1, 5] (fun x i wr => ∃ k : Nat, k ≤ n ∧ i = .int .i64 k ∧ x = .int .i64 (left - n - (cntL dd k : Nat)) ∧ ((cntL dd k : Nat) : Int) ≤ left - n ∧ wr = w) (fun _ i _ => n - (intOf i).toNat)
    case atStart => exact ⟨0, Nat.zero_le _, rfl, by rw [cntL_0]; go_num, by rw [cntL_0]; omega, rfl⟩
    case round =>
      obtain ⟨k, hk, rfl, rfl, hle, rfl⟩ := hrel
      by_cases hlt : k < n
      · obtain ⟨ad, S, m, c2, l, rfl, hb, hz, hc, hr, _⟩ := H.out.at_ hlt
        have hml := hr.len
        have hm : m ≤ maxLen := by have h1 := HL.out l (List.mem_of_getElem? hz); omega
        have hs := cntL_s hz
        clear hz hr
        by_cases ho : (m : Int) ≤ left - n - (cntL dd k : Nat)
        · have HO2 := Lib.hid (HO.out S m c2 (left - n - (cntL dd k : Nat)) wr ho (by omega))
          have hs2 := Lib.hid hs
          have ho2 := Lib.hid ho
          have hml2 := Lib.hid hml
          have hq : ¬ left - (n : Int) - (cntL dd k : Nat) - m < 0 := by omega
          clear hs ho hml
          go_wp2_with (go_at_call 55; (with_reducible refine Calls.mono (HO2.out) ?_); rintro ee wz ⟨rfl, rfl⟩)
          go_roundw
          case rel => exact ⟨k + 1, by omega, by go_num, by rw [hs2.out, hml2.out]; congr 1; omega, by have := hs2.out; have := hml2.out; have := ho2.out; omega, by first | rfl | trivial⟩
          case measure => simp [intOf]; omega
        · have HV2 := Lib.hid (HV.out S m c2 (left - n - (cntL dd k : Nat)) wr (by omega) (by omega) hm)
          have hr1 := HR.out (k + 1) (by omega) (by omega)
          have hr2 := Lib.hid hr1
          clear hs ho hml hr1
          go_wp2_with (go_at_call 55; (with_reducible refine Calls.mono (HV2.out) ?_); rintro ee wz ⟨rfl, rfl⟩)
          go_ret
          exact ⟨by rw [hr2.out]; rfl, rfl⟩
      · obtain rfl : k = n := by omega
        have hr2 := Lib.hid (HR2.out hle)
        go_wp2
        go_ret
        exact ⟨by rw [hr2.out]; rfl, rfl⟩
  · have hr : Hid ((if (n : Int) + (cntL dd n : Nat) ≤ left then left - n - (cntL dd n : Nat) else -1) = -1) := Lib.hid (by rw [if_neg (by omega)])
    have hq : left - (n : Int) < 0 := by omega
    generalize (if (n : Int) + (cntL dd n : Nat) ≤ left then left - n - (cntL dd n : Nat) else -1) = r at *
    clear hnl
    go_enter Try.func28, Try.ntmps28
    go_wp2
    go_ret
    exact ⟨by rw [hr.out]; rfl, rfl⟩
end
set_option maxHeartbeats 1000000 in
theorem eqSS_same (A A' : Option Addr) (n c c' : Nat) (es es' : List (Option Addr × Nat × Nat)) (dd : List (List Int)) (w : World) (h : RdLL w w.heap.size A n es dd) (h' : RdLL w w.heap.size A' n es' dd) (hn : n ≤ maxLen) (hl : ∀ l ∈ dd, l.length ≤ maxLen) :
    Calls Try.prog 30 #[.slice A n c, .slice A' n c'] w fun e w' => e = .returned (.bool true) ∧ Below w.heap.size w w' := by
  have H := Lib.hid h
  have H' := Lib.hid h'
  have HL := Lib.hid hl
  clear h h' hl
  unfold maxLen at hn
  go_enter Try.func30, Try.ntmps30
  go_wp2
  go_loopw [5] (fun i wr => ∃ k : Nat, k ≤ n ∧ i = .int .i64 k ∧ Below w.heap.size w wr) (fun i _ => n - (intOf i).toNat)
  case atStart => exact ⟨0, Nat.zero_le _, rfl, Below.refl _ _⟩
  case round =>
    obtain ⟨k, hk, rfl, hB⟩ := hrel
    by_cases hlt : k < n
    · obtain ⟨ad, S, m, c2, l, rfl, hb, hz, hc, hr, _⟩ := (H.out.later hB).at_ hlt
      obtain ⟨ad', S', m', c3, l', rfl, hb', hz', hc', hr', _⟩ := (H'.out.later hB).at_ hlt
      cases hz.symm.trans hz'
      have hml := hr.len
      have hml' := hr'.len
      obtain rfl : m' = m := by omega
      have hm := HL.out l (List.mem_of_getElem? hz)
      have HQ := Lib.hid (fun (X : InC wr) => eqInts_same S S' m' c2 c3 _ _ l X.w ((hr.below X.h).more X.h.size) ((hr'.below X.h).more X.h.size) (by omega))
      have z1 := fun X : InC wr => X.cell hc
      have z2 := fun X : InC wr => X.cell hc'
      have hb2 : (ad.add k).block < wr.heap.size := by rw [block_of_add]; exact hb
      have hb3 : (ad'.add k).block < wr.heap.size := by rw [block_of_add]; exact hb'
      clear hz hz' hr hr' hml hml'
      go_wp2_with fail
      (refine wp_region_inC (by kernel_rfl) (by kernel_rfl) ?_; (repeat go_big_quiet_step ((go_at_call 24; with_reducible exact Calls.inC (HQ.out _)))); refine wpQuiet_nil ?_; rintro w7 ⟨⟨_, hb7⟩, rfl⟩)
      replace hB := bel_step hB hb7
      clear hb7 z1 z2
      go_wp2
      go_roundw
      case rel => exact ⟨k + 1, by omega, by go_num, hB⟩
      case measure => simp [intOf]; omega
    · go_wp2
      go_ret
      exact ⟨rfl, hB⟩
theorem sl_step {w w' : World} {lo : Nat → Nat} {k : Nat} {es : List (Option Addr × Nat × Nat)} {dd : List (List Int)} {A : Option Addr} {m c : Nat} {l : List Int} (h : OwLs w lo 0 k es dd) (hk : es.length = k) (hlo : lo k ≤ w.heap.size) (hl : dd[k]? = some l) (ho : OwI w' w.heap.size (.slice A m c) l) (hb : Below w.heap.size w w') :
    ∃ lo' : Nat → Nat, lo' 0 = (if k = 0 then w.heap.size else lo 0) ∧ lo' (k + 1) ≤ w'.heap.size ∧ OwLs w' lo' 0 (k + 1) (es ++ [(A, m, c)]) dd := by
  refine ⟨fun j => if j < k then lo j else if j = k then w.heap.size else w'.heap.size, ?_, ?_, ?_⟩
  · by_cases h0 : k = 0
    · simp [h0]
    · rw [if_neg h0]; show (if 0 < k then lo 0 else _) = lo 0; rw [if_pos (by omega)]
  · show (if k + 1 < k then lo (k + 1) else if k + 1 = k then w.heap.size else w'.heap.size) ≤ w'.heap.size
    rw [if_neg (by omega), if_neg (by omega)]
    exact Nat.le_refl _
  · intro j e l' h0 hj he hl'
    have hrow := own_rowI ho
    by_cases hjk : j < k
    · rw [List.getElem?_append_left (by omega)] at he
      obtain ⟨h1, h2, h3⟩ := h j e l' h0 hjk he hl'
      show OwI w' (if j < k then lo j else _) _ _ ∧ (∀ q, _ → q < (if j + 1 < k then lo (j + 1) else if j + 1 = k then w.heap.size else w'.heap.size)) ∧ (if j < k then lo j else _) ≤ (if j + 1 < k then lo (j + 1) else if j + 1 = k then w.heap.size else w'.heap.size)
      rw [if_pos hjk]
      by_cases hj2 : j + 1 < k
      · rw [if_pos hj2]
        exact ⟨h1.later hb, h2, h3⟩
      · obtain rfl : j + 1 = k := by omega
        rw [if_neg hj2, if_pos rfl]
        exact ⟨h1.later hb, fun q e => Nat.lt_of_lt_of_le (h2 q e) hlo, Nat.le_trans h3 hlo⟩
    · obtain rfl : j = k := by omega
      rw [List.getElem?_append_right (by omega), hk, Nat.sub_self] at he
      cases he
      cases hl.symm.trans hl'
      show OwI w' (if j < j then lo j else if j = j then w.heap.size else _) _ _ ∧ (∀ q, _ → q < (if j + 1 < j then lo (j + 1) else if j + 1 = j then w.heap.size else w'.heap.size)) ∧ (if j < j then lo j else if j = j then w.heap.size else _) ≤ (if j + 1 < j then lo (j + 1) else if j + 1 = j then w.heap.size else w'.heap.size)
      rw [if_neg (by omega), if_pos rfl, if_neg (by omega), if_neg (by omega)]
      exact ⟨ho, fun q e => (hrow q e).2, hb.size⟩
theorem enSl_take {cs : Array Value} {es : List (Option Addr × Nat × Nat)} {k : Nat} {e : Option Addr × Nat × Nat} (h : cs.toList.take k = es.flatMap enSl) (hk : k + 1 ≤ cs.size) : (cs.setIfInBounds k (.slice e.1 e.2.1 e.2.2)).toList.take (k + 1) = (es ++ [e]).flatMap enSl := by
  rw [take_set1 _ _ _ hk, h, List.flatMap_append]
  simp [enSl]
theorem enSl_map (es : List (Option Addr × Nat × Nat)) : es.flatMap enSl = es.map (fun e => Value.slice e.1 e.2.1 e.2.2) := by
  induction es with
  | nil => rfl
  | cons a t ih => rw [List.flatMap_cons, ih]; rfl
theorem rdS_blk {w : World} {g n B : Nat} {t : TypeId} {cs : Array Value} {es : List (Option Addr × Nat × Nat)} (h : Blk w g t cs) (hc : cs.toList = es.flatMap enSl) (hn : es.length = n) (hg : g < B) : RdS enSl 1 w B (some ⟨g, 0, none⟩) n es := by
  refine ⟨hn, fun _ => ⟨_, rfl, hg, fun i e he j v hv => ?_⟩⟩
  have hj : j = 0 := by
    rcases j with _ | j
    · rfl
    · unfold enSl at hv; simp at hv
  subst hj
  have hv2 : v = .slice e.1 e.2.1 e.2.2 := by unfold enSl at hv; simpa using hv.symm
  subst hv2
  have h1 : (⟨g, 0, none⟩ : Addr).add (i * 1 + 0) = ⟨g, i, none⟩ := by
    unfold Addr.add
    by_cases h0 : i = 0
    · subst h0; rfl
    · simp [h0]
  rw [h1, h.cell, ← Array.getElem?_toList, hc, enSl_map, List.getElem?_map, he]
  rfl
set_option maxHeartbeats 1000000 in
theorem toSS_any (A : Option Addr) (n c B : Nat) (es : List (Option Addr × Nat × Nat)) (dd : List (List Int)) (w : World) (h : RdLL w B A n es dd) (hB : B ≤ w.heap.size) (hn : n ≤ 1048576) (hl : ∀ l ∈ dd, l.length ≤ 1048576) :
    Calls Try.prog 29 #[.slice A n c] w fun e w' => ∃ A' es' lo, e = .returned (.slice A' n n) ∧ A' ≠ none ∧ OwLL w' w.heap.size A' n es' dd lo ∧ Below w.heap.size w w' := by
  have H := Lib.hid h
  have HLL := Lib.hid hl
  have hdl := Lib.hid h.2.1
  have HN : (Try.prog.info? 24).map (fun i => (i.zero, i.size, i.bytes)) = some (some (.slice none 0 0), 1, 24) := by kernel_rfl
  obtain ⟨i0, hi, hz0, hz1, hz2⟩ := info_parts HN
  have hmk := fun W => run_make_rowN (P := Try.prog) 27 24 i0 _ Try.underlying27 hi hz0 .i64 .i64 n n (Nat.le_refl _) (by rw [hz2]; omega) (by omega) W
  rw [hz1] at hmk
  have hms : (madeCells (Value.slice none 0 0).cells (n * 1)).size = n * 1 := size_madeCells _ _
  generalize madeCells (Value.slice none 0 0).cells (n * 1) = cs0 at *
  rw [Nat.mul_one] at hms
  have HS0 := Lib.hid hms
  clear h HN hi hz0 hz1 hz2 hms hl
  go_enter Try.func29, Try.ntmps29
  go_wp2
  clear hmk
  go_loopw [4] (fun i wr => ∃ k : Nat, k ≤ n ∧ i = .int .i64 k ∧ Below w.heap.size w wr ∧ ∃ (cs : Array Value) (es' : List (Option Addr × Nat × Nat)) (lo : Nat → Nat), Hid (cs.size = n) ∧ Hid (Blk wr w.heap.size 24 cs) ∧ Hid (cs.toList.take k = es'.flatMap enSl) ∧ Hid (es'.length = k) ∧ Hid (w.heap.size < lo 0 ∧ lo k ≤ wr.heap.size ∧ OwLs wr lo 0 k es' dd)) (fun i _ => n - (intOf i).toNat)
  case atStart => exact ⟨0, Nat.zero_le _, rfl, by go_grown, cs0, [], fun _ => w.heap.size + 1, HS0, Lib.hid (Blk.new _ _ _), Lib.hid (by simp), Lib.hid rfl, Lib.hid ⟨Nat.lt_succ_self _, by simp, fun j e l _ hj => by omega⟩⟩
  case round =>
    obtain ⟨k, hk, rfl, hR, cs, es', lo, hcs, HB, HL, hel, HO⟩ := hrel
    by_cases hlt : k < n
    · obtain ⟨ad, S, m, c2, l, rfl, hb, hz, hc, hr, _⟩ := ((H.out.more hB).below hR).at_ hlt
      have hml := hr.len
      have hm := HLL.out l (List.mem_of_getElem? hz)
      have HT := Lib.hid (toInts_own S m c2 _ l wr (hr.more hR.size) (Nat.le_refl _) (by omega))
      have HZ := Lib.hid hz
      have hlw := HB.out.lt
      clear hz hr hml hm
      go_wp2_with (go_at_call 21; (with_reducible refine Calls.mono HT.out ?_); rintro ee w5 ⟨A5, c5, rfl, hn5, hm5, ho, hb5⟩; have HO5 := Lib.hid ho; clear ho; have HB5 := Lib.hid (blk_later HB.out hb5); have hR5 := bel_step hR hb5; have hlw5 := HB5.out.lt; have g3 := HB5.out.frozen k; obtain ⟨v1, g1⟩ : ∃ v, w5.cell? ⟨w.heap.size, k, none⟩ = some v := ⟨_, (HB5.out.cell _).trans (Array.getElem?_eq_getElem (by have := hcs.out; omega))⟩)
      go_roundw
      case rel =>
        obtain ⟨h1, h2, h3⟩ := HO.out
        obtain ⟨lo', h4, h5, h6⟩ := sl_step h3 hel.out h2 HZ.out HO5.out hb5
        refine ⟨k + 1, by omega, by go_num, hR5.setCell (Nat.le_refl _) _, _, es' ++ [(A5, m, c5)], lo', ?_, HB5.out.set_ k _, ?_, ?_, ?_⟩
        · exact Lib.hid (by have := hcs.out; simpa using this)
        · exact Lib.hid (enSl_take (e := (A5, m, c5)) HL.out (by have := hcs.out; omega))
        · exact Lib.hid (by have := hel.out; simp [this])
        · have h7 : w.heap.size < lo' 0 := by rw [h4]; split <;> omega
          refine Lib.hid ⟨h7, by simpa [World.setCell] using h5, fun j e l' h0 hj he hl' => ?_⟩
          obtain ⟨h8, h9, h10⟩ := h6 j e l' h0 hj he hl'
          have h11 : lo' 0 ≤ lo' j := OwLs.mono_lo2 h6 (by have := hel.out; simp [this]) (by have := hdl.out; omega) (Nat.zero_le j) (by omega)
          exact ⟨h8.store (by show w.heap.size < _; omega) _, h9, h10⟩
      case measure => simp [intOf]; omega
    · obtain rfl : k = n := by omega
      have hF : Hid (cs.toList = es'.flatMap enSl) := Lib.hid (by
        have h1 := HL.out
        rw [List.take_of_length_le (by rw [Array.length_toList, hcs.out]; exact Nat.le_refl _)] at h1
        exact h1)
      have hlw := HB.out.lt
      go_wp2
      go_ret
      obtain ⟨h1, h2, h3⟩ := HO.out
      refine ⟨_, es', lo, rfl, by simp, ⟨⟨rdS_blk HB.out hF.out hel.out hlw, hdl.out, fun i e l he hl => ?_⟩, ?_, by omega, h2, h3⟩, hR⟩
      · have hi : i < k := by have := (List.getElem?_eq_some_iff.1 he).1; have := hel.out; omega
        obtain ⟨h4, _, _⟩ := h3 i e l (Nat.zero_le _) hi he hl
        exact ⟨h4.rd.1 ▸ h4.rd.2, h4.none_cap⟩
      · intro ad e
        cases e
        exact ⟨Nat.le_refl _, h1⟩
set_option maxHeartbeats 1000000 in
theorem markSS_any (A : Option Addr) (n c base : Nat) (es : List (Option Addr × Nat × Nat)) (dd : List (List Int)) (lo : Nat → Nat) (z : Int) (w : World) (h : OwLL w base A n es dd lo) (hn : n ≤ 1048576) (hz : 0 ≤ z ∧ z + (cntL dd n : Nat) ≤ 1000000000) :
    Calls Try.prog 31 #[.slice A n c, .int .i64 z] w fun e w' => e = .returned (.int .i64 (z + (cntL dd n : Nat))) ∧ Chn (lo 0) (lo n) w w' := by
  obtain ⟨⟨hr, hdl, hin⟩, h1, h2, h3, h4⟩ := h
  have hM : Hid (∀ i j, i ≤ j → j ≤ n → lo i ≤ lo j) := Lib.hid (fun i j hij hj => OwLs.mono_lo2 h4 hr.1 (by omega) hij hj)
  have HS : Hid (RdS enSl 1 w (lo 0) A n es) := Lib.hid ⟨hr.1, fun hn => by
    obtain ⟨ad, h5, h6, h7⟩ := hr.2 hn
    exact ⟨ad, h5, (h1 ad h5).2, h7⟩⟩
  have hle := Lib.hid hr.1
  have hsz : lo 0 ≤ w.heap.size := Nat.le_trans (hM.out 0 n (Nat.zero_le _) (Nat.le_refl _)) h3
  replace hdl := Lib.hid hdl
  have H4 := Lib.hid h4
  clear hr hin h1 h2 h4
  go_enter Try.func31, Try.ntmps31
  go_wp2
  go_loopw [1, 5] (fun x i wr => ∃ k : Nat, k ≤ n ∧ i = .int .i64 k ∧ x = .int .i64 (z + (cntL dd k : Nat)) ∧ Hid (Chn (lo 0) (lo n) w wr) ∧ Hid (OwLs wr lo k n es dd)) (fun _ i _ => n - (intOf i).toNat)
  case atStart => exact ⟨0, Nat.zero_le _, rfl, by rw [cntL_0]; go_num, Lib.hid (Chn.refl _ _ _), H4⟩
  case round =>
    obtain ⟨k, hk, rfl, rfl, HC, HO⟩ := hrel
    by_cases hlt : k < n
    · have HS2 : RdS enSl 1 wr (lo 0) A n es := (HC.out (fun W => lo 0 ≤ W.heap.size ∧ RdS enSl 1 W (lo 0) A n es) (fun _ _ _ hs h1 hk hr => ⟨Nat.le_trans h1.1 hs, h1.2.grown hk h1.1 (fun g e => (hr g e).1)⟩) ⟨hsz, HS.out⟩).2
      obtain ⟨ad, e, rfl, hb, he, hc⟩ := HS2.at_ hlt
      have hz1 : dd[k]? = some (dd[k]'(by have := hdl.out; omega)) := List.getElem?_eq_getElem _
      generalize dd[k]'(by have := hdl.out; omega) = l at hz1
      have hc2 := hc 0 _ rfl
      rw [Nat.mul_one, Nat.add_zero] at hc2
      obtain ⟨ho, hrow, hll⟩ := HO.out k e l (Nat.le_refl _) hlt he hz1
      have hel := ho.rd.1
      have hs := cntL_s hz1
      have hs3 := cntL_le (dd := dd) (show k + 1 ≤ n by omega)
      have HMk := Lib.hid (mark_at _ e.1 e.2.1 e.2.2 l (z + (cntL dd k : Nat)) wr ho (by omega) (by omega))
      have hs2 : Hid (cntL dd (k + 1) = cntL dd k + e.2.1) := Lib.hid (by omega)
      have hrB := Lib.hid (own_rowI ho)
      have hrw := Lib.hid hrow
      have hle3 : z + (cntL dd k : Nat) + (e.2.1 : Int) ≤ 1000000000 := by omega
      obtain ⟨e1, e2, e3⟩ := e
      dsimp only at HMk hs2 hrB hrw hc2 hle3
      clear hs hs3 hz1 ho hrow hel he hc HS2
      go_wp2_with (go_at_call 26; (with_reducible refine Calls.mono HMk.out ?_); rintro ee w5 ⟨rfl, -, hg⟩; have HG := Lib.hid hg; clear hg)
      go_roundw
      case rel =>
        refine ⟨k + 1, by omega, by go_num, by rw [hs2.out]; congr 1; omega, ?_, ?_⟩
        · have h5 := hM.out 0 k (Nat.zero_le _) hk
          have h6 := hM.out (k + 1) n (by omega) (Nat.le_refl _)
          exact Lib.hid (HC.out.step HG.out (fun g e => by have h7 := hrB.out g e; have h8 := hrw.out g e; omega))
        · refine Lib.hid (fun j e l' h0 hj he hl' => ?_)
          obtain ⟨h8, h9, h10⟩ := HO.out j e l' (by omega) hj he hl'
          have h11 := hM.out (k + 1) j h0 (by omega)
          exact ⟨h8.apart HG.out (fun g e => by have := hrw.out g e; omega), h9, h10⟩
      case measure => simp [intOf]; omega
    · obtain rfl : k = n := by omega
      go_wp2
      go_ret
      exact ⟨rfl, HC.out⟩
end Go.Proofs.Ytmhbkabdiciakaa
