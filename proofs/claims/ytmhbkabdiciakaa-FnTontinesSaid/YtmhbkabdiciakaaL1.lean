/-
  Lists of lists of numbers, and the plain words for running a class.
-/
import Derived.Test.YtmhbkabdiciakaaI1
import Derived.Test.YtmhbkabdiciakaaJ1
import Derived.Test.YtmhbkabdiciakaaB
set_option linter.unusedSimpArgs false
set_option linter.unusedVariables false
namespace Go.Proofs.Ytmhbkabdiciakaa
open Go.RowKit
/-- a slice by value -/
def enSl (e : Option Addr × Nat × Nat) : List Value := [.slice e.1 e.2.1 e.2.2]
/-- a slice of slices reads as a list of lists -/
def RdLL (w : World) (B : Nat) (A : Option Addr) (n : Nat) (es : List (Option Addr × Nat × Nat)) (dd : List (List Int)) : Prop := RdS enSl 1 w B A n es ∧ dd.length = n ∧ ∀ (i : Nat) e l, es[i]? = some e → dd[i]? = some l → RdI w B e.1 e.2.1 l ∧ (e.1 = none → e.2.2 = 0)
section
variable {w w' : World} {B B' : Nat} {A : Option Addr} {n : Nat} {es : List (Option Addr × Nat × Nat)} {dd : List (List Int)}
theorem RdLL.below (h : RdLL w B A n es dd) (hb : Below B w w') : RdLL w' B A n es dd := ⟨h.1.below hb, h.2.1, fun i e l h1 h2 => ⟨((h.2.2 i e l h1 h2).1).below hb, (h.2.2 i e l h1 h2).2⟩⟩
theorem RdLL.more (h : RdLL w B A n es dd) (hB : B ≤ B') : RdLL w B' A n es dd := ⟨h.1.more hB, h.2.1, fun i e l h1 h2 => ⟨((h.2.2 i e l h1 h2).1).more hB, (h.2.2 i e l h1 h2).2⟩⟩
theorem RdLL.later (h : RdLL w w.heap.size A n es dd) (hb : Below w.heap.size w w') : RdLL w' w'.heap.size A n es dd := (h.below hb).more hb.size
theorem RdLL.at_ {k : Nat} (h : RdLL w B A n es dd) (hk : k < n) : ∃ ad S m c l, A = some ad ∧ ad.block < B ∧ dd[k]? = some l ∧ w.cell? (ad.add k) = some (.slice S m c) ∧ RdI w B S m l ∧ (S = none → c = 0) := by
  obtain ⟨ad, e, h1, h2, h3, h4⟩ := h.1.at_ hk
  have hl : dd[k]? = some (dd[k]'(by rw [h.2.1]; exact hk)) := List.getElem?_eq_getElem _
  have h5 := h.2.2 k e _ h3 hl
  exact ⟨ad, e.1, e.2.1, e.2.2, _, h1, h2, hl, by simpa using h4 0 _ rfl, h5.1, h5.2⟩
end
theorem egRun1 : ∀ args w, (callFunc 40 args).run Try.prog w = .ok (.enter 40 args) w := fun _ _ => by kernel_rfl
set_option maxHeartbeats 400000 in
theorem run1_any (A : Option Addr) (n c : Nat) (w : World) (hn : n ≤ 3000000) : Calls Try.prog 40 #[.slice A n c] w fun e w' => e = .returned (.bool (decide ((120 : Int) < (n : Int)))) ∧ w = w' := by
  go_enter Try.func40, Try.ntmps40
  go_wp2
  go_ret
  exact ⟨rfl, rfl⟩
/-- a list of more than 120 -/
def longB (l : List Int) : Bool := decide ((120 : Int) < (l.length : Int))
set_option maxHeartbeats 800000 in
theorem indexSS_any (A : Option Addr) (n cap : Nat) (es : List (Option Addr × Nat × Nat)) (dd : List (List Int)) (w : World) (h : RdLL w w.heap.size A n es dd) (hn : n ≤ 3000000) (hl : ∀ l ∈ dd, l.length ≤ 3000000) :
    Calls Try.prog 58 #[.slice A n cap, .func (.func 40) #[] #[]] w fun e w' => e = .returned (.int .i64 (firstI longB dd)) ∧ w = w' := by
  have hlen := Lib.hid h.2.1
  have H := Lib.hid h
  have HLL := Lib.hid hl
  have HC := Lib.hid (fun A n c W hn => run1_any A n c W hn)
  have eg := egRun1
  clear h hl
  go_enter Try.func58, Try.ntmps58
  go_wp2
  go_loop [5, 8] (fun x i => ∃ k : Nat, k ≤ n ∧ i = .int .i64 k ∧ Hid (∀ j, j < k → ∀ y, dd[j]? = some y → longB y = false)) (fun _ i => n - (intOf i).toNat)
  case atStart => exact ⟨0, Nat.zero_le _, rfl, fun j hj => by omega⟩
  case round =>
    obtain ⟨k, hk, rfl, HB⟩ := hrel
    by_cases hlt : k < n
    · obtain ⟨ad, S, m, c, l, rfl, hb, hz, hc, hr, _⟩ := H.out.at_ hlt
      have hm : m ≤ 3000000 := by have h1 := hr.len; have h2 := HLL.out l (List.mem_of_getElem? hz); omega
      have hml := hr.len
      have HC2 := fun W => HC.out S m c W hm
      have HZ := Lib.hid hz
      rw [show decide ((120 : Int) < (m : Int)) = longB l by unfold longB; rw [hml]] at HC2
      clear hz hr
      cases hq : longB l with
      | true =>
        rw [hq] at HC2
        have HQ := Lib.hid hq
        have HC3 := Lib.hid HC2
        clear hq HC2
        go_wp2_with (go_at_fn 40; refine (HC3.out _).mono ?_; rintro e w' ⟨rfl, rfl⟩)
        go_ret
        exact ⟨by rw [firstI_some HB.out HZ.out HQ.out]; rfl, rfl⟩
      | false =>
        rw [hq] at HC2
        have HQ := Lib.hid hq
        have HC3 := Lib.hid HC2
        clear hq HC2
        go_wp2_with (go_at_fn 40; refine (HC3.out _).mono ?_; rintro e w' ⟨rfl, rfl⟩)
        go_round
        case rel => exact ⟨k + 1, by omega, by go_num, step_lt HB.out HZ.out HQ.out⟩
        case measure => simp [intOf]; omega
    · go_wp2
      go_ret
      exact ⟨by rw [firstI_none (fun j hj => HB.out j (by have := hlen.out; omega))]; rfl, rfl⟩
set_option maxHeartbeats 400000 in
theorem containsSS_any (A : Option Addr) (n cap : Nat) (es : List (Option Addr × Nat × Nat)) (dd : List (List Int)) (w : World) (h : RdLL w w.heap.size A n es dd) (hn : n ≤ 3000000) (hl : ∀ l ∈ dd, l.length ≤ 3000000) :
    Calls Try.prog 39 #[.slice A n cap, .func (.func 40) #[] #[]] w fun e w' => e = .returned (.bool (dd.any longB)) ∧ w = w' := by
  have H := Lib.hid (indexSS_any A n cap es dd w h hn hl)
  have HF := Lib.hid (firstI_ge longB dd)
  clear h hl
  go_enter Try.func39, Try.ntmps39
  go_wp2_with (go_at_call 58; refine H.out.mono ?_; rintro e w' ⟨rfl, rfl⟩)
  go_ret
  exact ⟨by rw [← HF.out]; rfl, rfl⟩
set_option maxHeartbeats 400000 in
theorem isIncome_any (n : Int) (w : World) : Calls Try.prog 41 #[.int .i64 n] w fun ee w' => ee = .returned (.bool (inR 0 100000000 n)) ∧ w = w' := by
  go_enter Try.func41, Try.ntmps41
  go_wp2_with (go_at_call 54; (with_reducible refine (inRange_any _ _ _ _).mono ?_); rintro ee w1 ⟨rfl, rfl⟩)
  go_ret
  exact ⟨rfl, rfl⟩
/-- a list of deaths that may be -/
def dthB (n : Nat) (l : List Int) : Bool := l.all (inR 0 ((n : Int) - 1)) && decide ((l.length : Int) ≤ 120)
/-- what may be run -/
def runOK (n : Nat) (is : List Int) (dd : List (List Int)) : Bool := is.all (inR 0 100000000) && decide ((is.length : Int) ≤ 100) && decide (is.length = dd.length) && dd.all (dthB n)
/-- two lists, added -/
def addL (n : Nat) (xs ys : List Int) : List Int := (List.range n).map (fun i => gz xs i + gz ys i)
theorem addL_len (n : Nat) (xs ys : List Int) : (addL n xs ys).length = n := by unfold addL; simp
theorem gz_addL {n : Nat} {xs ys : List Int} {i : Nat} (h : i < n) : gz (addL n xs ys) i = gz xs i + gz ys i := by
  refine gz_at ?_
  unfold addL
  rw [List.getElem?_map, List.getElem?_range h]
  rfl
theorem gz_paL {ss ds : List Int} {t : Int} {i : Nat} (h : i < ss.length) : gz (paL ss ds t) i = paV ss ds t i := by
  refine gz_at ?_
  unfold paL
  rw [List.getElem?_map, List.getElem?_range h]
  rfl
/-- running: code, the dead, the chest, what all got -/
def runV (ss : List Int) : List Int → Int → List Int → List (Int × List Int) → Int × List Int × Int × List Int
  | ds, ch, got, [] => (0, ds, ch, got)
  | ds, ch, got, (inc, ms) :: r =>
    if bR ds ms = 0 then
      (if paC ss (srt (ds ++ ms)) (ch + inc) ≤ 1000000000000 then runV ss (srt (ds ++ ms)) (paC ss (srt (ds ++ ms)) (ch + inc)) (addL ss.length got (paL ss (srt (ds ++ ms)) (ch + inc))) r else (3, [], 0, []))
    else (5, [], 0, [])
/-- the code of RunClass -/
def runC (ss ds : List Int) (ch : Int) (is : List Int) (dd : List (List Int)) : Int := if okC ss ds ch = true then (if runOK ss.length is dd = true then (runV ss ds ch (List.replicate ss.length 0) (is.zip dd)).1 else 2) else 1
theorem runV_bury {ss ds : List Int} {ch inc : Int} {got ms : List Int} {r : List (Int × List Int)} (h : bR ds ms = 5) : runV ss ds ch got ((inc, ms) :: r) = (5, [], 0, []) := by
  show (if bR ds ms = 0 then _ else _) = _
  rw [if_neg (by rw [h]; decide)]
theorem runV_pay {ss ds : List Int} {ch inc : Int} {got ms : List Int} {r : List (Int × List Int)} (h : bR ds ms = 0) (h2 : ¬ paC ss (srt (ds ++ ms)) (ch + inc) ≤ 1000000000000) : runV ss ds ch got ((inc, ms) :: r) = (3, [], 0, []) := by
  show (if bR ds ms = 0 then (if _ then _ else _) else _) = _
  rw [if_pos h, if_neg h2]
theorem runV_step {ss ds : List Int} {ch inc : Int} {got ms : List Int} {r : List (Int × List Int)} (h : bR ds ms = 0) (h2 : paC ss (srt (ds ++ ms)) (ch + inc) ≤ 1000000000000) : runV ss ds ch got ((inc, ms) :: r) = runV ss (srt (ds ++ ms)) (paC ss (srt (ds ++ ms)) (ch + inc)) (addL ss.length got (paL ss (srt (ds ++ ms)) (ch + inc))) r := by
  show (if bR ds ms = 0 then (if _ then _ else _) else _) = _
  rw [if_pos h, if_pos h2]
theorem bR_cases (ds ms : List Int) : bR ds ms = 0 ∨ bR ds ms = 5 := by unfold bR; split <;> simp
theorem okC_next {ss ds ms : List Int} {ch inc : Int} (h : okC ss ds ch = true) (hm : ms.all (inR 0 ((ss.length : Int) - 1)) = true) (hi : 0 ≤ inc) (hb : bR ds ms = 0) (hp : paC ss (srt (ds ++ ms)) (ch + inc) ≤ 1000000000000) : okC ss (srt (ds ++ ms)) (paC ss (srt (ds ++ ms)) (ch + inc)) = true := by
  have h1 := okC_iff.1 h
  have h2 := paC_bd (ds := srt (ds ++ ms)) (t := ch + inc) h1.2.1 (by have := h1.2.2.2.1; omega)
  rw [okC_iff]
  refine ⟨h1.1, h1.2.1, ?_, ⟨h2.1, hp⟩, ?_⟩
  · rw [srt_all, List.all_append, h1.2.2.1, hm]; rfl
  · unfold bR at hb
    split at hb
    · next e => exact e
    · cases hb
theorem zip_at {is : List Int} {dd : List (List Int)} {k : Nat} {i : Int} {l : List Int} (h1 : is[k]? = some i) (h2 : dd[k]? = some l) : (is.zip dd).drop k = (i, l) :: (is.zip dd).drop (k + 1) := by
  have h3 : (is.zip dd)[k]? = some (i, l) := by rw [List.getElem?_zip_eq_some]; exact ⟨h1, h2⟩
  obtain ⟨h4, h5⟩ := List.getElem?_eq_some_iff.1 h3
  rw [List.drop_eq_getElem_cons h4, h5]
end Go.Proofs.Ytmhbkabdiciakaa
