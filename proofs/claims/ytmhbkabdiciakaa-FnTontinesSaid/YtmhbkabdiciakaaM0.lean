/-
  Words for RunClass: where the run stands, what it gives, how its result is read.
-/
import Derived.Test.YtmhbkabdiciakaaK1
import Derived.Test.YtmhbkabdiciakaaL1
import Derived.Test.YtmhbkabdiciakaaC2
import Derived.Test.YtmhbkabdiciakaaQ
set_option linter.unusedSimpArgs false
set_option linter.unusedVariables false
namespace Go.Proofs.Ytmhbkabdiciakaa
open Go.RowKit
theorem res_run {fn : Func} {tmps : Array Value} {w : World} {B : Nat} {a b e pv kv : Value} (hres : fn.results = #[.cell 6 26, .tmp 7, .tmp 8]) (h6 : tmps[6]?.getD undef = .pointer (some ⟨B, 0, none⟩)) (h7 : tmps[7]?.getD undef = pv) (h8 : tmps[8]?.getD undef = kv) (hb : Blk w B 26 #[a, b, e]) : (results fn tmps).run Try.prog w = .ok (.tuple #[.agg #[a, b, e], pv, kv]) w := by
  obtain ⟨x0, x1, x2⟩ := c3_cells hb
  have hl := hb.lt
  simp [results, hres, go_sem, h6, h7, h8, x0, x1, x2, hl]
/-- what a call lays into a new box -/
def nxP (wr wx : World) (G : Nat) (S1 : Option Addr) (n1 c1 : Nat) (D1 : Option Addr) (m1 d1 : Nat) (cv : Int) (ss ds : List Int) : Prop := Below wr.heap.size wr wx ∧ wr.heap.size ≤ G ∧ Blk wx G 26 #[.slice S1 n1 c1, .slice D1 m1 d1, .int .i64 cv] ∧ OwC wx wr.heap.size (.slice S1 n1 c1) (.slice D1 m1 d1) ss ds ∧ ∀ q, (Value.slice S1 n1 c1).ownBlock = some q ∨ (Value.slice D1 m1 d1).ownBlock = some q → q ≠ G
/-- where the run stands -/
def runI (w wr : World) (GO GT : Nat) (So : Option Addr) (no co : Nat) (Do : Option Addr) (mo od : Nat) (cha : Int) (cs : Array Value) (ss da got : List Int) : Prop := Below w.heap.size w wr ∧ Blk wr (w.heap.size + 1) 26 #[.slice none 0 0, .slice none 0 0, .int .i64 0] ∧ Blk wr GO 26 #[.slice So no co, .slice Do mo od, .int .i64 cha] ∧ (Blk wr GT 2 cs ∧ holdsL cs got) ∧ OwC wr (w.heap.size + 2) (.slice So no co) (.slice Do mo od) ss da ∧ ∀ q, (Value.slice So no co).ownBlock = some q ∨ (Value.slice Do mo od).ownBlock = some q → q ≠ GO ∧ q ≠ GT
/-- what RunClass gives -/
def rcP (w w' : World) (e : Ending) (k : Int) (ss da : List Int) (cha : Int) (got : List Int) : Prop := ∃ S' n' c' D' m' d' P p pc, e = .returned (.tuple #[.agg #[.slice S' n' c', .slice D' m' d', .int .i64 (kI k cha)], .slice P p pc, .int .i64 k]) ∧ OwC w' w.heap.size (.slice S' n' c') (.slice D' m' d') (kL k ss) (kL k da) ∧ OwI w' w.heap.size (.slice P p pc) (kL k got) ∧ (∀ q, (Value.slice S' n' c').ownBlock = some q ∨ (Value.slice D' m' d').ownBlock = some q → (Value.slice P p pc).ownBlock ≠ some q) ∧ Below w.heap.size w w'
theorem rcP_no {w w' : World} {k : Int} {ss da got : List Int} {cha : Int} (hk : k ≠ 0) (hb : Below w.heap.size w w') : rcP w w' (.returned (.tuple #[.agg #[.slice none 0 0, .slice none 0 0, .int .i64 0], .slice none 0 0, .int .i64 k])) k ss da cha got := by
  refine ⟨none, 0, 0, none, 0, 0, none, 0, 0, ?_, ?_, ?_, (fun q e => by simp [Value.ownBlock]), hb⟩
  · rw [show kI k cha = 0 from if_neg hk]
  · rw [show kL k ss = [] from if_neg hk, show kL k da = [] from if_neg hk]
    exact OwC.nil hb.size
  · rw [show kL k got = [] from if_neg hk]
    exact World.ownsRow_nil _ _ _ _
theorem runC_1 {ss ds : List Int} {ch : Int} {is : List Int} {dd : List (List Int)} (h : okC ss ds ch = false) : Hid (runC ss ds ch is dd = 1) := by show _ = _; unfold runC; rw [h]; rfl
theorem runC_2 {ss ds : List Int} {ch : Int} {is : List Int} {dd : List (List Int)} (h : okC ss ds ch = true) (h2 : runOK ss.length is dd = false) : Hid (runC ss ds ch is dd = 2) := by show _ = _; unfold runC; rw [if_pos h, h2]; rfl
theorem runC_v {ss ds : List Int} {ch : Int} {is : List Int} {dd : List (List Int)} (h : okC ss ds ch = true) (h2 : runOK ss.length is dd = true) : Hid (runC ss ds ch is dd = (runV ss ds ch (List.replicate ss.length 0) (is.zip dd)).1) := by show _ = _; unfold runC; rw [if_pos h, if_pos h2]
theorem kI_0 (x : Int) : kI 0 x = x := rfl
theorem kL_0 (xs : List Int) : kL 0 xs = xs := rfl
end Go.Proofs.Ytmhbkabdiciakaa
