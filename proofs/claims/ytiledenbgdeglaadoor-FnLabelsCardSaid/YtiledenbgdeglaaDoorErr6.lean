/-
  Squares of errors, means without one: the program's and the reference's.
-/
import Derived.Test.YtiledenbgdeglaaDoorErr5
namespace Go.Proofs.YtiledenbgdeglaaDoor
open Go.RowKit
set_option maxRecDepth 100000
set_option linter.unusedVariables false
theorem infoI : (Tryd.prog.info? 2).map (fun i => (i.zero, i.size, i.bytes)) = some (some (.int .i64 0), 1, 8) := by kernel_rfl
def LoP (w : World) (T : Nat) (L : List Int) (e : Ending) (w' : World) : Prop := ∃ (a' : Option Addr) (k c' : Nat), e = .returned (.tuple #[.slice a' k c', .int .i64 0]) ∧ Ow eI 1 w' w.heap.size T (.slice a' k c') k L ∧ Below w.heap.size w w'
def looL (S d : Int) (l : List Int) : List Int := l.map fun m => nearF (S - m) d
theorem looL_take {S d : Int} {l : List Int} {k : Nat} {x : Int} (h : l[k]? = some x) : looL S d (l.take (k + 1)) = looL S d (l.take k) ++ [nearF (S - x) d] := by
  rw [List.take_add_one, h]; simp [looL]
theorem twoC_cases (ls : List Int) : (magsB ls = true ∧ 2 ≤ ls.length ∧ twoC ls = 0) ∨ (magsB ls = true ∧ ls.length < 2 ∧ twoC ls = 3) ∨ (magsB ls = false ∧ twoC ls = 2) := by
  unfold twoC
  cases magsB ls
  · simp
  · by_cases h : ls.length < 2
    · simp [h]
    · simp [h]; omega
end Go.Proofs.YtiledenbgdeglaaDoor
