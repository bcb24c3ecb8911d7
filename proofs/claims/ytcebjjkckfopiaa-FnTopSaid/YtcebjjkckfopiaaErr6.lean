/-
  Squares of errors, means without one: the program's and the reference's.
-/
import Derived.Test.YtcebjjkckfopiaaErr3
namespace Go.Proofs.Ytcebjjkckfopiaa
open Go.RowKit
set_option maxRecDepth 100000
set_option linter.unusedVariables false
theorem modB_of {ms md : List Int} {n n3 : Nat} (h1 : ms.length = n) (h3 : md.length = n3) (hM : magsB ms = true) (hD : magsB md = true) (hl : n3 = n) : modB ms md = true := by
  simp [modB, hM, hD, h1, h3, hl]
open Go.RowKit
set_option maxRecDepth 100000
set_option linter.unusedVariables false
theorem sumW_in (ws : List Int) (hl : ws.length ≤ 200) (h : ∀ x ∈ ws, 0 ≤ x ∧ x ≤ 100) (k : Nat) : 0 ≤ sumL (ws.take k) ∧ sumL (ws.take k) ≤ 20000 := by
  have h1 := sumL_bd (lo := 0) (hi := 100) (ws.take k) (fun x hx => h x (List.mem_of_mem_take hx))
  have h2 : (ws.take k).length ≤ 200 := by simp; omega
  omega
open Go.RowKit
set_option maxRecDepth 100000
set_option linter.unusedVariables false
theorem infoI : (Try.prog.info? 2).map (fun i => (i.zero, i.size, i.bytes)) = some (some (.int .i64 0), 1, 8) := by kernel_rfl
def LoP (w : World) (T : Nat) (L : List Int) (e : Ending) (w' : World) : Prop := ∃ (a' : Option Addr) (k c' : Nat), e = .returned (.tuple #[.slice a' k c', .int .i64 0]) ∧ Ow eI 1 w' w.heap.size T (.slice a' k c') k L ∧ Below w.heap.size w w'
def looL (S d : Int) (l : List Int) : List Int := l.map fun m => nearF (S - m) d
theorem looL_take {S d : Int} {l : List Int} {k : Nat} {x : Int} (h : l[k]? = some x) : looL S d (l.take (k + 1)) = looL S d (l.take k) ++ [nearF (S - x) d] := by
  rw [List.take_add_one, h]; simp [looL]
theorem twoC_cases (ls : List Int) : (magsB ls = true ∧ 2 ≤ ls.length ∧ twoC ls = 0) ∨ (magsB ls = true ∧ ls.length < 2 ∧ twoC ls = 3) ∨ (magsB ls = false ∧ twoC ls = 2) := by
  unfold twoC
  cases magsB ls
  · simp
  · by_cases h : ls.length < 2
    · simp [h]
    · simp [h]; omega
end Go.Proofs.Ytcebjjkckfopiaa
