/-
  Chi squares, weighted means, squares of errors, means without one: the program's and the reference's.
-/
import Derived.Test.YtiledenbgdeglaaDoorErr4
namespace Go.Proofs.YtiledenbgdeglaaDoor
open Go.RowKit
set_option maxRecDepth 100000
set_option linter.unusedVariables false
theorem sumW_in (ws : List Int) (hl : ws.length ≤ 200) (h : ∀ x ∈ ws, 0 ≤ x ∧ x ≤ 100) (k : Nat) : 0 ≤ sumL (ws.take k) ∧ sumL (ws.take k) ≤ 20000 := by
  have h1 := sumL_bd (lo := 0) (hi := 100) (ws.take k) (fun x hx => h x (List.mem_of_mem_take hx))
  have h2 : (ws.take k).length ≤ 200 := by simp; omega
  omega
end Go.Proofs.YtiledenbgdeglaaDoor
