/-
  Weighted means, chi squares, changes of sign: the program's and the reference's.
-/
import Derived.Test.YtiledenbgdeglaaDoorErr3
namespace Go.Proofs.YtiledenbgdeglaaDoor
open Go.RowKit
set_option maxRecDepth 100000
set_option linter.unusedVariables false
theorem modB_of {ms md : List Int} {n n3 : Nat} (h1 : ms.length = n) (h3 : md.length = n3) (hM : magsB ms = true) (hD : magsB md = true) (hl : n3 = n) : modB ms md = true := by
  simp [modB, hM, hD, h1, h3, hl]
end Go.Proofs.YtiledenbgdeglaaDoor
