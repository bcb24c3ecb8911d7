/-
  DERIVED. GIVEN WITH THE SEED: THE CARDS: each row of YtdpmdifdnneinaaDoorRows.lean that lists a variable, with what it lists TIED to the program's text (the seventh form; the later family's looks); each row that meets fmt, with fmt's text TOLD by the authors' own Lean function (tested against real Go, not proved from fmt's source: count such statements apart). THE CARD IS WHAT COUNTS. Prove the row's statement (the work); the ties are given (YtdpmdifdnneinaaDoorTie.lean); close each card by the builder's one call (the guide's Derived/Test/ToyasCard.lean, 'card_holds'). Laid BY PROGRAM, IN A SANDBOX (cutbox-door.mjs). By AI agents, Wed Nov 11 2026. No macro, syntax, notation, axiom, sorry.
-/
import Derived.Test.YtdpmdifdnneinaaDoorRows
import GoSem.ClaimSeven
namespace Go.Proofs.YtdpmdifdnneinaaDoor
namespace Rows

/-- THE TIED CARD OF 'laws.FnExactReadRequest'. -/
def fnExactReadRequestCard : Claim7 := { stood := { row := fnExactReadRequestRow, standIns := [], harness := (true, "09ee98e4d51577869f80941b4a47c55eceeaaa8e77337456662e1f02eaf7c550"), looks := true }, kinds := [], alts := [], laidByText := true, laidKinds := [.data, .data, .data, .data, .sentinel, .sentinel, .pinned], laidTests := true, laidLooks := .later }
def FnExactReadRequestCardSaid : Prop := Claim7.holds Tryd.pinned (.plain (OpenSpec.ofChange fnExactReadRequestSpec)) fnExactReadRequestCard

/-- THE SECOND FORM's CARD OF 'laws.FnExactReadRequest'. -/
def fnExactReadRequestUptoCard : Claim7 := { stood := { row := fnExactReadRequestUptoRow, standIns := [], harness := (true, "09ee98e4d51577869f80941b4a47c55eceeaaa8e77337456662e1f02eaf7c550"), looks := true }, kinds := [], alts := [], laidByText := true, laidKinds := [.data, .data, .data, .data, .sentinel, .sentinel, .pinned], laidTests := true, laidLooks := .later }
def FnExactReadRequestUptoCardSaid : Prop := Claim7.holds Tryd.pinned (.plain (OpenSpec.upto fnExactReadRequestSpec)) fnExactReadRequestUptoCard
end Rows
end Go.Proofs.YtdpmdifdnneinaaDoor
