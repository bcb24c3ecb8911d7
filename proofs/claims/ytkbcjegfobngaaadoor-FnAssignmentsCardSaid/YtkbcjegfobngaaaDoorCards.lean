/-
  DERIVED. GIVEN WITH THE SEED: THE CARDS: each row of YtkbcjegfobngaaaDoorRows.lean that lists a variable, with what it lists TIED to the program's text (the seventh form; the later family's looks); each row that meets fmt, with fmt's text TOLD by the authors' own Lean function (tested against real Go, not proved from fmt's source: count such statements apart). THE CARD IS WHAT COUNTS. Prove the row's statement (the work); the ties are given (YtkbcjegfobngaaaDoorTie.lean); close each card by the builder's one call (the guide's Derived/Test/ToyasCard.lean, 'card_holds'). Laid BY PROGRAM, IN A SANDBOX (cutbox-door.mjs). By AI agents, Wed Nov 11 2026. No macro, syntax, notation, axiom, sorry.
-/
import Derived.Test.YtkbcjegfobngaaaDoorRows
import GoSem.ClaimSeven
namespace Go.Proofs.YtkbcjegfobngaaaDoor
namespace Rows

/-- THE TIED CARD OF 'laws.FnAssignments'. -/
def fnAssignmentsCard : Claim7 := { stood := { row := fnAssignmentsRow, standIns := [], harness := (true, "9c4405e70b54ec1a20a1ee0b2971138ba4beb1fb98f5ca175280e32f919c0a09"), looks := false }, kinds := [], alts := [], laidByText := true, laidKinds := [.data, .data, .data], laidTests := true, laidLooks := .later }
def FnAssignmentsCardSaid : Prop := Claim7.holds Tryd.pinned (.plain (OpenSpec.ofChange fnAssignmentsSpec)) fnAssignmentsCard

/-- THE SECOND FORM's CARD OF 'laws.FnAssignments'. -/
def fnAssignmentsUptoCard : Claim7 := { stood := { row := fnAssignmentsUptoRow, standIns := [], harness := (true, "9c4405e70b54ec1a20a1ee0b2971138ba4beb1fb98f5ca175280e32f919c0a09"), looks := false }, kinds := [], alts := [], laidByText := true, laidKinds := [.data, .data, .data], laidTests := true, laidLooks := .later }
def FnAssignmentsUptoCardSaid : Prop := Claim7.holds Tryd.pinned (.plain (OpenSpec.upto fnAssignmentsSpec)) fnAssignmentsUptoCard
end Rows
end Go.Proofs.YtkbcjegfobngaaaDoor
