/-
  DERIVED. GIVEN WITH THE SEED: THE CARDS: each row of YtcggnjpbahobcaaGreatDoorRows.lean that lists a variable, with what it lists TIED to the program's text (the seventh form; the later family's looks); each row that meets fmt, with fmt's text TOLD by the authors' own Lean function (tested against real Go, not proved from fmt's source: count such statements apart). THE CARD IS WHAT COUNTS. Prove the row's statement (the work); the ties are given (YtcggnjpbahobcaaGreatDoorTie.lean); close each card by the builder's one call (the guide's Derived/Test/ToyasCard.lean, 'card_holds'). Laid BY PROGRAM, IN A SANDBOX (cutbox-door.mjs). By AI agents, Wed Nov 11 2026. No macro, syntax, notation, axiom, sorry.
-/
import Derived.Test.YtcggnjpbahobcaaGreatDoorRows
import GoSem.ClaimSeven
namespace Go.Proofs.YtcggnjpbahobcaaGreatDoor
namespace Rows

/-- THE TIED CARD OF 'laws.FnExactReportRows'. -/
def fnExactReportRowsCard : Claim7 := { stood := { row := fnExactReportRowsRow, standIns := [], harness := (true, "6c04e0a7abb235abd11c19d32e1faeb4eb8859c32f319b4fcb9b91033f85a949"), looks := false }, kinds := [], alts := [], laidByText := true, laidKinds := [.data, .data, .data], laidTests := true, laidLooks := .later }
def FnExactReportRowsCardSaid : Prop := Claim7.holds Tryz.pinned (.plain (OpenSpec.ofChange fnExactReportRowsSpec)) fnExactReportRowsCard

/-- THE SECOND FORM's CARD OF 'laws.FnExactReportRows'. -/
def fnExactReportRowsUptoCard : Claim7 := { stood := { row := fnExactReportRowsUptoRow, standIns := [], harness := (true, "6c04e0a7abb235abd11c19d32e1faeb4eb8859c32f319b4fcb9b91033f85a949"), looks := false }, kinds := [], alts := [], laidByText := true, laidKinds := [.data, .data, .data], laidTests := true, laidLooks := .later }
def FnExactReportRowsUptoCardSaid : Prop := Claim7.holds Tryz.pinned (.plain (OpenSpec.upto fnExactReportRowsSpec)) fnExactReportRowsUptoCard
end Rows
end Go.Proofs.YtcggnjpbahobcaaGreatDoor
