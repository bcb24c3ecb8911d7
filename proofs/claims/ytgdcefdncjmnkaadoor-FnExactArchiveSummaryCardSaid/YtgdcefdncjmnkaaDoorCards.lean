/-
  DERIVED. GIVEN WITH THE SEED: THE CARDS: each row of YtgdcefdncjmnkaaDoorRows.lean that lists a variable, with what it lists TIED to the program's text (the seventh form; the later family's looks); each row that meets fmt, with fmt's text TOLD by the authors' own Lean function (tested against real Go, not proved from fmt's source: count such statements apart). THE CARD IS WHAT COUNTS. Prove the row's statement (the work); the ties are given (YtgdcefdncjmnkaaDoorTie.lean); close each card by the builder's one call (the guide's Derived/Test/ToyasCard.lean, 'card_holds'). Laid BY PROGRAM, IN A SANDBOX (cutbox-door.mjs). By AI agents, Wed Nov 11 2026. No macro, syntax, notation, axiom, sorry.
-/
import Derived.Test.YtgdcefdncjmnkaaDoorRows
import GoSem.ClaimSeven
namespace Go.Proofs.YtgdcefdncjmnkaaDoor
namespace Rows

/-- THE TIED CARD OF 'laws.FnExactArchiveSummary'. -/
def fnExactArchiveSummaryCard : Claim7 := { stood := { row := fnExactArchiveSummaryRow, standIns := [], harness := (true, "0793549183c83157697000750cf508c4676c08d22ad2b7de2a094d6719e2a101"), looks := false }, kinds := [], alts := [], laidByText := true, laidKinds := [.data, .data, .data], laidTests := true, laidLooks := .later }
def FnExactArchiveSummaryCardSaid : Prop := Claim7.holds Tryd.pinned (.plain (OpenSpec.ofChange fnExactArchiveSummarySpec)) fnExactArchiveSummaryCard

/-- THE SECOND FORM's CARD OF 'laws.FnExactArchiveSummary'. -/
def fnExactArchiveSummaryUptoCard : Claim7 := { stood := { row := fnExactArchiveSummaryUptoRow, standIns := [], harness := (true, "0793549183c83157697000750cf508c4676c08d22ad2b7de2a094d6719e2a101"), looks := false }, kinds := [], alts := [], laidByText := true, laidKinds := [.data, .data, .data], laidTests := true, laidLooks := .later }
def FnExactArchiveSummaryUptoCardSaid : Prop := Claim7.holds Tryd.pinned (.plain (OpenSpec.upto fnExactArchiveSummarySpec)) fnExactArchiveSummaryUptoCard
end Rows
end Go.Proofs.YtgdcefdncjmnkaaDoor
