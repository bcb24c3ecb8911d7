/-
  DERIVED. GIVEN WITH THE SEED: THE CARDS: each row of YtomlhicpjchdoaaGreatDoorRows.lean that lists a variable, with what it lists TIED to the program's text (the seventh form; the later family's looks); each row that meets fmt, with fmt's text TOLD by the authors' own Lean function (tested against real Go, not proved from fmt's source: count such statements apart). THE CARD IS WHAT COUNTS. Prove the row's statement (the work); the ties are given (YtomlhicpjchdoaaGreatDoorTie.lean); close each card by the builder's one call (the guide's Derived/Test/ToyasCard.lean, 'card_holds'). Laid BY PROGRAM, IN A SANDBOX (cutbox-door.mjs). By AI agents, Wed Nov 11 2026. No macro, syntax, notation, axiom, sorry.
-/
import Derived.Test.YtomlhicpjchdoaaGreatDoorRows
import GoSem.ClaimSeven
namespace Go.Proofs.YtomlhicpjchdoaaGreatDoor
namespace Rows

/-- THE TIED CARD OF 'laws.FnMags'. -/
def fnMagsCard : Claim7 := { stood := { row := fnMagsRow, standIns := [], harness := (true, "cb80f433e1bbb861276b4690c699f2046fc27f51be8af794d4088c52ca1906a1"), looks := true }, kinds := [], alts := [], laidByText := true, laidKinds := [.data, .data, .data, .sentinel, .sentinel], laidTests := true, laidLooks := .later }
def FnMagsCardSaid : Prop := Claim7.holds Tryz.pinned (.plain (OpenSpec.ofChange fnMagsSpec)) fnMagsCard

/-- THE SECOND FORM's CARD OF 'laws.FnMags'. -/
def fnMagsUptoCard : Claim7 := { stood := { row := fnMagsUptoRow, standIns := [], harness := (true, "cb80f433e1bbb861276b4690c699f2046fc27f51be8af794d4088c52ca1906a1"), looks := true }, kinds := [], alts := [], laidByText := true, laidKinds := [.data, .data, .data, .sentinel, .sentinel], laidTests := true, laidLooks := .later }
def FnMagsUptoCardSaid : Prop := Claim7.holds Tryz.pinned (.plain (OpenSpec.upto fnMagsSpec)) fnMagsUptoCard
end Rows
end Go.Proofs.YtomlhicpjchdoaaGreatDoor
