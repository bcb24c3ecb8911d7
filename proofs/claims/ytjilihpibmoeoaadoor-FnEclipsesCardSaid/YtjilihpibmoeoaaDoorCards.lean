/-
  DERIVED. GIVEN WITH THE SEED: THE CARDS: each row of YtjilihpibmoeoaaDoorRows.lean that lists a variable, with what it lists TIED to the program's text (the seventh form; the later family's looks); each row that meets fmt, with fmt's text TOLD by the authors' own Lean function (tested against real Go, not proved from fmt's source: count such statements apart). THE CARD IS WHAT COUNTS. Prove the row's statement (the work); the ties are given (YtjilihpibmoeoaaDoorTie.lean); close each card by the builder's one call (the guide's Derived/Test/ToyasCard.lean, 'card_holds'). Laid BY PROGRAM, IN A SANDBOX (cutbox-door.mjs). By AI agents, Wed Nov 11 2026. No macro, syntax, notation, axiom, sorry.
-/
import Derived.Test.YtjilihpibmoeoaaDoorRows
import GoSem.ClaimSeven
namespace Go.Proofs.YtjilihpibmoeoaaDoor
namespace Rows

/-- THE TIED CARD OF 'laws.FnCycles'. -/
def fnCyclesCard : Claim7 := { stood := { row := fnCyclesRow, standIns := [], harness := (true, "e4168651687c90cc0a2ef64346f720fae174aaf15acf1512dc09956c2e163f26"), looks := false }, kinds := [], alts := [], laidByText := true, laidKinds := [.data, .data, .data], laidTests := true, laidLooks := .later }
def FnCyclesCardSaid : Prop := Claim7.holds Tryd.pinned (.plain (OpenSpec.ofChange fnCyclesSpec)) fnCyclesCard

/-- THE TIED CARD OF 'laws.FnEclipses'. -/
def fnEclipsesCard : Claim7 := { stood := { row := fnEclipsesRow, standIns := [], harness := (true, "e4168651687c90cc0a2ef64346f720fae174aaf15acf1512dc09956c2e163f26"), looks := false }, kinds := [], alts := [], laidByText := true, laidKinds := [.data, .data, .data], laidTests := true, laidLooks := .later }
def FnEclipsesCardSaid : Prop := Claim7.holds Tryd.pinned (.plain (OpenSpec.ofChange fnEclipsesSpec)) fnEclipsesCard

/-- THE SECOND FORM's CARD OF 'laws.FnCycles'. -/
def fnCyclesUptoCard : Claim7 := { stood := { row := fnCyclesUptoRow, standIns := [], harness := (true, "e4168651687c90cc0a2ef64346f720fae174aaf15acf1512dc09956c2e163f26"), looks := false }, kinds := [], alts := [], laidByText := true, laidKinds := [.data, .data, .data], laidTests := true, laidLooks := .later }
def FnCyclesUptoCardSaid : Prop := Claim7.holds Tryd.pinned (.plain (OpenSpec.upto fnCyclesSpec)) fnCyclesUptoCard

/-- THE SECOND FORM's CARD OF 'laws.FnEclipses'. -/
def fnEclipsesUptoCard : Claim7 := { stood := { row := fnEclipsesUptoRow, standIns := [], harness := (true, "e4168651687c90cc0a2ef64346f720fae174aaf15acf1512dc09956c2e163f26"), looks := false }, kinds := [], alts := [], laidByText := true, laidKinds := [.data, .data, .data], laidTests := true, laidLooks := .later }
def FnEclipsesUptoCardSaid : Prop := Claim7.holds Tryd.pinned (.plain (OpenSpec.upto fnEclipsesSpec)) fnEclipsesUptoCard
end Rows
end Go.Proofs.YtjilihpibmoeoaaDoor
