/-
  DERIVED. GIVEN WITH THE SEED: THE CARDS: each row of YtkgkammobogcbaaDoorRows.lean that lists a variable, with what it lists TIED to the program's text (the seventh form; the later family's looks); each row that meets fmt, with fmt's text TOLD by the authors' own Lean function (tested against real Go, not proved from fmt's source: count such statements apart). THE CARD IS WHAT COUNTS. Prove the row's statement (the work); the ties are given (YtkgkammobogcbaaDoorTie.lean); close each card by the builder's one call (the guide's Derived/Test/ToyasCard.lean, 'card_holds'). Laid BY PROGRAM, IN A SANDBOX (cutbox-door.mjs). By AI agents, Wed Nov 11 2026. No macro, syntax, notation, axiom, sorry.
-/
import Derived.Test.YtkgkammobogcbaaDoorRows
import GoSem.ClaimSeven
namespace Go.Proofs.YtkgkammobogcbaaDoor
namespace Rows

/-- THE TIED CARD OF 'laws.FnExactWrapText'. -/
def fnExactWrapTextCard : Claim7 := { stood := { row := fnExactWrapTextRow, standIns := [], harness := (true, "618f1d73efd984d97d0c2db2ae9fa6be75a35959b1799e617fdd4d97e5a0dad5"), looks := false }, kinds := [], alts := [], laidByText := true, laidKinds := [.data, .pinned], laidTests := true, laidLooks := .later }
def FnExactWrapTextCardSaid : Prop := Claim7.holds Tryd.pinned (.plain (OpenSpec.ofChange fnExactWrapTextSpec)) fnExactWrapTextCard

/-- THE TIED CARD OF 'laws.FnExactTableLines'. -/
def fnExactTableLinesCard : Claim7 := { stood := { row := fnExactTableLinesRow, standIns := [], harness := (true, "618f1d73efd984d97d0c2db2ae9fa6be75a35959b1799e617fdd4d97e5a0dad5"), looks := false }, kinds := [], alts := [], laidByText := true, laidKinds := [.data, .pinned], laidTests := true, laidLooks := .later }
def FnExactTableLinesCardSaid : Prop := Claim7.holds Tryd.pinned (.plain (OpenSpec.ofChange fnExactTableLinesSpec)) fnExactTableLinesCard

/-- THE TIED CARD OF 'laws.FnExactStarRow'. -/
def fnExactStarRowCard : Claim7 := { stood := { row := fnExactStarRowRow, standIns := [], harness := (true, "618f1d73efd984d97d0c2db2ae9fa6be75a35959b1799e617fdd4d97e5a0dad5"), looks := false }, kinds := [], alts := [], laidByText := true, laidKinds := [.data, .data, .data], laidTests := true, laidLooks := .later }
def FnExactStarRowCardSaid : Prop := Claim7.holds Tryd.pinned (.plain (OpenSpec.ofChange fnExactStarRowSpec)) fnExactStarRowCard

/-- THE SECOND FORM's CARD OF 'laws.FnExactWrapText'. -/
def fnExactWrapTextUptoCard : Claim7 := { stood := { row := fnExactWrapTextUptoRow, standIns := [], harness := (true, "618f1d73efd984d97d0c2db2ae9fa6be75a35959b1799e617fdd4d97e5a0dad5"), looks := false }, kinds := [], alts := [], laidByText := true, laidKinds := [.data, .pinned], laidTests := true, laidLooks := .later }
def FnExactWrapTextUptoCardSaid : Prop := Claim7.holds Tryd.pinned (.plain (OpenSpec.upto fnExactWrapTextSpec)) fnExactWrapTextUptoCard

/-- THE SECOND FORM's CARD OF 'laws.FnExactTableLines'. -/
def fnExactTableLinesUptoCard : Claim7 := { stood := { row := fnExactTableLinesUptoRow, standIns := [], harness := (true, "618f1d73efd984d97d0c2db2ae9fa6be75a35959b1799e617fdd4d97e5a0dad5"), looks := false }, kinds := [], alts := [], laidByText := true, laidKinds := [.data, .pinned], laidTests := true, laidLooks := .later }
def FnExactTableLinesUptoCardSaid : Prop := Claim7.holds Tryd.pinned (.plain (OpenSpec.upto fnExactTableLinesSpec)) fnExactTableLinesUptoCard

/-- THE SECOND FORM's CARD OF 'laws.FnExactStarRow'. -/
def fnExactStarRowUptoCard : Claim7 := { stood := { row := fnExactStarRowUptoRow, standIns := [], harness := (true, "618f1d73efd984d97d0c2db2ae9fa6be75a35959b1799e617fdd4d97e5a0dad5"), looks := false }, kinds := [], alts := [], laidByText := true, laidKinds := [.data, .data, .data], laidTests := true, laidLooks := .later }
def FnExactStarRowUptoCardSaid : Prop := Claim7.holds Tryd.pinned (.plain (OpenSpec.upto fnExactStarRowSpec)) fnExactStarRowUptoCard
end Rows
end Go.Proofs.YtkgkammobogcbaaDoor
