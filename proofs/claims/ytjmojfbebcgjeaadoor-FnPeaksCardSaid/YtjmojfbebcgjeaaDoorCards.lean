/-
  DERIVED. GIVEN WITH THE SEED: THE CARDS: each row of YtjmojfbebcgjeaaDoorRows.lean that lists a variable, with what it lists TIED to the program's text (the seventh form; the later family's looks); each row that meets fmt, with fmt's text TOLD by the authors' own Lean function (tested against real Go, not proved from fmt's source: count such statements apart). THE CARD IS WHAT COUNTS. Prove the row's statement (the work); the ties are given (YtjmojfbebcgjeaaDoorTie.lean); close each card by the builder's one call (the guide's Derived/Test/ToyasCard.lean, 'card_holds'). Laid BY PROGRAM, IN A SANDBOX (cutbox-door.mjs). By AI agents, Wed Nov 11 2026. No macro, syntax, notation, axiom, sorry.
-/
import Derived.Test.YtjmojfbebcgjeaaDoorRows
import GoSem.ClaimSeven
namespace Go.Proofs.YtjmojfbebcgjeaaDoor
namespace Rows

/-- THE TIED CARD OF 'laws.FnPeaks'. -/
def fnPeaksCard : Claim7 := { stood := { row := fnPeaksRow, standIns := [], harness := (true, "521af722aae737366d0082b153c3011a851e37401131d21431419866cd8d8af9"), looks := false }, kinds := [], alts := [], laidByText := true, laidKinds := [.data, .data, .data], laidTests := true, laidLooks := .later }
def FnPeaksCardSaid : Prop := Claim7.holds Tryd.pinned (.plain (OpenSpec.ofChange fnPeaksSpec)) fnPeaksCard

/-- THE TIED CARD OF 'laws.FnFast'. -/
def fnFastCard : Claim7 := { stood := { row := fnFastRow, standIns := [], harness := (true, "521af722aae737366d0082b153c3011a851e37401131d21431419866cd8d8af9"), looks := false }, kinds := [], alts := [], laidByText := true, laidKinds := [.data, .data, .data], laidTests := true, laidLooks := .later }
def FnFastCardSaid : Prop := Claim7.holds Tryd.pinned (.plain (OpenSpec.ofChange fnFastSpec)) fnFastCard

/-- THE SECOND FORM's CARD OF 'laws.FnPeaks'. -/
def fnPeaksUptoCard : Claim7 := { stood := { row := fnPeaksUptoRow, standIns := [], harness := (true, "521af722aae737366d0082b153c3011a851e37401131d21431419866cd8d8af9"), looks := false }, kinds := [], alts := [], laidByText := true, laidKinds := [.data, .data, .data], laidTests := true, laidLooks := .later }
def FnPeaksUptoCardSaid : Prop := Claim7.holds Tryd.pinned (.plain (OpenSpec.upto fnPeaksSpec)) fnPeaksUptoCard

/-- THE SECOND FORM's CARD OF 'laws.FnFast'. -/
def fnFastUptoCard : Claim7 := { stood := { row := fnFastUptoRow, standIns := [], harness := (true, "521af722aae737366d0082b153c3011a851e37401131d21431419866cd8d8af9"), looks := false }, kinds := [], alts := [], laidByText := true, laidKinds := [.data, .data, .data], laidTests := true, laidLooks := .later }
def FnFastUptoCardSaid : Prop := Claim7.holds Tryd.pinned (.plain (OpenSpec.upto fnFastSpec)) fnFastUptoCard
end Rows
end Go.Proofs.YtjmojfbebcgjeaaDoor
