/-
  Draws beside other memory: what a draw leaves.
-/
import Derived.Test.YtcggnjpbahobcaaGreatDoorBx
import Derived.Test.YtcggnjpbahobcaaGreatDoorSrc
import Derived.Deep.RegionHeld3
namespace Go.Proofs.YtcggnjpbahobcaaGreatDoor
open Go.RowKit
set_option maxRecDepth 100000
section
variable {w0 w w' : World} {b : Nat} {a : Option Addr} {n c p p' : Nat} {z z' : Int}
theorem CAt.but {g : Nat} {vs : Array Value} {t : TypeId} (h : CAt w g vs t) (hu : But b w w') (hne : g ≠ b) : CAt w' g vs t := (hu.blk g h.lt hne).trans h
theorem But.ofDrew (hu : But b w.drew w') : But b w w' := ⟨hu.size, hu.blk⟩
end
end Go.Proofs.YtcggnjpbahobcaaGreatDoor
