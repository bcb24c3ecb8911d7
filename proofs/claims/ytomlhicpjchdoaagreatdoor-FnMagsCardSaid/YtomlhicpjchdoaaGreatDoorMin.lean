/-
  Minima, maxima.
-/
import Derived.Test.YtomlhicpjchdoaaGreatDoorWords
namespace Go.Proofs.YtomlhicpjchdoaaGreatDoor
open Go.RowKit
end Go.Proofs.YtomlhicpjchdoaaGreatDoor
