/-
  The model that is drawn.
-/
import Derived.Test.YtomlhicpjchdoaaGreatDoorMod
namespace Go.Proofs.YtomlhicpjchdoaaGreatDoor
open Go.RowKit
set_option maxRecDepth 100000

end Go.Proofs.YtomlhicpjchdoaaGreatDoor
