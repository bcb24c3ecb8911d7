/-
  When a list of points is a light curve.
-/
import Derived.Test.YtomlhicpjchdoaaGreatDoorEst0
import Derived.Test.YtomlhicpjchdoaaGreatDoorTimes
import Derived.Deep.CutRange
import Derived.Deep.Light
namespace Go.Proofs.YtomlhicpjchdoaaGreatDoor
open Go.RowKit
set_option maxRecDepth 100000

end Go.Proofs.YtomlhicpjchdoaaGreatDoor
