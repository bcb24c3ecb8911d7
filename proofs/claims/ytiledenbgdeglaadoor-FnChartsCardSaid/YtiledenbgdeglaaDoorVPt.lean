/-
  When a list of points is a light curve.
-/
import Derived.Test.YtiledenbgdeglaaDoorEst0
import Derived.Test.YtiledenbgdeglaaDoorTimes
import Derived.Deep.CutRange
import Derived.Deep.Light
namespace Go.Proofs.YtiledenbgdeglaaDoor
open Go.RowKit
set_option maxRecDepth 100000

end Go.Proofs.YtiledenbgdeglaaDoor
