/-
  When a list of points is a light curve.
-/
import Derived.Test.YtnioecigjpifnaaDoorEst0
import Derived.Test.YtnioecigjpifnaaDoorTimes
import Derived.Deep.CutRange
import Derived.Deep.Light
namespace Go.Proofs.YtnioecigjpifnaaDoor
open Go.RowKit
set_option maxRecDepth 100000

end Go.Proofs.YtnioecigjpifnaaDoor
