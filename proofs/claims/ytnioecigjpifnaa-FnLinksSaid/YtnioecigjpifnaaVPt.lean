/-
  When a list of points is a light curve.
-/
import Derived.Test.YtnioecigjpifnaaEst0
import Derived.Test.YtnioecigjpifnaaTimes
import Derived.Deep.CutRange
import Derived.Deep.Light
namespace Go.Proofs.Ytnioecigjpifnaa
open Go.RowKit
set_option maxRecDepth 100000

end Go.Proofs.Ytnioecigjpifnaa
