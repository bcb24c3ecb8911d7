/-
  When a list of points is a light curve.
-/
import Derived.Test.YthjpfidlpdgeaaaEst0
import Derived.Test.YthjpfidlpdgeaaaTimes
import Derived.Deep.CutRange
import Derived.Deep.Light
namespace Go.Proofs.Ythjpfidlpdgeaaa
open Go.RowKit
set_option maxRecDepth 100000

end Go.Proofs.Ythjpfidlpdgeaaa
