/-
  The model that is drawn.
-/
import Derived.Test.YtiledenbgdeglaaDoorMod
namespace Go.Proofs.YtiledenbgdeglaaDoor
open Go.RowKit
set_option maxRecDepth 100000

end Go.Proofs.YtiledenbgdeglaaDoor
