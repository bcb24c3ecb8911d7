/-
  The model that is drawn.
-/
import Derived.Test.YtjmojfbebcgjeaaDoorMod
namespace Go.Proofs.YtjmojfbebcgjeaaDoor
open Go.RowKit
set_option maxRecDepth 100000

end Go.Proofs.YtjmojfbebcgjeaaDoor
