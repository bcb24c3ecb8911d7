/-
  The first element that is wanted, and all of them, for any wanted function.
-/
import Derived.Test.YtjmojfbebcgjeaaDoorFirst
namespace Go.Proofs.YtjmojfbebcgjeaaDoor
open Go.RowKit
set_option maxRecDepth 100000

end Go.Proofs.YtjmojfbebcgjeaaDoor
