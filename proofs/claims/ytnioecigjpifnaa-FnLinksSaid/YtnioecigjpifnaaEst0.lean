/-
  Times and magnitudes: within their bounds.
-/
import Derived.Test.YtnioecigjpifnaaBasic
namespace Go.Proofs.Ytnioecigjpifnaa
open Go.RowKit
set_option maxRecDepth 100000

end Go.Proofs.Ytnioecigjpifnaa
