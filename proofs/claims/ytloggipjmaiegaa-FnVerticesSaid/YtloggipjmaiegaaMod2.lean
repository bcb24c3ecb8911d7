/-
  The model that is drawn.
-/
import Derived.Test.YtloggipjmaiegaaMod
namespace Go.Proofs.Ytloggipjmaiegaa
open Go.RowKit
set_option maxRecDepth 100000

end Go.Proofs.Ytloggipjmaiegaa
