/-
  Times and magnitudes: within their bounds.
-/
import Derived.Test.YthjpfidlpdgeaaaBasic
namespace Go.Proofs.Ythjpfidlpdgeaaa
open Go.RowKit
set_option maxRecDepth 100000

end Go.Proofs.Ythjpfidlpdgeaaa
