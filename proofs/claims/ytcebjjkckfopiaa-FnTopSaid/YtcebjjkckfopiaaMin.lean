/-
  Minima, maxima.
-/
import Derived.Test.YtcebjjkckfopiaaWords
namespace Go.Proofs.Ytcebjjkckfopiaa
open Go.RowKit
end Go.Proofs.Ytcebjjkckfopiaa
