/-
  The laws' helpers for slices of int64.
-/
import Derived.Test.YtkgkammobogcbaaDoorWords
import Derived.Test.YtkgkammobogcbaaDoorText
import Derived.BigQuiet
import Derived.Deep.RegionWith
namespace Go.Proofs.YtkgkammobogcbaaDoor
open Go.RowKit
set_option maxRecDepth 100000

theorem Tryd.info2 : (Tryd.prog.info? 2).map (fun i => (i.zero, i.size, i.bytes)) = some (some (.int .i64 0), 1, 8) := by kernel_rfl

end Go.Proofs.YtkgkammobogcbaaDoor
