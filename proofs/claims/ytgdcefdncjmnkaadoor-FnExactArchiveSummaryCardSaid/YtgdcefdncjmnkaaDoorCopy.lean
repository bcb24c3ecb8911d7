/-
  Copies of slices.
-/
import Derived.Test.YtgdcefdncjmnkaaDoorWords
import Derived.Test.YtgdcefdncjmnkaaDoorMore
import Derived.Deep.RegionWith
namespace Go.Proofs.YtgdcefdncjmnkaaDoor
open Go.RowKit
set_option maxRecDepth 100000

theorem countVol_any (a : Option Addr) (n c : Nat) (w : World) : Calls Tryd.prog 15 #[.slice a n c] w fun e w' => e = .returned (.int .i64 n) ∧ w = w' := by
  go_enter Tryd.func15, Tryd.ntmps15
  go_wp2
  go_ret
  exact ⟨rfl, rfl⟩

end Go.Proofs.YtgdcefdncjmnkaaDoor
