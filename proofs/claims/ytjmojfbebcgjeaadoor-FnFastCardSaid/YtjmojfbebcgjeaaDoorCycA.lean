/-
  Cycles, phases, next times, and the times within some time.
-/
import Derived.Test.YtjmojfbebcgjeaaDoorEph
import Derived.Test.YtjmojfbebcgjeaaDoorSrc
import Derived.Laws.ResultCell
namespace Go.Proofs.YtjmojfbebcgjeaaDoor
open Go.RowKit
set_option maxRecDepth 100000

theorem infoI64c : (Tryd.prog.info? 2).map (fun i => (i.zero, i.size, i.bytes)) = some (some (.int .i64 0), 1, 8) := by kernel_rfl
def timesL (x p : Int) (k : Nat) : List Int := (List.range k).map fun (i : Nat) => x + (i : Int) * p
theorem timesL_step (x p : Int) (k : Nat) : timesL x p k ++ [x + (k : Int) * p] = timesL x p (k + 1) := by simp [timesL, List.range_succ]
theorem timesL_at {x p : Int} {k i : Nat} (h : i < k) : (timesL x p k)[i]? = some (x + (i : Int) * p) := by simp [timesL, h]
end Go.Proofs.YtjmojfbebcgjeaaDoor
