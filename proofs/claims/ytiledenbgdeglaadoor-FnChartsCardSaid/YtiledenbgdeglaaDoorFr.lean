/-
  Greatest common divisors and fractions in lowest terms.
-/
import Derived.Test.YtiledenbgdeglaaDoorMod2
import Derived.Test.YtiledenbgdeglaaDoorBx
import Derived.StillTailTactics
import Derived.Laws.ResultCell
namespace Go.Proofs.YtiledenbgdeglaaDoor
open Go.RowKit
set_option maxRecDepth 100000
theorem tmod_gcd (x y : Int) : Nat.gcd y.natAbs (Int.tmod x y).natAbs = Nat.gcd x.natAbs y.natAbs := by
  rw [Int.natAbs_tmod, Nat.gcd_comm x.natAbs y.natAbs, Nat.gcd_rec y.natAbs x.natAbs, Nat.gcd_comm]
theorem tmod_lt (x y : Int) (h : y ≠ 0) : (Int.tmod x y).natAbs < y.natAbs := by
  rw [Int.natAbs_tmod]; exact Nat.mod_lt _ (by omega)
end Go.Proofs.YtiledenbgdeglaaDoor
