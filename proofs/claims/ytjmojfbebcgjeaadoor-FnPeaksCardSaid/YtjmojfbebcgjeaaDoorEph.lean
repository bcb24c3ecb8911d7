/-
  Quotients that are rounded down, remainders, and the times of an ephemeris.
-/
import Derived.Test.YtjmojfbebcgjeaaDoorBasic
import Derived.Test.YtjmojfbebcgjeaaDoorMore
import Derived.Test.YtjmojfbebcgjeaaDoorWords
import Derived.Deep.CutRange
import Derived.Deep.RegionWith
namespace Go.Proofs.YtjmojfbebcgjeaaDoor
open Go.RowKit
set_option maxRecDepth 100000

theorem neg_ediv_pos (N : Nat) (b : Int) (hb : 1 ≤ b) (hm : 0 < (N : Int) % b) : (-(N : Int)) / b = -((N : Int) / b) - 1 := by
  have h1 := Int.mul_ediv_add_emod (N : Int) b
  have h2 := Int.emod_lt_of_pos (N : Int) (show 0 < b by omega)
  generalize (N : Int) / b = Q at *
  generalize (N : Int) % b = R at *
  have e1 : (-Q - 1) * b = -(b * Q) - b := by rw [Int.sub_mul, Int.neg_mul, Int.mul_comm Q b]; omega
  have e2 : (-Q) * b = -(b * Q) := by rw [Int.neg_mul, Int.mul_comm Q b]
  have k1 : (-Q - 1) ≤ (-(N : Int)) / b := Int.le_ediv_of_mul_le (by omega) (by rw [e1]; omega)
  have k2 : (-(N : Int)) / b < -Q := Int.ediv_lt_of_lt_mul (by omega) (by rw [e2]; omega)
  omega
theorem neg_ediv_zero (N : Nat) (b : Int) (hb : 1 ≤ b) (hm : ¬ 0 < (N : Int) % b) : (-(N : Int)) / b = -((N : Int) / b) := by
  have h1 := Int.mul_ediv_add_emod (N : Int) b
  have h2 := Int.emod_nonneg (N : Int) (show b ≠ 0 by omega)
  generalize (N : Int) / b = Q at *
  generalize (N : Int) % b = R at *
  have e1 : (-Q) * b = -(b * Q) := by rw [Int.neg_mul, Int.mul_comm Q b]
  have e2 : (-Q + 1) * b = -(b * Q) + b := by rw [Int.add_mul, Int.neg_mul, Int.mul_comm Q b]; omega
  have k1 : (-Q) ≤ (-(N : Int)) / b := Int.le_ediv_of_mul_le (by omega) (by rw [e1]; omega)
  have k2 : (-(N : Int)) / b < -Q + 1 := Int.ediv_lt_of_lt_mul (by omega) (by rw [e2]; omega)
  omega
theorem nat_ediv_le (N : Nat) (b : Int) (hb : 1 ≤ b) : 0 ≤ (N : Int) / b ∧ (N : Int) / b ≤ N := by
  refine ⟨Int.ediv_nonneg (by omega) (by omega), ?_⟩
  exact Int.ediv_le_self _ (by omega)

end Go.Proofs.YtjmojfbebcgjeaaDoor
