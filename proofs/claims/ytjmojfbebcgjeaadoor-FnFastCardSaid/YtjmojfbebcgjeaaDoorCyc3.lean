/-
  The ephemeris out of bytes; numbers out of bytes; all times within some time.
-/
import Derived.Test.YtjmojfbebcgjeaaDoorCyc2
namespace Go.Proofs.YtjmojfbebcgjeaaDoor
open Go.RowKit
set_option maxRecDepth 100000

theorem times_in {x t p : Int} {cnt : Nat} (hp : 1 ≤ p) (hc : (t - x) / p + 1 = cnt) : (∀ k : Nat, k < cnt → x + (k : Int) * p ≤ t) ∧ t < x + (cnt : Int) * p := by
  have h1 := Int.mul_ediv_add_emod (t - x) p
  have h2 := Int.emod_nonneg (t - x) (show p ≠ 0 by omega)
  have h3 := Int.emod_lt_of_pos (t - x) (show 0 < p by omega)
  generalize (t - x) / p = q at *
  generalize (t - x) % p = r at *
  rw [Int.mul_comm] at h1
  refine ⟨fun k hk => ?_, ?_⟩
  · have := Int.mul_le_mul_of_nonneg_right (show (k : Int) ≤ q by omega) (show 0 ≤ p by omega)
    omega
  · rw [← hc, Int.add_mul, Int.one_mul]
    omega
def slcLen (v : Value) : Nat := match v with
  | .slice _ n _ => n
  | _ => 0
end Go.Proofs.YtjmojfbebcgjeaaDoor
