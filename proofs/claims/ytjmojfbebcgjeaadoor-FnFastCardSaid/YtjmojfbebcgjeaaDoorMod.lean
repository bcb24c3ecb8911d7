/-
  Models of eclipses: drawn ones, the drop at a distance.
-/
import Derived.Test.YtjmojfbebcgjeaaDoorCyc3
namespace Go.Proofs.YtjmojfbebcgjeaaDoor
open Go.RowKit
set_option maxRecDepth 100000

def nearI (x d : Int) : Int := if d - x % d ≤ x % d then x / d + 1 else x / d
theorem nearI_spec (x d : Int) (hd : 1 ≤ d) : 2 * (nearI x d * d) ≤ 2 * x + d ∧ 2 * x + d < 2 * (nearI x d * d) + 2 * d := by
  have h1 := Int.mul_ediv_add_emod x d
  have h2 := Int.emod_nonneg x (show d ≠ 0 by omega)
  have h3 := Int.emod_lt_of_pos x (show 0 < d by omega)
  unfold nearI
  generalize x / d = q at *
  generalize x % d = r at *
  rw [Int.mul_comm] at h1
  split
  · rw [Int.add_mul, Int.one_mul]; omega
  · omega
theorem nearI_mono {x y d : Int} (hd : 1 ≤ d) (h : x ≤ y) : nearI x d ≤ nearI y d := by
  have h1 := nearI_spec x d hd
  have h2 := nearI_spec y d hd
  rcases Int.lt_or_le (nearI y d) (nearI x d) with hlt | hle
  · exfalso
    have := Int.mul_le_mul_of_nonneg_right (show nearI y d + 1 ≤ nearI x d by omega) (show 0 ≤ d by omega)
    rw [Int.add_mul, Int.one_mul] at this
    omega
  · exact hle
theorem nearI_nonneg {x d : Int} (hd : 1 ≤ d) (h : 0 ≤ x) : 0 ≤ nearI x d := by
  have h1 := nearI_spec x d hd
  rcases Int.lt_or_le (nearI x d) 0 with hlt | hle
  · exfalso
    have := Int.mul_le_mul_of_nonneg_right (show nearI x d ≤ -1 by omega) (show 0 ≤ d by omega)
    rw [Int.neg_mul, Int.one_mul] at this
    omega
  · exact hle
theorem nearI_le {x d D : Int} (hd : 1 ≤ d) (h : x ≤ D * d) : nearI x d ≤ D := by
  have h1 := nearI_spec x d hd
  rcases Int.lt_or_le D (nearI x d) with hlt | hle
  · exfalso
    have := Int.mul_le_mul_of_nonneg_right (show D + 1 ≤ nearI x d by omega) (show 0 ≤ d by omega)
    rw [Int.add_mul, Int.one_mul] at this
    omega
  · exact hle
theorem prod_le {a b D : Int} (hD : 0 ≤ D) (h : a ≤ b) : D * a ≤ D * b := Int.mul_le_mul_of_nonneg_left h hD
def absI (x : Int) : Int := if x < 0 then -x else x
theorem abs_any (x : Int) (w : World) (h0 : -1000000000 ≤ x) (h1 : x ≤ 1000000000) : Calls Tryd.prog 86 #[.int .i64 x] w fun e w' => e = .returned (.int .i64 (absI x)) ∧ w = w' := by
  by_cases hx : x < 0
  · rw [show absI x = -x from if_pos hx]
    go_enter Tryd.func86, Tryd.ntmps86
    go_wp2_with fail
    go_ret
    exact ⟨rfl, rfl⟩
  · rw [show absI x = x from if_neg hx]
    go_enter Tryd.func86, Tryd.ntmps86
    go_wp2_with fail
    go_ret
    exact ⟨rfl, rfl⟩
end Go.Proofs.YtjmojfbebcgjeaaDoor
