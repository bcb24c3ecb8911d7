/-
  A magnitude between two others, and means of magnitudes (plain).
-/
import Derived.Test.YtomlhicpjchdoaaGreatDoorErr1
namespace Go.Proofs.YtomlhicpjchdoaaGreatDoor
set_option linter.unusedVariables false
theorem near_in {x d lo hi : Int} (hd : 0 < d) (h0 : lo * d ≤ x) (h1 : x ≤ hi * d) : lo ≤ nearF x d ∧ nearF x d ≤ hi := by
  unfold nearF
  constructor
  · refine Int.le_ediv_of_mul_le (by omega) ?_
    have : lo * (2 * d) = 2 * (lo * d) := by grind
    omega
  · have h2 : (2 * x + d) / (2 * d) < hi + 1 := by
      refine Int.ediv_lt_of_lt_mul (by omega) ?_
      have : (hi + 1) * (2 * d) = 2 * (hi * d) + 2 * d := by grind
      omega
    omega
theorem near_one {a d : Int} (hd : 0 < d) : nearF (a * d) d = a := by
  have := near_in hd (Int.le_refl (a * d)) (Int.le_refl _)
  omega
/-- between two magnitudes: p steps from a, q steps from b -/
def betX (a b p q : Int) : Int := a * (p + q) + (b - a) * p
theorem bet_in {a b p q : Int} (hp : 0 ≤ p) (hq : 0 ≤ q) (h : 0 < p + q) : min a b ≤ nearF (betX a b p q) (p + q) ∧ nearF (betX a b p q) (p + q) ≤ max a b := by
  unfold betX
  by_cases c : a ≤ b
  · have h1 := Int.mul_nonneg (show 0 ≤ b - a by omega) hp
    have h2 := Int.mul_nonneg (show 0 ≤ b - a by omega) hq
    have e : b * (p + q) = a * (p + q) + (b - a) * p + (b - a) * q := by grind
    rw [show min a b = a by omega, show max a b = b by omega]
    exact near_in h (by omega) (by omega)
  · have h1 := Int.mul_nonneg (show 0 ≤ a - b by omega) hp
    have h2 := Int.mul_nonneg (show 0 ≤ a - b by omega) hq
    have e : b * (p + q) = a * (p + q) + (b - a) * p + (b - a) * q := by grind
    have e1 : (b - a) * p = -((a - b) * p) := by grind
    have e2 : (b - a) * q = -((a - b) * q) := by grind
    rw [show min a b = b by omega, show max a b = a by omega]
    exact near_in h (by omega) (by omega)
theorem bet_a {a b q : Int} (h : 0 < q) : nearF (betX a b 0 q) (0 + q) = a := by
  unfold betX
  rw [Int.mul_zero, Int.add_zero, Int.zero_add]
  exact near_one h
theorem bet_b {a b p : Int} (h : 0 < p) : nearF (betX a b p 0) (p + 0) = b := by
  unfold betX
  rw [Int.add_zero, show a * p + (b - a) * p = b * p by grind]
  exact near_one h
theorem mg_mul {a p A P : Int} (h0 : -A ≤ a) (h1 : a ≤ A) (h2 : 0 ≤ p) (h3 : p ≤ P) (hA : 0 ≤ A) : -(A * P) ≤ a * p ∧ a * p ≤ A * P := by
  have e1 : a * p ≤ A * p := Int.mul_le_mul_of_nonneg_right h1 h2
  have e2 : -A * p ≤ a * p := Int.mul_le_mul_of_nonneg_right h0 h2
  have e3 : A * p ≤ A * P := Int.mul_le_mul_of_nonneg_left h3 hA
  rw [Int.neg_mul] at e2
  omega
theorem mean_in {l : List Int} {lo hi : Int} (h : ∀ x ∈ l, lo ≤ x ∧ x ≤ hi) (h0 : 0 < l.length) : lo ≤ nearF (sumL l) l.length ∧ nearF (sumL l) l.length ≤ hi := by
  have h1 := sumL_bd l h
  exact near_in (by omega) (by rw [Int.mul_comm]; exact h1.1) (by rw [Int.mul_comm]; exact h1.2)
end Go.Proofs.YtomlhicpjchdoaaGreatDoor
