/-
  Quotients that are rounded down, remainders, and the times of an ephemeris.
-/
import Derived.Test.YtdcldiadjdpaeaaBasic
import Derived.Test.YtdcldiadjdpaeaaMore
import Derived.Test.YtdcldiadjdpaeaaWords
import Derived.Deep.CutRange
import Derived.Deep.RegionWith
namespace Go.Proofs.Ytdcldiadjdpaeaa
open Go.RowKit
set_option maxRecDepth 100000

theorem neg_ediv_pos (N : Nat) (b : Int) (hb : 1 ≤ b) (hm : 0 < (N : Int) % b) : (-(N : Int)) / b = -((N : Int) / b) - 1 := by
  have h1 := Int.mul_ediv_add_emod (N : Int) b
  have h2 := Int.emod_lt_of_pos (N : Int) (show 0 < b by omega)
  generalize (N : Int) / b = Q at *
  generalize (N : Int) % b = R at *
  have e1 : (-Q - 1) * b = -(b * Q) - b := by rw [Int.sub_mul, Int.neg_mul, Int.mul_comm Q b]; omega
  have e2 : (-Q) * b = -(b * Q) := by rw [Int.neg_mul, Int.mul_comm Q b]
  have k1 : (-Q - 1) ≤ (-(N : Int)) / b := Int.le_ediv_of_mul_le (by omega) (by rw [e1]; omega)
  have k2 : (-(N : Int)) / b < -Q := Int.ediv_lt_of_lt_mul (by omega) (by rw [e2]; omega)
  omega
theorem neg_ediv_zero (N : Nat) (b : Int) (hb : 1 ≤ b) (hm : ¬ 0 < (N : Int) % b) : (-(N : Int)) / b = -((N : Int) / b) := by
  have h1 := Int.mul_ediv_add_emod (N : Int) b
  have h2 := Int.emod_nonneg (N : Int) (show b ≠ 0 by omega)
  generalize (N : Int) / b = Q at *
  generalize (N : Int) % b = R at *
  have e1 : (-Q) * b = -(b * Q) := by rw [Int.neg_mul, Int.mul_comm Q b]
  have e2 : (-Q + 1) * b = -(b * Q) + b := by rw [Int.add_mul, Int.neg_mul, Int.mul_comm Q b]; omega
  have k1 : (-Q) ≤ (-(N : Int)) / b := Int.le_ediv_of_mul_le (by omega) (by rw [e1]; omega)
  have k2 : (-(N : Int)) / b < -Q + 1 := Int.ediv_lt_of_lt_mul (by omega) (by rw [e2]; omega)
  omega
theorem nat_ediv_le (N : Nat) (b : Int) (hb : 1 ≤ b) : 0 ≤ (N : Int) / b ∧ (N : Int) / b ≤ N := by
  refine ⟨Int.ediv_nonneg (by omega) (by omega), ?_⟩
  exact Int.ediv_le_self _ (by omega)

set_option maxHeartbeats 1000000 in
theorem floorDiv_any (a b : Int) (w : World) (hb : 1 ≤ b) (hb2 : b ≤ 1000000) (h0 : -1000000000 ≤ a) (h1 : a ≤ 1000000000) : Calls Try.prog 57 #[.int .i64 a, .int .i64 b] w fun e w' => e = .returned (.int .i64 (a / b)) ∧ w = w' := by
  have hz : b ≠ 0 := by omega
  by_cases hn : 0 ≤ a
  · obtain ⟨N, rfl⟩ := Int.eq_ofNat_of_zero_le hn
    have hq := nat_ediv_le N b hb
    have hr := Int.emod_nonneg (N : Int) hz
    have e0 : Int.tdiv (N : Int) b = (N : Int) / b := Int.tdiv_eq_ediv_of_nonneg (by omega)
    have e1 : Int.tmod (N : Int) b = (N : Int) % b := Int.tmod_eq_emod_of_nonneg (by omega)
    have e2 : IntKind.i64.wrap ((N : Int) / b) = (N : Int) / b := IntWalk.i64_in _ (by omega)
    have d0 : ¬ (N : Int) % b < 0 := by omega
    have d1 : decide ((N : Int) % b < 0) = false := by simp; omega
    go_enter Try.func57, Try.ntmps57
    go_wp2
    go_ret
    exact ⟨rfl, rfl⟩
  · obtain ⟨N, hN⟩ : ∃ N : Nat, a = -(N : Int) := ⟨a.natAbs, by omega⟩
    subst hN
    have hq := nat_ediv_le N b hb
    have hr := Int.emod_nonneg (N : Int) hz
    have e0 : Int.tdiv (-(N : Int)) b = -((N : Int) / b) := by rw [Int.neg_tdiv, Int.tdiv_eq_ediv_of_nonneg (by omega)]
    have e1 : Int.tmod (-(N : Int)) b = -((N : Int) % b) := by rw [Int.neg_tmod, Int.tmod_eq_emod_of_nonneg (by omega)]
    by_cases hm : 0 < (N : Int) % b
    · have hv := neg_ediv_pos N b hb hm
      rw [hv]
      have e2 : IntKind.i64.wrap (-((N : Int) / b)) = -((N : Int) / b) := IntWalk.i64_in _ (by omega)
      have e3 : IntKind.i64.wrap (-((N : Int) / b) - 1) = -((N : Int) / b) - 1 := IntWalk.i64_in _ (by omega)
      have d0 : -((N : Int) % b) < 0 := by omega
      have d1 : decide (-((N : Int) % b) < 0) = true := by simp; omega
      clear hv
      go_enter Try.func57, Try.ntmps57
      go_wp2
      go_ret
      exact ⟨rfl, rfl⟩
    · have hv := neg_ediv_zero N b hb hm
      rw [hv]
      have e2 : IntKind.i64.wrap (-((N : Int) / b)) = -((N : Int) / b) := IntWalk.i64_in _ (by omega)
      have d0 : ¬ -((N : Int) % b) < 0 := by omega
      have d1 : decide (-((N : Int) % b) < 0) = false := by simp; omega
      clear hv
      go_enter Try.func57, Try.ntmps57
      go_wp2
      go_ret
      exact ⟨rfl, rfl⟩
end Go.Proofs.Ytdcldiadjdpaeaa
