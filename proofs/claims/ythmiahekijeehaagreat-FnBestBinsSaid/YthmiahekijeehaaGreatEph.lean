/-
  Quotients that are rounded down, remainders, and the times of an ephemeris.
-/
import Derived.Test.YthmiahekijeehaaGreatBasic
import Derived.Test.YthmiahekijeehaaGreatMore
import Derived.Test.YthmiahekijeehaaGreatWords
import Derived.Deep.CutRange
import Derived.Deep.RegionWith
namespace Go.Proofs.YthmiahekijeehaaGreat
open Go.RowKit
set_option maxRecDepth 100000

theorem neg_ediv_pos (N : Nat) (b : Int) (hb : 1 ≤ b) (hm : 0 < (N : Int) % b) : (-(N : Int)) / b = -((N : Int) / b) - 1 := by
  have h1 := Int.mul_ediv_add_emod (N : Int) b
  have h2 := Int.emod_lt_of_pos (N : Int) (show 0 < b by omega)
  generalize (N : Int) / b = Q at *
  generalize (N : Int) % b = R at *
  have e1 : (-Q - 1) * b = -(b * Q) - b := by rw [Int.sub_mul, Int.neg_mul, Int.mul_comm Q b]; omega
  have e2 : (-Q) * b = -(b * Q) := by rw [Int.neg_mul, Int.mul_comm Q b]
  have k1 : (-Q - 1) ≤ (-(N : Int)) / b := Int.le_ediv_of_mul_le (by omega) (by rw [e1]; omega)
  have k2 : (-(N : Int)) / b < -Q := Int.ediv_lt_of_lt_mul (by omega) (by rw [e2]; omega)
  omega
theorem neg_ediv_zero (N : Nat) (b : Int) (hb : 1 ≤ b) (hm : ¬ 0 < (N : Int) % b) : (-(N : Int)) / b = -((N : Int) / b) := by
  have h1 := Int.mul_ediv_add_emod (N : Int) b
  have h2 := Int.emod_nonneg (N : Int) (show b ≠ 0 by omega)
  generalize (N : Int) / b = Q at *
  generalize (N : Int) % b = R at *
  have e1 : (-Q) * b = -(b * Q) := by rw [Int.neg_mul, Int.mul_comm Q b]
  have e2 : (-Q + 1) * b = -(b * Q) + b := by rw [Int.add_mul, Int.neg_mul, Int.mul_comm Q b]; omega
  have k1 : (-Q) ≤ (-(N : Int)) / b := Int.le_ediv_of_mul_le (by omega) (by rw [e1]; omega)
  have k2 : (-(N : Int)) / b < -Q + 1 := Int.ediv_lt_of_lt_mul (by omega) (by rw [e2]; omega)
  omega
theorem nat_ediv_le (N : Nat) (b : Int) (hb : 1 ≤ b) : 0 ≤ (N : Int) / b ∧ (N : Int) / b ≤ N := by
  refine ⟨Int.ediv_nonneg (by omega) (by omega), ?_⟩
  exact Int.ediv_le_self _ (by omega)

set_option maxHeartbeats 1000000 in
theorem floorDiv_any (a b : Int) (w : World) (hb : 1 ≤ b) (hb2 : b ≤ 1000000) (h0 : -1000000000 ≤ a) (h1 : a ≤ 1000000000) : Calls Tryz.prog 99 #[.int .i64 a, .int .i64 b] w fun e w' => e = .returned (.int .i64 (a / b)) ∧ w = w' := by
  have hz : b ≠ 0 := by omega
  by_cases hn : 0 ≤ a
  · obtain ⟨N, rfl⟩ := Int.eq_ofNat_of_zero_le hn
    have hq := nat_ediv_le N b hb
    have hr := Int.emod_nonneg (N : Int) hz
    have e0 : Int.tdiv (N : Int) b = (N : Int) / b := Int.tdiv_eq_ediv_of_nonneg (by omega)
    have e1 : Int.tmod (N : Int) b = (N : Int) % b := Int.tmod_eq_emod_of_nonneg (by omega)
    have e2 : IntKind.i64.wrap ((N : Int) / b) = (N : Int) / b := IntWalk.i64_in _ (by omega)
    have d0 : ¬ (N : Int) % b < 0 := by omega
    have d1 : decide ((N : Int) % b < 0) = false := by simp; omega
    go_enter Tryz.func99, Tryz.ntmps99
    go_wp2
    go_ret
    exact ⟨rfl, rfl⟩
  · obtain ⟨N, hN⟩ : ∃ N : Nat, a = -(N : Int) := ⟨a.natAbs, by omega⟩
    subst hN
    have hq := nat_ediv_le N b hb
    have hr := Int.emod_nonneg (N : Int) hz
    have e0 : Int.tdiv (-(N : Int)) b = -((N : Int) / b) := by rw [Int.neg_tdiv, Int.tdiv_eq_ediv_of_nonneg (by omega)]
    have e1 : Int.tmod (-(N : Int)) b = -((N : Int) % b) := by rw [Int.neg_tmod, Int.tmod_eq_emod_of_nonneg (by omega)]
    by_cases hm : 0 < (N : Int) % b
    · have hv := neg_ediv_pos N b hb hm
      rw [hv]
      have e2 : IntKind.i64.wrap (-((N : Int) / b)) = -((N : Int) / b) := IntWalk.i64_in _ (by omega)
      have e3 : IntKind.i64.wrap (-((N : Int) / b) - 1) = -((N : Int) / b) - 1 := IntWalk.i64_in _ (by omega)
      have d0 : -((N : Int) % b) < 0 := by omega
      have d1 : decide (-((N : Int) % b) < 0) = true := by simp; omega
      clear hv
      go_enter Tryz.func99, Tryz.ntmps99
      go_wp2
      go_ret
      exact ⟨rfl, rfl⟩
    · have hv := neg_ediv_zero N b hb hm
      rw [hv]
      have e2 : IntKind.i64.wrap (-((N : Int) / b)) = -((N : Int) / b) := IntWalk.i64_in _ (by omega)
      have d0 : ¬ -((N : Int) % b) < 0 := by omega
      have d1 : decide (-((N : Int) % b) < 0) = false := by simp; omega
      clear hv
      go_enter Tryz.func99, Tryz.ntmps99
      go_wp2
      go_ret
      exact ⟨rfl, rfl⟩
theorem mod_any (a b : Int) (w : World) (hb : 1 ≤ b) (hb2 : b ≤ 1000000) (h0 : -1000000000 ≤ a) (h1 : a ≤ 1000000000) : Calls Tryz.prog 96 #[.int .i64 a, .int .i64 b] w fun e w' => e = .returned (.int .i64 (a % b)) ∧ w = w' := by
  have k1 := Int.emod_nonneg a (show b ≠ 0 by omega)
  have k2 := Int.emod_lt_of_pos a (show 0 < b by omega)
  have k3 : a / b * b = a - a % b := by have := Int.mul_ediv_add_emod a b; rw [Int.mul_comm] at this; omega
  have i1 : IntKind.i64.wrap (a / b * b) = a / b * b := by rw [k3]; exact IntWalk.i64_in _ (by omega)
  have i2 : IntKind.i64.wrap (a - a / b * b) = a % b := by rw [k3, IntWalk.i64_in _ (by omega)]; omega
  have HV : Hid (a - a / b * b = a % b) := Lib.hid (by rw [k3]; omega)
  clear k3
  go_enter Tryz.func96, Tryz.ntmps96
  go_wp2_with fail
  refine (floorDiv_any a b _ hb hb2 h0 h1).mono ?_
  rintro e w1 ⟨rfl, rfl⟩
  go_wp2_with fail
  go_ret
  exact ⟨by first | rfl | (rw [HV.out]; rfl) | (simp only [HV.out]; rfl), rfl⟩
theorem ephNew (w : World) (v : Eph) (t : TypeId) : let w0 := w.alloc (.cells #[.int .i64 v.epoch, .int .i64 v.per] t)
    w0.cell? ⟨w.heap.size, 0, none⟩ = some (.int .i64 v.epoch) ∧ w0.cell? ⟨w.heap.size, 1, none⟩ = some (.int .i64 v.per) ∧ Below w.heap.size w w0 ∧ w.heap.size < w0.heap.size := by
  have h := fun j => cell_of_row (w.alloc (.cells #[.int .i64 v.epoch, .int .i64 v.per] t)) w.heap.size j _ t (0, 0) (heap_alloc_new w _)
  exact ⟨(h 0).trans rfl, (h 1).trans rfl, (Below.refl _ _).alloc (Nat.le_refl _) _, by simp⟩
/-- an ephemeris as it is drawn -/
def EphOk (v : Eph) : Prop := 0 ≤ v.epoch ∧ v.epoch ≤ 100000 ∧ 1 ≤ v.per ∧ v.per ≤ 1000000
theorem ephPhase (v : Eph) (t : Int) (w : World) (h : EphOk v) (h0 : 0 ≤ t) (h1 : t ≤ 10000000) : Calls Tryz.prog 90 #[.agg #[.int .i64 v.epoch, .int .i64 v.per], .int .i64 t] w fun e w' => e = .returned (.int .i64 ((t - v.epoch) % v.per)) ∧ Below w.heap.size w w' := by
  obtain ⟨e0, e1, e2, e3⟩ := h
  obtain ⟨d0, d1, hb, _⟩ := ephNew w v 93
  have HB := Lib.hid hb
  have i1 : IntKind.i64.wrap (t - v.epoch) = t - v.epoch := IntWalk.i64_in _ (by omega)
  clear hb
  go_enter Tryz.func90, Tryz.ntmps90
  go_wp2_with fail
  refine (mod_any _ _ _ (by omega) (by omega) (by omega) (by omega)).mono ?_
  rintro e w1 ⟨rfl, rfl⟩
  go_wp2_with fail
  go_ret
  exact ⟨rfl, HB.out⟩
def nextT (v : Eph) (t : Int) : Int := t + (v.epoch - t) % v.per
theorem nextT_bounds (v : Eph) (t : Int) (h : EphOk v) : t ≤ nextT v t ∧ nextT v t < t + v.per := by
  obtain ⟨e0, e1, e2, e3⟩ := h
  have k1 := Int.emod_nonneg (v.epoch - t) (show v.per ≠ 0 by omega)
  have k2 := Int.emod_lt_of_pos (v.epoch - t) (show 0 < v.per by omega)
  unfold nextT; omega
end Go.Proofs.YthmiahekijeehaaGreat
