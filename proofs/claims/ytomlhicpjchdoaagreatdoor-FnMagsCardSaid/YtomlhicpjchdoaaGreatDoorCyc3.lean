/-
  The ephemeris out of bytes; numbers out of bytes; all times within some time.
-/
import Derived.Test.YtomlhicpjchdoaaGreatDoorCyc2
namespace Go.Proofs.YtomlhicpjchdoaaGreatDoor
open Go.RowKit
set_option maxRecDepth 100000

theorem a2Long_any (a a' : Option Addr) (n n' c c' : Nat) (w : World) (hn : n ≤ 3000) (hn' : n' ≤ 3000) : Calls Tryz.prog 4 #[.slice a n c, .slice a' n' c'] w fun e w' => e = .returned (.bool false) ∧ w = w' := by
  have d0 : decide ((3000 : Int) < (n : Int)) = false := by simp; omega
  have d1 : decide ((3000 : Int) < (n' : Int)) = false := by simp; omega
  have d2 : decide (3000 < n) = false := by simp; omega
  have d3 : decide (3000 < n') = false := by simp; omega
  go_enter Tryz.func4, Tryz.ntmps4
  go_wp2_with fail
  go_ret
  exact ⟨rfl, rfl⟩
theorem a2Long_yes (a a' : Option Addr) (n n' c c' : Nat) (w : World) (hn : ¬ (n ≤ 3000 ∧ n' ≤ 3000)) (hm : n ≤ maxLen) (hm' : n' ≤ maxLen) : Calls Tryz.prog 4 #[.slice a n c, .slice a' n' c'] w fun e w' => e = .returned (.bool true) ∧ w = w' := by
  unfold maxLen at hm hm'
  by_cases h1 : n ≤ 3000
  · have h2 : ¬ n' ≤ 3000 := fun h => hn ⟨h1, h⟩
    have d0 : decide ((3000 : Int) < (n : Int)) = false := by simp; omega
    have d1 : decide ((3000 : Int) < (n' : Int)) = true := by simp; omega
    have d2 : decide (3000 < n) = false := by simp; omega
    have d3 : decide (3000 < n') = true := by simp; omega
    clear hn h1 h2
    go_enter Tryz.func4, Tryz.ntmps4
    go_wp2_with fail
    go_ret
    exact ⟨rfl, rfl⟩
  · have d0 : decide ((3000 : Int) < (n : Int)) = true := by simp; omega
    have d2 : decide (3000 < n) = true := by simp; omega
    clear hn h1
    go_enter Tryz.func4, Tryz.ntmps4
    go_wp2_with fail
    go_ret
    exact ⟨rfl, rfl⟩
set_option maxHeartbeats 1000000 in
theorem a2At_any (p : Nat) (m : Int) (a : Option Addr) (n c : Nat) (xs : List Int) (w : World) (hm : 1 ≤ m) (hm2 : m ≤ 100000) (hl : xs.length = n) (ho : ∀ x ∈ xs, Byt x) (hr : Rd eB 1 w a xs) :
    Calls Tryz.prog 6 #[.slice a n c, .int .i64 p, .int .i64 m] w fun e w' => ∃ v, e = .returned (.int .i64 v) ∧ 0 ≤ v ∧ v < m ∧ w = w' := by
  by_cases hlt : p < n
  · obtain ⟨x, hx, _⟩ := take_snoc' xs p (by omega)
    obtain ⟨hx0, hx1⟩ := ho x (List.mem_of_getElem? hx)
    obtain ⟨bb, o, rfl, hbl, hc⟩ := hr p x hx
    have cx := hc 0 _ rfl
    rw [Nat.add_zero, Nat.mul_one] at cx
    have d0 : decide (n ≤ p) = false := by simp; omega
    have d1 : decide ((n : Int) ≤ (p : Int)) = false := by simp; omega
    have d2 : decide (m < 1) = false := by simp; omega
    have k1 : 0 ≤ x % m := Int.emod_nonneg _ (by omega)
    have k2 : x % m < m := Int.emod_lt_of_pos _ (by omega)
    have hm0 : m ≠ 0 := by omega
    have hm1 : (m == 0) = false := by rw [beq_eq_false_iff_ne]; exact hm0
    clear hc hx hr ho hl
    go_enter Tryz.func6, Tryz.ntmps6
    go_wp2_with fail
    go_ret
    exact ⟨x % m, rfl, k1, k2, rfl⟩
  · have d0 : decide (n ≤ p) = true := by simp; omega
    have d1 : decide ((n : Int) ≤ (p : Int)) = true := by simp; omega
    clear hr ho hl
    go_enter Tryz.func6, Tryz.ntmps6
    go_wp2_with fail
    go_ret
    exact ⟨0, rfl, by omega, by omega, rfl⟩
theorem times_in {x t p : Int} {cnt : Nat} (hp : 1 ≤ p) (hc : (t - x) / p + 1 = cnt) : (∀ k : Nat, k < cnt → x + (k : Int) * p ≤ t) ∧ t < x + (cnt : Int) * p := by
  have h1 := Int.mul_ediv_add_emod (t - x) p
  have h2 := Int.emod_nonneg (t - x) (show p ≠ 0 by omega)
  have h3 := Int.emod_lt_of_pos (t - x) (show 0 < p by omega)
  generalize (t - x) / p = q at *
  generalize (t - x) % p = r at *
  rw [Int.mul_comm] at h1
  refine ⟨fun k hk => ?_, ?_⟩
  · have := Int.mul_le_mul_of_nonneg_right (show (k : Int) ≤ q by omega) (show 0 ≤ p by omega)
    omega
  · rw [← hc, Int.add_mul, Int.one_mul]
    omega
def slcLen (v : Value) : Nat := match v with
  | .slice _ n _ => n
  | _ => 0
end Go.Proofs.YtomlhicpjchdoaaGreatDoor
