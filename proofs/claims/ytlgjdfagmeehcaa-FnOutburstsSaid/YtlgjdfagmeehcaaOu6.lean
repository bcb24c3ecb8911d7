/-
  The lesser and the greater of two magnitudes.
-/
import Derived.Test.YtlgjdfagmeehcaaOu5
namespace Go.Proofs.Ytlgjdfagmeehcaa
open Go.RowKit
set_option maxRecDepth 100000
theorem lesser_any (a b : Int) (w : World) : Calls Try.prog 137 #[.int .i64 a, .int .i64 b] w fun e w' => e = .returned (.int .i64 (min a b)) ∧ Below w.heap.size w w' := by
  by_cases h : a < b
  · have h2 : ¬ b < a := by omega
    have h3 : a ≤ b := by omega
    have HV : Hid (min a b = a) := Lib.hid (by omega)
    go_enter Try.func137, Try.ntmps137
    go_wp2_with fail
    go_ret
    exact ⟨by rw [HV.out]; rfl, Below.refl _ _⟩
  · by_cases he : a = b
    · subst he
      have HV : Hid (min a a = a) := Lib.hid (by omega)
      have h3 : ¬ a < a := by omega
      go_enter Try.func137, Try.ntmps137
      go_wp2_with fail
      go_ret
      exact ⟨rfl, Below.refl _ _⟩
    · have h2 : b < a := by omega
      have h3 : ¬ a ≤ b := by omega
      have HV : Hid (min a b = b) := Lib.hid (by omega)
      go_enter Try.func137, Try.ntmps137
      go_wp2_with fail
      go_ret
      exact ⟨by rw [HV.out]; rfl, Below.refl _ _⟩
theorem greater_any (a b : Int) (w : World) : Calls Try.prog 95 #[.int .i64 a, .int .i64 b] w fun e w' => e = .returned (.int .i64 (max a b)) ∧ Below w.heap.size w w' := by
  by_cases h : a < b
  · have h2 : ¬ b < a := by omega
    have h3 : a ≤ b := by omega
    have HV : Hid (max a b = b) := Lib.hid (by omega)
    go_enter Try.func95, Try.ntmps95
    go_wp2_with fail
    go_ret
    exact ⟨by rw [HV.out]; rfl, Below.refl _ _⟩
  · by_cases he : a = b
    · subst he
      have HV : Hid (max a a = a) := Lib.hid (by omega)
      have h3 : ¬ a < a := by omega
      go_enter Try.func95, Try.ntmps95
      go_wp2_with fail
      go_ret
      exact ⟨rfl, Below.refl _ _⟩
    · have h2 : b < a := by omega
      have h3 : ¬ a ≤ b := by omega
      have HV : Hid (max a b = a) := Lib.hid (by omega)
      go_enter Try.func95, Try.ntmps95
      go_wp2_with fail
      go_ret
      exact ⟨by rw [HV.out]; rfl, Below.refl _ _⟩
end Go.Proofs.Ytlgjdfagmeehcaa
