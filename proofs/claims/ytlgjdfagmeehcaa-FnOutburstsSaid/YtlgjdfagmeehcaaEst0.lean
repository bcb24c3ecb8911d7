/-
  Times and magnitudes: within their bounds.
-/
import Derived.Test.YtlgjdfagmeehcaaBasic
namespace Go.Proofs.Ytlgjdfagmeehcaa
open Go.RowKit
set_option maxRecDepth 100000

theorem l06Time_lit (n : Int) (r : Bool) (w : World) (h : inB n 0 10000000 = r) : Calls Try.prog 112 #[.int .i64 n] w fun e w' => e = .returned (.bool r) ∧ w = w' := by
  go_enter Try.func112, Try.ntmps112
  go_wp2_with fail
  refine (l00In_lit n _ _ r _ h).mono ?_
  rintro e w' ⟨rfl, rfl⟩
  go_wp2_with fail
  go_ret
  exact ⟨rfl, rfl⟩
theorem l02Mag_lit (n : Int) (r : Bool) (w : World) (h : inB n (-2000) 20000 = r) : Calls Try.prog 84 #[.int .i64 n] w fun e w' => e = .returned (.bool r) ∧ w = w' := by
  go_enter Try.func84, Try.ntmps84
  go_wp2_with fail
  refine (l00In_lit n _ _ r _ h).mono ?_
  rintro e w' ⟨rfl, rfl⟩
  go_wp2_with fail
  go_ret
  exact ⟨rfl, rfl⟩
theorem ValidMag_lit (n : Int) (r : Bool) (w : World) (h : inB n (-2000) 20000 = r) : Calls Try.prog 75 #[.int .i64 n] w fun e w' => e = .returned (.bool r) ∧ w = w' := by
  go_enter Try.func75, Try.ntmps75
  go_wp2_with fail
  refine (in_lit n _ _ r _ h).mono ?_
  rintro e w' ⟨rfl, rfl⟩
  go_wp2_with fail
  go_ret
  exact ⟨rfl, rfl⟩
end Go.Proofs.Ytlgjdfagmeehcaa
