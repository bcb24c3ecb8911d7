/-
  Times and magnitudes: within their bounds.
-/
import Derived.Test.YtloggipjmaiegaaBasic
namespace Go.Proofs.Ytloggipjmaiegaa
open Go.RowKit
set_option maxRecDepth 100000

theorem l06Time_lit (n : Int) (r : Bool) (w : World) (h : inB n 0 10000000 = r) : Calls Try.prog 241 #[.int .i64 n] w fun e w' => e = .returned (.bool r) ∧ w = w' := by
  go_enter Try.func241, Try.ntmps241
  go_wp2_with fail
  refine (l00In_lit n _ _ r _ h).mono ?_
  rintro e w' ⟨rfl, rfl⟩
  go_wp2_with fail
  go_ret
  exact ⟨rfl, rfl⟩
theorem l02Mag_lit (n : Int) (r : Bool) (w : World) (h : inB n (-2000) 20000 = r) : Calls Try.prog 148 #[.int .i64 n] w fun e w' => e = .returned (.bool r) ∧ w = w' := by
  go_enter Try.func148, Try.ntmps148
  go_wp2_with fail
  refine (l00In_lit n _ _ r _ h).mono ?_
  rintro e w' ⟨rfl, rfl⟩
  go_wp2_with fail
  go_ret
  exact ⟨rfl, rfl⟩
theorem ValidMag_lit (n : Int) (r : Bool) (w : World) (h : inB n (-2000) 20000 = r) : Calls Try.prog 143 #[.int .i64 n] w fun e w' => e = .returned (.bool r) ∧ w = w' := by
  go_enter Try.func143, Try.ntmps143
  go_wp2_with fail
  refine (in_lit n _ _ r _ h).mono ?_
  rintro e w' ⟨rfl, rfl⟩
  go_wp2_with fail
  go_ret
  exact ⟨rfl, rfl⟩
end Go.Proofs.Ytloggipjmaiegaa
