/-
  Times and magnitudes: within their bounds.
-/
import Derived.Test.YtcggnjpbahobcaaGreatDoorBasic
namespace Go.Proofs.YtcggnjpbahobcaaGreatDoor
open Go.RowKit
set_option maxRecDepth 100000

theorem l06Time_lit (n : Int) (r : Bool) (w : World) (h : inB n 0 10000000 = r) : Calls Tryz.prog 41 #[.int .i64 n] w fun e w' => e = .returned (.bool r) ∧ w = w' := by
  go_enter Tryz.func41, Tryz.ntmps41
  go_wp2_with fail
  refine (l00In_lit n _ _ r _ h).mono ?_
  rintro e w' ⟨rfl, rfl⟩
  go_wp2_with fail
  go_ret
  exact ⟨rfl, rfl⟩
theorem l02Mag_lit (n : Int) (r : Bool) (w : World) (h : inB n (-2000) 20000 = r) : Calls Tryz.prog 43 #[.int .i64 n] w fun e w' => e = .returned (.bool r) ∧ w = w' := by
  go_enter Tryz.func43, Tryz.ntmps43
  go_wp2_with fail
  refine (l00In_lit n _ _ r _ h).mono ?_
  rintro e w' ⟨rfl, rfl⟩
  go_wp2_with fail
  go_ret
  exact ⟨rfl, rfl⟩
theorem ValidMag_lit (n : Int) (r : Bool) (w : World) (h : inB n (-2000) 20000 = r) : Calls Tryz.prog 53 #[.int .i64 n] w fun e w' => e = .returned (.bool r) ∧ w = w' := by
  go_enter Tryz.func53, Tryz.ntmps53
  go_wp2_with fail
  refine (in_lit n _ _ r _ h).mono ?_
  rintro e w' ⟨rfl, rfl⟩
  go_wp2_with fail
  go_ret
  exact ⟨rfl, rfl⟩
end Go.Proofs.YtcggnjpbahobcaaGreatDoor
