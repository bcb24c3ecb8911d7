/-
  Times and magnitudes: within their bounds.
-/
import Derived.Test.YtjmojfbebcgjeaaDoorBasic
namespace Go.Proofs.YtjmojfbebcgjeaaDoor
open Go.RowKit
set_option maxRecDepth 100000

theorem l06Time_lit (n : Int) (r : Bool) (w : World) (h : inB n 0 10000000 = r) : Calls Tryd.prog 79 #[.int .i64 n] w fun e w' => e = .returned (.bool r) ∧ w = w' := by
  go_enter Tryd.func79, Tryd.ntmps79
  go_wp2_with fail
  refine (l00In_lit n _ _ r _ h).mono ?_
  rintro e w' ⟨rfl, rfl⟩
  go_wp2_with fail
  go_ret
  exact ⟨rfl, rfl⟩
theorem l02Mag_lit (n : Int) (r : Bool) (w : World) (h : inB n (-2000) 20000 = r) : Calls Tryd.prog 80 #[.int .i64 n] w fun e w' => e = .returned (.bool r) ∧ w = w' := by
  go_enter Tryd.func80, Tryd.ntmps80
  go_wp2_with fail
  refine (l00In_lit n _ _ r _ h).mono ?_
  rintro e w' ⟨rfl, rfl⟩
  go_wp2_with fail
  go_ret
  exact ⟨rfl, rfl⟩
theorem ValidMag_lit (n : Int) (r : Bool) (w : World) (h : inB n (-2000) 20000 = r) : Calls Tryd.prog 74 #[.int .i64 n] w fun e w' => e = .returned (.bool r) ∧ w = w' := by
  go_enter Tryd.func74, Tryd.ntmps74
  go_wp2_with fail
  refine (in_lit n _ _ r _ h).mono ?_
  rintro e w' ⟨rfl, rfl⟩
  go_wp2_with fail
  go_ret
  exact ⟨rfl, rfl⟩
end Go.Proofs.YtjmojfbebcgjeaaDoor
