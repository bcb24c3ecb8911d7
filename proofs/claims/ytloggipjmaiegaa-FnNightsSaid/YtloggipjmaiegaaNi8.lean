/-
  The number of bits of a small number.
-/
import Derived.Test.YtloggipjmaiegaaNi7
namespace Go.Proofs.Ytloggipjmaiegaa
open Go.RowKit
set_option maxRecDepth 100000
set_option linter.unusedVariables false
set_option maxHeartbeats 4000000 in
theorem onesCount_small (x : Nat) (hx : x < 64) (w : World) : Calls Try.prog 119 #[.int .u64 (x : Int)] w fun e w' => (∃ z : Int, e = .returned (.int .i64 z) ∧ 0 ≤ z ∧ z ≤ 64 ∧ (z = 0 ↔ x = 0)) ∧ w = w' := by
  go_enter Try.func119, Try.ntmps119
  go_wp2_with fail
  go_ret
  refine ⟨⟨_, rfl, ?_⟩, rfl⟩
  revert hx
  revert x
  decide +kernel
end Go.Proofs.Ytloggipjmaiegaa
