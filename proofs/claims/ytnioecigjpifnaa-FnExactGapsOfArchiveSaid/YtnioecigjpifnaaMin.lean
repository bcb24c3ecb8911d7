/-
  Minima, maxima.
-/
import Derived.Test.YtnioecigjpifnaaWords
namespace Go.Proofs.Ytnioecigjpifnaa
open Go.RowKit
theorem l00Min_any (a b : Int) (w : World) : Calls Try.prog 29 #[.int .i64 a, .int .i64 b] w fun e w' => e = .returned (.int .i64 (min a b)) ∧ w = w' := by
  by_cases h : a < b
  · have hm : min a b = a := by omega
    rw [hm]
    clear hm
    go_enter Try.func29, Try.ntmps29
    go_wp2
    go_ret
    exact ⟨rfl, rfl⟩
  · have hm : min a b = b := by omega
    rw [hm]
    clear hm
    go_enter Try.func29, Try.ntmps29
    go_wp2
    go_ret
    exact ⟨rfl, rfl⟩
end Go.Proofs.Ytnioecigjpifnaa
