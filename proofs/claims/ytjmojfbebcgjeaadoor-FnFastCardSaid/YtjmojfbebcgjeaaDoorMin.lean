/-
  Minima, maxima.
-/
import Derived.Test.YtjmojfbebcgjeaaDoorWords
namespace Go.Proofs.YtjmojfbebcgjeaaDoor
open Go.RowKit
theorem l00Max_any (a b : Int) (w : World) : Calls Tryd.prog 66 #[.int .i64 a, .int .i64 b] w fun e w' => e = .returned (.int .i64 (max a b)) ∧ w = w' := by
  by_cases h : a > b
  · have hm : max a b = a := by omega
    rw [hm]
    clear hm
    go_enter Tryd.func66, Tryd.ntmps66
    go_wp2
    go_ret
    exact ⟨rfl, rfl⟩
  · have hm : max a b = b := by omega
    rw [hm]
    clear hm
    go_enter Tryd.func66, Tryd.ntmps66
    go_wp2
    go_ret
    exact ⟨rfl, rfl⟩
end Go.Proofs.YtjmojfbebcgjeaaDoor
