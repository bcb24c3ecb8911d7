/-
  The laws' small functions: too many bytes, a number out of bytes.
-/
import Derived.Test.YtcebjjkckfopiaaSrc
import Derived.Test.YtcebjjkckfopiaaMore
namespace Go.Proofs.Ytcebjjkckfopiaa
open Go.RowKit
set_option maxRecDepth 100000
set_option linter.unusedVariables false
theorem a2Long_any (a a' : Option Addr) (n n' c c' : Nat) (w : World) (hn : n ≤ 3000) (hn' : n' ≤ 3000) : Calls Try.prog 4 #[.slice a n c, .slice a' n' c'] w fun e w' => e = .returned (.bool false) ∧ w = w' := by
  have d0 : decide ((3000 : Int) < (n : Int)) = false := by simp; omega
  have d1 : decide ((3000 : Int) < (n' : Int)) = false := by simp; omega
  have d2 : decide (3000 < n) = false := by simp; omega
  have d3 : decide (3000 < n') = false := by simp; omega
  go_enter Try.func4, Try.ntmps4
  go_wp2_with fail
  go_ret
  exact ⟨rfl, rfl⟩
theorem a2Long_yes (a a' : Option Addr) (n n' c c' : Nat) (w : World) (hn : ¬ (n ≤ 3000 ∧ n' ≤ 3000)) (hm : n ≤ maxLen) (hm' : n' ≤ maxLen) : Calls Try.prog 4 #[.slice a n c, .slice a' n' c'] w fun e w' => e = .returned (.bool true) ∧ w = w' := by
  unfold maxLen at hm hm'
  by_cases h1 : n ≤ 3000
  · have h2 : ¬ n' ≤ 3000 := fun h => hn ⟨h1, h⟩
    have d0 : decide ((3000 : Int) < (n : Int)) = false := by simp; omega
    have d1 : decide ((3000 : Int) < (n' : Int)) = true := by simp; omega
    have d2 : decide (3000 < n) = false := by simp; omega
    have d3 : decide (3000 < n') = true := by simp; omega
    clear hn h1 h2
    go_enter Try.func4, Try.ntmps4
    go_wp2_with fail
    go_ret
    exact ⟨rfl, rfl⟩
  · have d0 : decide ((3000 : Int) < (n : Int)) = true := by simp; omega
    have d2 : decide (3000 < n) = true := by simp; omega
    clear hn h1
    go_enter Try.func4, Try.ntmps4
    go_wp2_with fail
    go_ret
    exact ⟨rfl, rfl⟩
end Go.Proofs.Ytcebjjkckfopiaa
