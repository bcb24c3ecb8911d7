/-
  Magnitudes, weights and models that are drawn.
-/
import Derived.Test.YtomlhicpjchdoaaGreatDoorErr6
import Derived.Test.YtomlhicpjchdoaaGreatDoorDrw
namespace Go.Proofs.YtomlhicpjchdoaaGreatDoor
open Go.RowKit
set_option maxRecDepth 100000
set_option linter.unusedVariables false
def Ml (x : Int) : Prop := -1000000 ≤ x ∧ x ≤ 1000000
/-- a drawn list of numbers -/
def DrI (C M : Nat) (w0 w : World) (b : Nat) (a : Option Addr) (n c p : Nat) (e : Ending) (w' : World) : Prop := ∃ (a' : Option Addr) (k c' : Nat) (L : List Int) (p' : Nat) (z' : Int), e = .returned (.slice a' k c') ∧ k ≤ M ∧ (∀ x ∈ L, I64 x) ∧ Ow eI 1 w' w.heap.size 2 (.slice a' k c') k L ∧ p' ≤ p + C ∧ SrcAt w0 w' b a n c p' z' ∧ But b w w'
theorem i64_lit {x : Int} (h : -9223372036854775808 ≤ x ∧ x ≤ 9223372036854775807) : I64 x := by unfold I64; omega
theorem all_snoc {α : Type} {P : α → Prop} {L : List α} {x : α} (h : ∀ y ∈ L, P y) (hx : P x) : ∀ y ∈ L ++ [x], P y := fun y hy => by
  rw [List.mem_append, List.mem_singleton] at hy
  rcases hy with hy | rfl
  · exact h y hy
  · exact hx
end Go.Proofs.YtomlhicpjchdoaaGreatDoor
