/-
  Models that are drawn; the draws of the law.
-/
import Derived.Test.YthmiahekijeehaaGreatErr6
import Derived.Test.YthmiahekijeehaaGreatDrw
import Derived.Test.YthmiahekijeehaaGreatWords
import Derived.Deep.RegionHeld3
namespace Go.Proofs.YthmiahekijeehaaGreat
open Go.RowKit
set_option maxRecDepth 100000
set_option linter.unusedVariables false
def Ml (x : Int) : Prop := -1000000 ≤ x ∧ x ≤ 1000000
/-- a drawn list of numbers -/
def DrI (C M : Nat) (w0 w : World) (b : Nat) (a : Option Addr) (n c p : Nat) (e : Ending) (w' : World) : Prop := ∃ (a' : Option Addr) (k c' : Nat) (L : List Int) (p' : Nat) (z' : Int), e = .returned (.slice a' k c') ∧ k ≤ M ∧ (∀ x ∈ L, I64 x) ∧ Ow eI 1 w' w.heap.size 2 (.slice a' k c') k L ∧ p' ≤ p + C ∧ SrcAt w0 w' b a n c p' z' ∧ But b w w'
theorem i64_lit {x : Int} (h : -9223372036854775808 ≤ x ∧ x ≤ 9223372036854775807) : I64 x := by unfold I64; omega
theorem all_snoc {α : Type} {P : α → Prop} {L : List α} {x : α} (h : ∀ y ∈ L, P y) (hx : P x) : ∀ y ∈ L ++ [x], P y := fun y hy => by
  rw [List.mem_append, List.mem_singleton] at hy
  rcases hy with hy | rfl
  · exact h y hy
  · exact hx
open Go.RowKit
open Go.RowKit
set_option maxRecDepth 100000
set_option linter.unusedVariables false
theorem Ow.cell1 {α : Type} {enc : α → List Value} {w : World} {base e g n cap i : Nat} {xs : List α} {x : α} {u : Value} (hk : ∀ x, (enc x).length = 1) (h : i < n) (hx : xs[i]? = some x) (hu : (enc x)[0]? = some u) (ho : Ow enc 1 w base e (.slice (some ⟨g, 0, none⟩) n cap) n xs) : w.cell? ⟨g, i, none⟩ = some u := by
  have h1 := World.ownsRow.cellAt ho i (by omega)
  rw [h1]
  have h2 := flat_get hk xs i x 0 hx (by decide)
  rw [Nat.mul_one, Nat.add_zero] at h2
  rw [h2]; exact hu
end Go.Proofs.YthmiahekijeehaaGreat
