/-
  Models that are drawn; the draws of the law.
-/
import Derived.Test.YtomlhicpjchdoaaGreatDoorErr7
import Derived.Test.YtomlhicpjchdoaaGreatDoorMin
import Derived.Deep.RegionHeld3
namespace Go.Proofs.YtomlhicpjchdoaaGreatDoor
open Go.RowKit
set_option maxRecDepth 100000
set_option linter.unusedVariables false
theorem Ow.cell1 {α : Type} {enc : α → List Value} {w : World} {base e g n cap i : Nat} {xs : List α} {x : α} {u : Value} (hk : ∀ x, (enc x).length = 1) (h : i < n) (hx : xs[i]? = some x) (hu : (enc x)[0]? = some u) (ho : Ow enc 1 w base e (.slice (some ⟨g, 0, none⟩) n cap) n xs) : w.cell? ⟨g, i, none⟩ = some u := by
  have h1 := World.ownsRow.cellAt ho i (by omega)
  rw [h1]
  have h2 := flat_get hk xs i x 0 hx (by decide)
  rw [Nat.mul_one, Nat.add_zero] at h2
  rw [h2]; exact hu
end Go.Proofs.YtomlhicpjchdoaaGreatDoor
