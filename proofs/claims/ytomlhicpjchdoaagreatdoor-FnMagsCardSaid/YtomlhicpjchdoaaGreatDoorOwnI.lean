/-
  Rows of numbers: capacity, parts, copies.
-/
import Derived.Test.YtomlhicpjchdoaaGreatDoorErr6
namespace Go.Proofs.YtomlhicpjchdoaaGreatDoor
open Go.RowKit
set_option maxRecDepth 100000
set_option linter.unusedVariables false
theorem Ow.cap {w : World} {base e g n cap : Nat} {xs : List Int} (h : Ow eI 1 w base e (.slice (some ⟨g, 0, none⟩) n cap) n xs) : n ≤ cap := by
  rcases h.2 with ⟨h', _⟩ | ⟨g', cap', cur, h', _, _, hnc, _⟩
  · simp at h'
  · simp only [Value.slice.injEq, Option.some.injEq, Addr.mk.injEq, and_true, true_and] at h'
    omega
theorem Rd.takeI {w : World} {a : Option Addr} {xs : List Int} (h : Rd eI 1 w a xs) (m : Nat) : Rd eI 1 w a (xs.take m) := fun i x hx => by
  rw [List.getElem?_take] at hx
  split at hx
  · exact h i x hx
  · cases hx
theorem Rd.dropI {w : World} {b o : Nat} {xs : List Int} (h : Rd eI 1 w (some ⟨b, o, none⟩) xs) (m : Nat) : Rd eI 1 w (some ⟨b, o + m, none⟩) (xs.drop m) := fun i x hx => by
  rw [List.getElem?_drop] at hx
  obtain ⟨b', o', he, hlt, hc⟩ := h (m + i) x hx
  cases he
  exact ⟨b, o + m, rfl, hlt, fun j u hu => by have := hc j u hu; rw [show o + m + i * 1 + j = o + (m + i) * 1 + j by omega]; exact this⟩
end Go.Proofs.YtomlhicpjchdoaaGreatDoor
