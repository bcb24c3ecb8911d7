/-
  The windows of a rule: the reference.
-/
import Derived.Test.YthjpfidlpdgeaaaWs4
import Derived.Test.YthjpfidlpdgeaaaWs2
import Derived.Deep.RegionHeld3
import Derived.BigQuiet
import Derived.BigRegion
namespace Go.Proofs.Ythjpfidlpdgeaaa
open Go.RowKit
set_option maxRecDepth 100000
set_option linter.unusedVariables false
set_option linter.unusedSimpArgs false
theorem cut_in {A B : List Win} (ha : InB A) (hb : InB B) : ∀ x ∈ cutL (cutL [] A) B, 0 ≤ x ∧ x ≤ 10000001 := fun x hx => by
  rw [cutL_mem, cutL_mem] at hx
  rcases hx with (hx | ⟨w, hw, h⟩) | ⟨w, hw, h⟩
  · cases hx
  · have := ha w hw; omega
  · have := hb w hw; omega
theorem mad_til {r : Int} {A B : List Win} {C : List Int} {i : Nat} {L : List Win} {x : Int} {y : Win} (h : MadQ r A B C i L) (ha : InB A) (hb : InB B) (hx : C[i]? = some x) (hy : y ∈ L) : 0 ≤ y.til ∧ y.til ≤ 10000000 := by
  have h0 := h.c_.1 y hy
  have h1 := ((h.m x hx).1 y.til).1 ⟨y, hy, h0, Int.le_refl _⟩
  have h2 : inWB A y.til = true ∨ inWB B y.til = true := by
    cases c1 : inWB A y.til
    · cases c2 : inWB B y.til
      · rw [c1, c2, ruleB_no] at h1; cases h1.1
      · exact .inr rfl
    · exact .inl rfl
  rcases h2 with h2 | h2
  · obtain ⟨w, hw, a, b⟩ := inWB_iff.1 h2
    have := ha w hw; omega
  · obtain ⟨w, hw, a, b⟩ := inWB_iff.1 h2
    have := hb w hw; omega
end Go.Proofs.Ythjpfidlpdgeaaa
