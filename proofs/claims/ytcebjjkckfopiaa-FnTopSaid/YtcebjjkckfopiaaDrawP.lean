/-
  Light curves that are drawn.
-/
import Derived.Test.YtcebjjkckfopiaaDraw
import Derived.Test.YtcebjjkckfopiaaVWin
namespace Go.Proofs.Ytcebjjkckfopiaa
open Go.RowKit
set_option maxRecDepth 100000
/-- points as they are drawn -/
def CvOk (ps : List Pt) : Prop := ps.length ≤ 12 ∧ (∀ (i : Nat) (x : Pt), ps[i]? = some x → 0 ≤ x.time ∧ x.time ≤ 100000 ∧ 8000 ≤ x.mag ∧ x.mag ≤ 10000) ∧ ∀ (i : Nat) (x y : Pt), ps[i]? = some x → ps[i + 1]? = some y → x.time < y.time
def CvInv (ps : List Pt) (j : Nat) (A : Int) : Prop := ps.length = j ∧ 0 ≤ A ∧ A ≤ 8000 + 4000 * (j : Int) ∧ (∀ (i : Nat) (x : Pt), ps[i]? = some x → 0 ≤ x.time ∧ 8000 ≤ x.mag ∧ x.mag ≤ 10000 ∧ x.time < A) ∧ ∀ (i : Nat) (x y : Pt), ps[i]? = some x → ps[i + 1]? = some y → x.time < y.time
theorem CvInv.zero {A : Int} (h0 : 0 ≤ A) (h1 : A ≤ 8000) : CvInv [] 0 A := ⟨rfl, h0, by simpa using h1, fun i x hx => by simp at hx, fun i x y hx => by simp at hx⟩
theorem CvInv.step {ps : List Pt} {j : Nat} {A v u : Int} (h : CvInv ps j A) (hv : 0 ≤ v) (hv2 : v < 100) (hu : 0 ≤ u) (hu2 : u < 40) : CvInv (ps ++ [⟨A, 8000 + 20 * v⟩]) (j + 1) (A + 100 * (1 + u)) := by
  obtain ⟨h1, h2, h3, h4, h5⟩ := h
  refine ⟨by simp [h1], by omega, by omega, ?_, ?_⟩
  · intro i x hx
    rw [List.getElem?_append] at hx
    split at hx
    · have := h4 i x hx; omega
    · rename_i hi
      have : i - ps.length = 0 := by
        rcases Nat.eq_zero_or_pos (i - ps.length) with h | h
        · exact h
        · rw [List.getElem?_eq_none (by simp; omega)] at hx; cases hx
      rw [this] at hx
      simp at hx
      subst hx
      dsimp only
      omega
  · intro i x y hx hy
    by_cases hi : i + 1 < ps.length
    · rw [List.getElem?_append_left (by omega)] at hx
      rw [List.getElem?_append_left hi] at hy
      exact h5 i x y hx hy
    · have hlt := (List.getElem?_eq_some_iff.1 hy).1
      simp at hlt
      rw [List.getElem?_append_left (by omega)] at hx
      rw [List.getElem?_append_right (by omega), show i + 1 - ps.length = 0 by omega] at hy
      simp at hy
      subst hy
      exact (h4 i x hx).2.2.2
theorem CvInv.ok {ps : List Pt} {j : Nat} {A : Int} (h : CvInv ps j A) (hj : j ≤ 12) : CvOk ps := by
  obtain ⟨h1, h2, h3, h4, h5⟩ := h
  exact ⟨by omega, fun i x hx => by have := h4 i x hx; omega, h5⟩
def DrawnP (w0 w : World) (e : Ending) (w' : World) : Prop := ∃ (a' : Option Addr) (k c' : Nat) (ps : List Pt), e = .returned (.slice a' k c') ∧ CvOk ps ∧ Ow Pt.enc 2 w' w.heap.size 53 (.slice a' k c') k ps ∧ Below w0.heap.size w0 w'
end Go.Proofs.Ytcebjjkckfopiaa
